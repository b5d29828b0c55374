/- Part 4 of the texts of this claim, joined. -/
import Derived.Test.YtahkjagjcogeiaaGreatDoorZb3
set_option linter.unusedVariables false
/- The links that can be gone from a place, one by one: climb.chart.from and its iterator. -/
namespace Go.Proofs.YtahkjagjcogeiaaGreatDoor
open Go.RowKit Go.Shelf
attribute [local go_sem] Oper.semAt_some

/-- What comes: a link, where it leads, what it costs. -/
def outs (dk : Bool) (p : Price) (v : Int) (l : List Link) : List (Link × Int × Cost) := l.filterMap fun x => (leads dk p x v).map fun r => (x, r.1, r.2)
abbrev Out (dk : Bool) (p : Price) (v : Int) (l : List Link) := { y : Link × Int × Cost // y ∈ outs dk p v l }
def Out.enc {dk : Bool} {p : Price} {v : Int} {l : List Link} (y : Out dk p v l) : Array Value := #[linkV y.1.1, .agg #[.int .i64 y.1.2.1, .int .i64 y.1.2.2.a, .int .i64 y.1.2.2.b, .int .i64 y.1.2.2.c, .int .i64 y.1.2.2.d, .slice none 0 0]]
def allOut (dk : Bool) (p : Price) (v : Int) (l : List Link) : List (Out dk p v l) := (outs dk p v l).attach
/-- So many have come when k links are over. -/
def upto (dk : Bool) (p : Price) (v : Int) (l : List Link) (k : Nat) : List (Out dk p v l) := (allOut dk p v l).take (outs dk p v (l.take k)).length

theorem outs_append (dk : Bool) (p : Price) (v : Int) (l m : List Link) : outs dk p v (l ++ m) = outs dk p v l ++ outs dk p v m := by simp [outs]
theorem take_succ_of {l : List Link} {k : Nat} {x : Link} (hx : l[k]? = some x) : l.take (k + 1) = l.take k ++ [x] := by
 rw [List.take_add_one, hx]; rfl
theorem upto_none {dk : Bool} {p : Price} {v : Int} {l : List Link} {k : Nat} {x : Link} (hx : l[k]? = some x) (h : leads dk p x v = none) : upto dk p v l (k + 1) = upto dk p v l k := by
 unfold upto
 rw [take_succ_of hx, outs_append]
 simp [outs, h]
theorem out_at {dk : Bool} {p : Price} {v : Int} {l : List Link} {k : Nat} {x : Link} {r : Int × Cost} (hx : l[k]? = some x) (h : leads dk p x v = some r) : (outs dk p v l)[(outs dk p v (l.take k)).length]? = some (x, r.1, r.2) := by
 obtain ⟨hk, e⟩ := List.getElem?_eq_some_iff.1 hx
 have hl : l = l.take k ++ x :: l.drop (k + 1) := by
  have h1 := List.drop_eq_getElem_cons hk
  rw [e] at h1
  rw [← h1, List.take_append_drop]
 have hm : outs dk p v l = outs dk p v (l.take k) ++ (x, r.1, r.2) :: outs dk p v (l.drop (k + 1)) :=
  (congrArg (outs dk p v) hl).trans (by rw [outs_append]; simp [outs, h])
 rw [hm, List.getElem?_append_right (Nat.le_refl _)]
 simp
theorem upto_some {dk : Bool} {p : Price} {v : Int} {l : List Link} {k : Nat} {x : Link} {r : Int × Cost} (hx : l[k]? = some x) (h : leads dk p x v = some r) :
  ∃ y : Out dk p v l, y.1 = (x, r.1, r.2) ∧ upto dk p v l (k + 1) = upto dk p v l k ++ [y] ∧ (upto dk p v l k).length < (allOut dk p v l).length := by
 have ha := out_at hx h
 have hlt := (List.getElem?_eq_some_iff.1 ha).1
 refine ⟨⟨(x, r.1, r.2), List.mem_of_getElem? ha⟩, rfl, ?_, ?_⟩
 ·unfold upto
  have e : (outs dk p v (l.take (k + 1))).length = (outs dk p v (l.take k)).length + 1 := by
   rw [take_succ_of hx, outs_append]; simp [outs, h]
  have h2 : (allOut dk p v l)[(outs dk p v (l.take k)).length]? = some ⟨(x, r.1, r.2), List.mem_of_getElem? ha⟩ := by
   unfold allOut
   rw [List.getElem?_eq_getElem (by simpa using hlt), List.getElem_attach]
   congr 1
   exact Subtype.ext (by simpa [List.getElem?_eq_getElem hlt] using ha)
  rw [e, List.take_add_one, h2]; rfl
 ·unfold upto allOut
  rw [List.length_take, List.length_attach]
  omega
theorem upto_all (dk : Bool) (p : Price) (v : Int) (l : List Link) {k : Nat} (hk : l.length ≤ k) : upto dk p v l k = allOut dk p v l := by
 unfold upto
 rw [List.take_of_length_le hk, List.take_of_length_le (by unfold allOut; simp)]
theorem upto_pre (dk : Bool) (p : Price) (v : Int) (l : List Link) (k : Nat) : upto dk p v l k <+: allOut dk p v l := List.take_prefix _ _
theorem upto_zero (dk : Bool) (p : Price) (v : Int) (l : List Link) : upto dk p v l 0 = [] := by simp [upto, outs]

/-- What a round must keep for the iterator: what lay below n₀, and the iterator's two boxes. -/
def FromK (n₀ g1 g2 : Nat) (W W' : World) : Prop := Below n₀ W W' ∧ W'.heap[g1]? = W.heap[g1]? ∧ W'.heap[g2]? = W.heap[g2]?

/-- The iterator's own: its two boxes; what lay below stays. -/
structure FromIn (w1 : World) (g1 g2 : Nat) (T : Array Value) (place : Int) (W : World) : Prop where
 chart : Blk W g1 107 T
 place : Blk W g2 3 #[.int .i64 place]
 below : Below w1.heap.size w1 W
theorem FromIn.kept {w1 W W' : World} {g1 g2 : Nat} {T : Array Value} {place : Int} (h : FromIn w1 g1 g2 T place W) (hk : FromK w1.heap.size g1 g2 W W') : FromIn w1 g1 g2 T place W' :=
 ⟨hk.2.1.trans h.chart, hk.2.2.trans h.place, h.below.trans hk.1⟩
theorem FromIn.grow {w1 W W' : World} {g1 g2 : Nat} {T : Array Value} {place : Int} (h : FromIn w1 g1 g2 T place W) (hb : Below W.heap.size W W') : FromIn w1 g1 g2 T place W' :=
 ⟨h.chart.below hb h.chart.lt, h.place.below hb h.place.lt, h.below.trans (hb.mono h.below.size)⟩

structure YGh where
 b : Bool
theorem yieldedB {e : Ending} {A B : Prop} (h : (e = .returned (.bool true) ∧ A) ∨ (e = .returned (.bool false) ∧ B)) : ∃ bb, e = .returned (.bool bb) ∧ ((bb = true ∧ A) ∨ (bb = false ∧ B)) := by
 rcases h with ⟨h, a⟩ | ⟨h, a⟩
 ·exact ⟨true, h, .inl ⟨rfl, a⟩⟩
 ·exact ⟨false, h, .inr ⟨rfl, a⟩⟩

set_option maxRecDepth 100000 in
set_option maxHeartbeats 8000000 in
theorem from1_stops (n : Nat) (hn : 2 ≤ n) (A : Option Addr) (nn c : Nat) (A' : Option Addr) (m d : Nat) (dk : Bool) (F : FuncId) (C : Array Value) (p : Price) (t : Town) (place : Int) (g1 g2 : Nat) (w1 w : World)
  (hm : m ≤ 20) (ht : LinksAt w1 w1.heap.size A' m t.links) (hp : PriceAt w1 p F C) (hfit : ∀ x ∈ t.links, Fit x) (hin : FromIn w1 g1 g2 #[.slice A nn c, .slice A' m d, .bool dk, .func (.func F) #[] C] place w) :
  SeqStopsK Fence.wide n Tryz.prog 129 #[.pointer (some ⟨g1, 0, none⟩), .pointer (some ⟨g2, 0, none⟩)] Out.enc (FromK w1.heap.size g1 g2)
   (fun xs => xs = allOut dk p place t.links) (fun pre => pre <+: allOut dk p place t.links) (allOut dk p place t.links).length w := by
 intro l J Jx W0 hW hJ hJx hY h0
 have hin0 := hin.grow hW
 have HT := Lib.hid ht
 have HP := Lib.hid hp
 have HF := Lib.hid hfit
 have HLm := Lib.hid ht.len
 have HJ := Lib.hid hJ
 have HJx := Lib.hid hJx
 have HY := Lib.hid hY
 have H0 := Lib.hid h0
 have HIN := Lib.hid hin0
 have q0 := hin0.chart.cell 0
 have q1 : W0.cell? ⟨g1, 1, none⟩ = some (.slice A' m d) := hin0.chart.cell 1
 clear hin hin0 ht hp hfit hJ hJx hY h0 hW
 refine callsIn_of_wp Tryz.func129 rfl trivial ?_ rfl
 simp only [Tryz.ntmps129, List.size_toArray, List.length_cons, List.length_nil, Nat.reduceAdd, Nat.reduceSub, Array.replicate_succ, Array.replicate_zero, List.push_toArray, List.append_toArray, List.nil_append, List.cons_append]
 refine wpIn_scope_straight ?_
 gi_wp2
 refine wpIn_label ?_
 gi_wp2
 gi_loopw [10] (fun i wr => ∃ k : Nat, k ≤ m ∧ i = .int .i64 k ∧ J (upto dk p place t.links k) wr ∧ FromIn w1 g1 g2 #[.slice A nn c, .slice A' m d, .bool dk, .func (.func F) #[] C] place wr ∧ W0.heap.size ≤ wr.heap.size) (fun i _ => m - (intOf i).toNat)
 case atStart => exact ⟨0, Nat.zero_le _, rfl, by rw [upto_zero]; exact H0.out, HIN.out, Nat.le_refl _⟩
 case round =>
  obtain ⟨k, hk, rfl, hj, hi, hsz⟩ := hrel
  have HJs := Lib.hid hj
  have HI := Lib.hid hi
  have q2 : wr.cell? ⟨g1, 2, none⟩ = some (.bool dk) := hi.chart.cell 2
  have q3 : wr.cell? ⟨g2, 0, none⟩ = some (.int .i64 place) := hi.place.cell 0
  have l1 := hi.chart.lt
  have l2 := hi.place.lt
  clear hj hi q0 q1 H0 HIN
  by_cases hlt : k < m
  ·obtain ⟨b, off, x, rfl, hb, hx, hc0, hc1, hc2, hc3, hc4⟩ := (HT.out.below HI.out.below).cell hlt
   have hbl : b < wr.heap.size := Nat.lt_of_lt_of_le hb HI.out.below.size
   have HX := Lib.hid hx
   have HBL := Lib.hid hb
   have HFX := Lib.hid (HF.out x (List.mem_of_getElem? hx))
   clear hx hb
   by_cases hskip : dk = true ∧ 0 < x.steps
   ·obtain ⟨rfl, hst⟩ := hskip
    gi_wp2
    go_roundw
    case rel => exact ⟨k + 1, by omega, by go_num, by rw [upto_none HX.out (by unfold leads; rw [if_pos ⟨rfl, hst⟩])]; exact HJ.out _ _ _ none HJs.out (World.grownBy_alloc _ _ none) (fun r e => by cases e), HI.out.grow ((Below.refl _ _).alloc (Nat.le_refl _) _), by simp; omega⟩
    case measure => simp [intOf]; omega
   ·have hl : leads dk p x place = if x.fr = place then some (x.to, ⟨x.paces * p.pace + x.steps * (p.up + p.step), x.steps, x.paces, 1⟩) else if x.to = place then some (x.fr, ⟨x.paces * p.pace + x.steps * p.step, 0, x.paces, 1⟩) else none := by unfold leads; rw [if_neg hskip]
    have HLD := Lib.hid hl
    have HLT := Lib.hid hlt
    clear hl
    by_cases hfr : place = x.fr
    ·have hfr' : (place == x.fr) = true := by simpa using hfr
     have HFR := Lib.hid hfr
     clear hfr
     rcases (show dk = false ∨ dk = true ∧ ¬ 0 < x.steps by cases dk <;> simp_all) with rfl | ⟨rfl, hst⟩
     ·clear hskip
      have hL : leads false p x place = some (x.to, (costOf p x true)) := by rw [HLD.out]; rw [if_pos HFR.out.symm]; simp [costOf, priceOf]
      obtain ⟨y, hy1, hy2, hy3⟩ := upto_some HX.out hL
      have HYY : Hid (∀ W, J (upto false p place t.links k) W → YieldAt Fence.wide (n - 1) Tryz.prog l #[.agg #[.int .i64 x.id, .int .i64 x.fr, .int .i64 x.to, .int .i64 x.steps, .int .i64 x.paces], .agg #[.int .i64 x.to, .int .i64 (costOf p x true).a, .int .i64 (costOf p x true).b, .int .i64 (costOf p x true).c, .int .i64 (costOf p x true).d, .slice none 0 0]] W fun e W' =>
        (e = .returned (.bool true) ∧ J (upto false p place t.links (k + 1)) W' ∧ FromK w1.heap.size g1 g2 W W') ∨ (e = .returned (.bool false) ∧ Jx (upto false p place t.links (k + 1)) W')) := Lib.hid (fun W hj => by
       have := HY.out _ y W hj hy3
       unfold Out.enc at this
       rw [hy1] at this
       rw [hy2]
       exact this)
      clear hL hy1 hy2 hy3
      have B0 : Below wr.heap.size wr (wr.alloc (.cells #[.int .i64 x.id, .int .i64 x.fr, .int .i64 x.to, .int .i64 x.steps, .int .i64 x.paces] 52)).drew := below_drewN ((Below.refl _ _).alloc (Nat.le_refl _) _) 1
      have G0 : J (upto false p place t.links k) (wr.alloc (.cells #[.int .i64 x.id, .int .i64 x.fr, .int .i64 x.to, .int .i64 x.steps, .int .i64 x.paces] 52)).drew ∧ FromIn w1 g1 g2 #[.slice A nn c, .slice (some ⟨b, off, none⟩) m d, .bool false, .func (.func F) #[] C] place (wr.alloc (.cells #[.int .i64 x.id, .int .i64 x.fr, .int .i64 x.to, .int .i64 x.steps, .int .i64 x.paces] 52)).drew ∧ Blk (wr.alloc (.cells #[.int .i64 x.id, .int .i64 x.fr, .int .i64 x.to, .int .i64 x.steps, .int .i64 x.paces] 52)).drew wr.heap.size 52 #[.int .i64 x.id, .int .i64 x.fr, .int .i64 x.to, .int .i64 x.steps, .int .i64 x.paces] ∧ W0.heap.size ≤ (wr.alloc (.cells #[.int .i64 x.id, .int .i64 x.fr, .int .i64 x.to, .int .i64 x.steps, .int .i64 x.paces] 52)).drew.heap.size :=
       ⟨HJ.out _ _ _ none HJs.out (grown_of_below B0 none) (fun r e => by cases e), HI.out.grow B0, Blk.new wr _ _, Nat.le_trans hsz B0.size⟩
      clear B0
      gi_wp2
      refine wpIn_region_stepsD (by kernel_rfl) (by kernel_rfl) (fun σ : YGh × (Nat → Value) => { tmps := #[.func (.yield l) #[] #[], .pointer (some ⟨g1, 0, none⟩), .pointer (some ⟨g2, 0, none⟩), undef, undef, .pointer (some ⟨wr.heap.size, 0, none⟩), .pointer (some ⟨g1, 0, none⟩), .pointer (some ⟨g1, 1, none⟩), .slice (some ⟨b, off, none⟩) m d, .int .i64 (m : Int), .int .i64 (k : Int), .bool true, .pointer (some ⟨b, off + k * 5, none⟩), .agg #[.int .i64 x.id, .int .i64 x.fr, .int .i64 x.to, .int .i64 x.steps, .int .i64 x.paces], .pointer (some ⟨g1, 2, none⟩), .bool false, .bool false, undef, undef, undef, .bool false, .int .i64 place, .bool true, .pointer (some ⟨wr.heap.size, 1, none⟩), .int .i64 x.fr, .bool true, σ.2 26, σ.2 27, σ.2 28, σ.2 29, σ.2 30, σ.2 31, σ.2 32, σ.2 33, σ.2 34, σ.2 35, u36, u37, u38, u39, u40, u41, u42, u43, u44, u45, u46, u47, u48, u49, u50], defers := [] })
       (fun L σ W => (L 8 = false → J (upto false p place t.links k) W ∧ FromIn w1 g1 g2 #[.slice A nn c, .slice (some ⟨b, off, none⟩) m d, .bool false, .func (.func F) #[] C] place W ∧ Blk W wr.heap.size 52 #[.int .i64 x.id, .int .i64 x.fr, .int .i64 x.to, .int .i64 x.steps, .int .i64 x.paces] ∧ W0.heap.size ≤ W.heap.size) ∧ (L 8 = true → (σ.1.b = true ∧ J (upto false p place t.links (k + 1)) W ∧ FromIn w1 g1 g2 #[.slice A nn c, .slice (some ⟨b, off, none⟩) m d, .bool false, .func (.func F) #[] C] place W ∧ W0.heap.size ≤ W.heap.size) ∨ (σ.1.b = false ∧ Jx (upto false p place t.links (k + 1)) W)) ∧ (L 0 = true → σ.2 26 = .func (.yield l) #[] #[]) ∧ (L 1 = true → σ.2 27 = .agg #[.int .i64 x.id, .int .i64 x.fr, .int .i64 x.to, .int .i64 x.steps, .int .i64 x.paces]) ∧ (L 2 = true → σ.2 28 = .pointer (some ⟨wr.heap.size, 2, none⟩)) ∧ (L 3 = true → σ.2 29 = .int .i64 x.to) ∧ (L 4 = true → σ.2 30 = .agg #[.slice A nn c, .slice (some ⟨b, off, none⟩) m d, .bool false, .func (.func F) #[] C]) ∧ (L 5 = true → σ.2 31 = .agg #[.int .i64 x.id, .int .i64 x.fr, .int .i64 x.to, .int .i64 x.steps, .int .i64 x.paces]) ∧ (L 6 = true → σ.2 32 = .agg #[.int .i64 (costOf p x true).a, .int .i64 (costOf p x true).b, .int .i64 (costOf p x true).c, .int .i64 (costOf p x true).d]) ∧ (L 7 = true → σ.2 33 = .agg #[.int .i64 x.to, .int .i64 (costOf p x true).a, .int .i64 (costOf p x true).b, .int .i64 (costOf p x true).c, .int .i64 (costOf p x true).d, .slice none 0 0]) ∧ (L 8 = true → σ.2 34 = .bool σ.1.b) ∧ (L 9 = true → σ.2 35 = .bool (!σ.1.b)))
       (⟨false⟩, fun k => (#[u26, u27, u28, u29, u30, u31, u32, u33, u34, u35] : Array Value).getD (k - 26) undef) rfl ?_ ?_ ?_
      ·exact ⟨(fun _ => G0), (fun h => by cases h), (fun h => by cases h), (fun h => by cases h), (fun h => by cases h), (fun h => by cases h), (fun h => by cases h), (fun h => by cases h), (fun h => by cases h), (fun h => by cases h), (fun h => by cases h), (fun h => by cases h)⟩
      ·refine ⟨?_, ?_, ?_, ?_, ?_, ?_, ?_, ?_, ?_, ?_, trivial⟩
       ·rintro L ⟨gh, s⟩ W hu hd hdn ⟨gJ, gY, f0, f1, f2, f3, f4, f5, f6, f7, f8, f9⟩ K Q hK
        try dsimp only at gJ gY f0 f1 f2 f3 f4 f5 f6 f7 f8 f9 ⊢
        have HF := Lib.hid (show (L 8 = false → J (upto false p place t.links k) W ∧ FromIn w1 g1 g2 #[.slice A nn c, .slice (some ⟨b, off, none⟩) m d, .bool false, .func (.func F) #[] C] place W ∧ Blk W wr.heap.size 52 #[.int .i64 x.id, .int .i64 x.fr, .int .i64 x.to, .int .i64 x.steps, .int .i64 x.paces] ∧ W0.heap.size ≤ W.heap.size) ∧ (L 8 = true → (gh.b = true ∧ J (upto false p place t.links (k + 1)) W ∧ FromIn w1 g1 g2 #[.slice A nn c, .slice (some ⟨b, off, none⟩) m d, .bool false, .func (.func F) #[] C] place W ∧ W0.heap.size ≤ W.heap.size) ∨ (gh.b = false ∧ Jx (upto false p place t.links (k + 1)) W)) ∧ (L 0 = true → s 26 = .func (.yield l) #[] #[]) ∧ (L 1 = true → s 27 = .agg #[.int .i64 x.id, .int .i64 x.fr, .int .i64 x.to, .int .i64 x.steps, .int .i64 x.paces]) ∧ (L 2 = true → s 28 = .pointer (some ⟨wr.heap.size, 2, none⟩)) ∧ (L 3 = true → s 29 = .int .i64 x.to) ∧ (L 4 = true → s 30 = .agg #[.slice A nn c, .slice (some ⟨b, off, none⟩) m d, .bool false, .func (.func F) #[] C]) ∧ (L 5 = true → s 31 = .agg #[.int .i64 x.id, .int .i64 x.fr, .int .i64 x.to, .int .i64 x.steps, .int .i64 x.paces]) ∧ (L 6 = true → s 32 = .agg #[.int .i64 (costOf p x true).a, .int .i64 (costOf p x true).b, .int .i64 (costOf p x true).c, .int .i64 (costOf p x true).d]) ∧ (L 7 = true → s 33 = .agg #[.int .i64 x.to, .int .i64 (costOf p x true).a, .int .i64 (costOf p x true).b, .int .i64 (costOf p x true).c, .int .i64 (costOf p x true).d, .slice none 0 0]) ∧ (L 8 = true → s 34 = .bool gh.b) ∧ (L 9 = true → s 35 = .bool (!gh.b)) from ⟨gJ, gY, f0, f1, f2, f3, f4, f5, f6, f7, f8, f9⟩)
        clear f9 f8 f7 f6 f5 f4 f3 f2 f1 f0 gY gJ hd
        try simp only
        gi_wp2
        obtain ⟨gJ, gY, f0, f1, f2, f3, f4, f5, f6, f7, f8, f9⟩ := HF.out
        exact hK (gh, (upd s 26 (.func (.yield l) #[] #[]))) _ ⟨gJ, gY, (fun _ => rfl), f1, f2, f3, f4, f5, f6, f7, f8, f9⟩
       ·rintro L ⟨gh, s⟩ W hu hd hdn ⟨gJ, gY, f0, f1, f2, f3, f4, f5, f6, f7, f8, f9⟩ K Q hK
        try dsimp only at gJ gY f0 f1 f2 f3 f4 f5 f6 f7 f8 f9 ⊢
        have h8 : L 8 = false := by
         cases hc : L 8 with
         | false => rfl
         | true => exact hdn.no 8 1 hc rfl hu
        have G := (gJ h8).2.2.1
        have c0 : W.cell? ⟨wr.heap.size, 0, none⟩ = some (.int .i64 x.id) := G.cell 0
        have c1 : W.cell? ⟨wr.heap.size, 1, none⟩ = some (.int .i64 x.fr) := G.cell 1
        have c2 : W.cell? ⟨wr.heap.size, 2, none⟩ = some (.int .i64 x.to) := G.cell 2
        have c3 : W.cell? ⟨wr.heap.size, 3, none⟩ = some (.int .i64 x.steps) := G.cell 3
        have c4 : W.cell? ⟨wr.heap.size, 4, none⟩ = some (.int .i64 x.paces) := G.cell 4
        clear G
        have HF := Lib.hid (show (L 8 = false → J (upto false p place t.links k) W ∧ FromIn w1 g1 g2 #[.slice A nn c, .slice (some ⟨b, off, none⟩) m d, .bool false, .func (.func F) #[] C] place W ∧ Blk W wr.heap.size 52 #[.int .i64 x.id, .int .i64 x.fr, .int .i64 x.to, .int .i64 x.steps, .int .i64 x.paces] ∧ W0.heap.size ≤ W.heap.size) ∧ (L 8 = true → (gh.b = true ∧ J (upto false p place t.links (k + 1)) W ∧ FromIn w1 g1 g2 #[.slice A nn c, .slice (some ⟨b, off, none⟩) m d, .bool false, .func (.func F) #[] C] place W ∧ W0.heap.size ≤ W.heap.size) ∨ (gh.b = false ∧ Jx (upto false p place t.links (k + 1)) W)) ∧ (L 0 = true → s 26 = .func (.yield l) #[] #[]) ∧ (L 1 = true → s 27 = .agg #[.int .i64 x.id, .int .i64 x.fr, .int .i64 x.to, .int .i64 x.steps, .int .i64 x.paces]) ∧ (L 2 = true → s 28 = .pointer (some ⟨wr.heap.size, 2, none⟩)) ∧ (L 3 = true → s 29 = .int .i64 x.to) ∧ (L 4 = true → s 30 = .agg #[.slice A nn c, .slice (some ⟨b, off, none⟩) m d, .bool false, .func (.func F) #[] C]) ∧ (L 5 = true → s 31 = .agg #[.int .i64 x.id, .int .i64 x.fr, .int .i64 x.to, .int .i64 x.steps, .int .i64 x.paces]) ∧ (L 6 = true → s 32 = .agg #[.int .i64 (costOf p x true).a, .int .i64 (costOf p x true).b, .int .i64 (costOf p x true).c, .int .i64 (costOf p x true).d]) ∧ (L 7 = true → s 33 = .agg #[.int .i64 x.to, .int .i64 (costOf p x true).a, .int .i64 (costOf p x true).b, .int .i64 (costOf p x true).c, .int .i64 (costOf p x true).d, .slice none 0 0]) ∧ (L 8 = true → s 34 = .bool gh.b) ∧ (L 9 = true → s 35 = .bool (!gh.b)) from ⟨gJ, gY, f0, f1, f2, f3, f4, f5, f6, f7, f8, f9⟩)
        clear f9 f8 f7 f6 f5 f4 f3 f2 f1 f0 gY gJ hd
        try simp only
        gi_wp2
        obtain ⟨gJ, gY, f0, f1, f2, f3, f4, f5, f6, f7, f8, f9⟩ := HF.out
        exact hK (gh, (upd s 27 (.agg #[.int .i64 x.id, .int .i64 x.fr, .int .i64 x.to, .int .i64 x.steps, .int .i64 x.paces]))) _ ⟨gJ, gY, f0, (fun _ => rfl), f2, f3, f4, f5, f6, f7, f8, f9⟩
       ·rintro L ⟨gh, s⟩ W hu hd hdn ⟨gJ, gY, f0, f1, f2, f3, f4, f5, f6, f7, f8, f9⟩ K Q hK
        try dsimp only at gJ gY f0 f1 f2 f3 f4 f5 f6 f7 f8 f9 ⊢
        have HF := Lib.hid (show (L 8 = false → J (upto false p place t.links k) W ∧ FromIn w1 g1 g2 #[.slice A nn c, .slice (some ⟨b, off, none⟩) m d, .bool false, .func (.func F) #[] C] place W ∧ Blk W wr.heap.size 52 #[.int .i64 x.id, .int .i64 x.fr, .int .i64 x.to, .int .i64 x.steps, .int .i64 x.paces] ∧ W0.heap.size ≤ W.heap.size) ∧ (L 8 = true → (gh.b = true ∧ J (upto false p place t.links (k + 1)) W ∧ FromIn w1 g1 g2 #[.slice A nn c, .slice (some ⟨b, off, none⟩) m d, .bool false, .func (.func F) #[] C] place W ∧ W0.heap.size ≤ W.heap.size) ∨ (gh.b = false ∧ Jx (upto false p place t.links (k + 1)) W)) ∧ (L 0 = true → s 26 = .func (.yield l) #[] #[]) ∧ (L 1 = true → s 27 = .agg #[.int .i64 x.id, .int .i64 x.fr, .int .i64 x.to, .int .i64 x.steps, .int .i64 x.paces]) ∧ (L 2 = true → s 28 = .pointer (some ⟨wr.heap.size, 2, none⟩)) ∧ (L 3 = true → s 29 = .int .i64 x.to) ∧ (L 4 = true → s 30 = .agg #[.slice A nn c, .slice (some ⟨b, off, none⟩) m d, .bool false, .func (.func F) #[] C]) ∧ (L 5 = true → s 31 = .agg #[.int .i64 x.id, .int .i64 x.fr, .int .i64 x.to, .int .i64 x.steps, .int .i64 x.paces]) ∧ (L 6 = true → s 32 = .agg #[.int .i64 (costOf p x true).a, .int .i64 (costOf p x true).b, .int .i64 (costOf p x true).c, .int .i64 (costOf p x true).d]) ∧ (L 7 = true → s 33 = .agg #[.int .i64 x.to, .int .i64 (costOf p x true).a, .int .i64 (costOf p x true).b, .int .i64 (costOf p x true).c, .int .i64 (costOf p x true).d, .slice none 0 0]) ∧ (L 8 = true → s 34 = .bool gh.b) ∧ (L 9 = true → s 35 = .bool (!gh.b)) from ⟨gJ, gY, f0, f1, f2, f3, f4, f5, f6, f7, f8, f9⟩)
        clear f9 f8 f7 f6 f5 f4 f3 f2 f1 f0 gY gJ hd
        try simp only
        gi_wp2
        obtain ⟨gJ, gY, f0, f1, f2, f3, f4, f5, f6, f7, f8, f9⟩ := HF.out
        exact hK (gh, (upd s 28 (.pointer (some ⟨wr.heap.size, 2, none⟩)))) _ ⟨gJ, gY, f0, f1, (fun _ => rfl), f3, f4, f5, f6, f7, f8, f9⟩
       ·rintro L ⟨gh, s⟩ W hu hd hdn ⟨gJ, gY, f0, f1, f2, f3, f4, f5, f6, f7, f8, f9⟩ K Q hK
        try dsimp only at gJ gY f0 f1 f2 f3 f4 f5 f6 f7 f8 f9 ⊢
        have e2 := f2 (hd.at_ 2 rfl)
        have h8 : L 8 = false := by
         cases hc : L 8 with
         | false => rfl
         | true => exact hdn.no 7 3 (hdn.at_ 8 7 hc rfl) rfl hu
        have G := (gJ h8).2.2.1
        have c0 : W.cell? ⟨wr.heap.size, 0, none⟩ = some (.int .i64 x.id) := G.cell 0
        have c1 : W.cell? ⟨wr.heap.size, 1, none⟩ = some (.int .i64 x.fr) := G.cell 1
        have c2 : W.cell? ⟨wr.heap.size, 2, none⟩ = some (.int .i64 x.to) := G.cell 2
        have c3 : W.cell? ⟨wr.heap.size, 3, none⟩ = some (.int .i64 x.steps) := G.cell 3
        have c4 : W.cell? ⟨wr.heap.size, 4, none⟩ = some (.int .i64 x.paces) := G.cell 4
        clear G
        have HF := Lib.hid (show (L 8 = false → J (upto false p place t.links k) W ∧ FromIn w1 g1 g2 #[.slice A nn c, .slice (some ⟨b, off, none⟩) m d, .bool false, .func (.func F) #[] C] place W ∧ Blk W wr.heap.size 52 #[.int .i64 x.id, .int .i64 x.fr, .int .i64 x.to, .int .i64 x.steps, .int .i64 x.paces] ∧ W0.heap.size ≤ W.heap.size) ∧ (L 8 = true → (gh.b = true ∧ J (upto false p place t.links (k + 1)) W ∧ FromIn w1 g1 g2 #[.slice A nn c, .slice (some ⟨b, off, none⟩) m d, .bool false, .func (.func F) #[] C] place W ∧ W0.heap.size ≤ W.heap.size) ∨ (gh.b = false ∧ Jx (upto false p place t.links (k + 1)) W)) ∧ (L 0 = true → s 26 = .func (.yield l) #[] #[]) ∧ (L 1 = true → s 27 = .agg #[.int .i64 x.id, .int .i64 x.fr, .int .i64 x.to, .int .i64 x.steps, .int .i64 x.paces]) ∧ (L 2 = true → s 28 = .pointer (some ⟨wr.heap.size, 2, none⟩)) ∧ (L 3 = true → s 29 = .int .i64 x.to) ∧ (L 4 = true → s 30 = .agg #[.slice A nn c, .slice (some ⟨b, off, none⟩) m d, .bool false, .func (.func F) #[] C]) ∧ (L 5 = true → s 31 = .agg #[.int .i64 x.id, .int .i64 x.fr, .int .i64 x.to, .int .i64 x.steps, .int .i64 x.paces]) ∧ (L 6 = true → s 32 = .agg #[.int .i64 (costOf p x true).a, .int .i64 (costOf p x true).b, .int .i64 (costOf p x true).c, .int .i64 (costOf p x true).d]) ∧ (L 7 = true → s 33 = .agg #[.int .i64 x.to, .int .i64 (costOf p x true).a, .int .i64 (costOf p x true).b, .int .i64 (costOf p x true).c, .int .i64 (costOf p x true).d, .slice none 0 0]) ∧ (L 8 = true → s 34 = .bool gh.b) ∧ (L 9 = true → s 35 = .bool (!gh.b)) from ⟨gJ, gY, f0, f1, f2, f3, f4, f5, f6, f7, f8, f9⟩)
        clear f9 f8 f7 f6 f5 f4 f3 f2 f1 f0 gY gJ hd
        try simp only at e2 ⊢
        gi_wp2
        obtain ⟨gJ, gY, f0, f1, f2, f3, f4, f5, f6, f7, f8, f9⟩ := HF.out
        exact hK (gh, (upd (upd s 28 (.pointer (some ⟨wr.heap.size, 2, none⟩))) 29 (.int .i64 x.to))) _ ⟨gJ, gY, f0, f1, (fun _ => rfl), (fun _ => rfl), f4, f5, f6, f7, f8, f9⟩
       ·rintro L ⟨gh, s⟩ W hu hd hdn ⟨gJ, gY, f0, f1, f2, f3, f4, f5, f6, f7, f8, f9⟩ K Q hK
        try dsimp only at gJ gY f0 f1 f2 f3 f4 f5 f6 f7 f8 f9 ⊢
        have h8 : L 8 = false := by
         cases hc : L 8 with
         | false => rfl
         | true => exact hdn.no 6 4 (hdn.at_ 8 6 hc rfl) rfl hu
        have G := (gJ h8).2.1.chart
        have c0 : W.cell? ⟨g1, 0, none⟩ = some (.slice A nn c) := G.cell 0
        have c1 : W.cell? ⟨g1, 1, none⟩ = some (.slice (some ⟨b, off, none⟩) m d) := G.cell 1
        have c2 : W.cell? ⟨g1, 2, none⟩ = some (.bool false) := G.cell 2
        have c3 : W.cell? ⟨g1, 3, none⟩ = some (.func (.func F) #[] C) := G.cell 3
        clear G
        have HF := Lib.hid (show (L 8 = false → J (upto false p place t.links k) W ∧ FromIn w1 g1 g2 #[.slice A nn c, .slice (some ⟨b, off, none⟩) m d, .bool false, .func (.func F) #[] C] place W ∧ Blk W wr.heap.size 52 #[.int .i64 x.id, .int .i64 x.fr, .int .i64 x.to, .int .i64 x.steps, .int .i64 x.paces] ∧ W0.heap.size ≤ W.heap.size) ∧ (L 8 = true → (gh.b = true ∧ J (upto false p place t.links (k + 1)) W ∧ FromIn w1 g1 g2 #[.slice A nn c, .slice (some ⟨b, off, none⟩) m d, .bool false, .func (.func F) #[] C] place W ∧ W0.heap.size ≤ W.heap.size) ∨ (gh.b = false ∧ Jx (upto false p place t.links (k + 1)) W)) ∧ (L 0 = true → s 26 = .func (.yield l) #[] #[]) ∧ (L 1 = true → s 27 = .agg #[.int .i64 x.id, .int .i64 x.fr, .int .i64 x.to, .int .i64 x.steps, .int .i64 x.paces]) ∧ (L 2 = true → s 28 = .pointer (some ⟨wr.heap.size, 2, none⟩)) ∧ (L 3 = true → s 29 = .int .i64 x.to) ∧ (L 4 = true → s 30 = .agg #[.slice A nn c, .slice (some ⟨b, off, none⟩) m d, .bool false, .func (.func F) #[] C]) ∧ (L 5 = true → s 31 = .agg #[.int .i64 x.id, .int .i64 x.fr, .int .i64 x.to, .int .i64 x.steps, .int .i64 x.paces]) ∧ (L 6 = true → s 32 = .agg #[.int .i64 (costOf p x true).a, .int .i64 (costOf p x true).b, .int .i64 (costOf p x true).c, .int .i64 (costOf p x true).d]) ∧ (L 7 = true → s 33 = .agg #[.int .i64 x.to, .int .i64 (costOf p x true).a, .int .i64 (costOf p x true).b, .int .i64 (costOf p x true).c, .int .i64 (costOf p x true).d, .slice none 0 0]) ∧ (L 8 = true → s 34 = .bool gh.b) ∧ (L 9 = true → s 35 = .bool (!gh.b)) from ⟨gJ, gY, f0, f1, f2, f3, f4, f5, f6, f7, f8, f9⟩)
        clear f9 f8 f7 f6 f5 f4 f3 f2 f1 f0 gY gJ hd
        try simp only
        gi_wp2
        obtain ⟨gJ, gY, f0, f1, f2, f3, f4, f5, f6, f7, f8, f9⟩ := HF.out
        exact hK (gh, (upd s 30 (.agg #[.slice A nn c, .slice (some ⟨b, off, none⟩) m d, .bool false, .func (.func F) #[] C]))) _ ⟨gJ, gY, f0, f1, f2, f3, (fun _ => rfl), f5, f6, f7, f8, f9⟩
       ·rintro L ⟨gh, s⟩ W hu hd hdn ⟨gJ, gY, f0, f1, f2, f3, f4, f5, f6, f7, f8, f9⟩ K Q hK
        try dsimp only at gJ gY f0 f1 f2 f3 f4 f5 f6 f7 f8 f9 ⊢
        have h8 : L 8 = false := by
         cases hc : L 8 with
         | false => rfl
         | true => exact hdn.no 6 5 (hdn.at_ 8 6 hc rfl) rfl hu
        have G := (gJ h8).2.2.1
        have c0 : W.cell? ⟨wr.heap.size, 0, none⟩ = some (.int .i64 x.id) := G.cell 0
        have c1 : W.cell? ⟨wr.heap.size, 1, none⟩ = some (.int .i64 x.fr) := G.cell 1
        have c2 : W.cell? ⟨wr.heap.size, 2, none⟩ = some (.int .i64 x.to) := G.cell 2
        have c3 : W.cell? ⟨wr.heap.size, 3, none⟩ = some (.int .i64 x.steps) := G.cell 3
        have c4 : W.cell? ⟨wr.heap.size, 4, none⟩ = some (.int .i64 x.paces) := G.cell 4
        clear G
        have HF := Lib.hid (show (L 8 = false → J (upto false p place t.links k) W ∧ FromIn w1 g1 g2 #[.slice A nn c, .slice (some ⟨b, off, none⟩) m d, .bool false, .func (.func F) #[] C] place W ∧ Blk W wr.heap.size 52 #[.int .i64 x.id, .int .i64 x.fr, .int .i64 x.to, .int .i64 x.steps, .int .i64 x.paces] ∧ W0.heap.size ≤ W.heap.size) ∧ (L 8 = true → (gh.b = true ∧ J (upto false p place t.links (k + 1)) W ∧ FromIn w1 g1 g2 #[.slice A nn c, .slice (some ⟨b, off, none⟩) m d, .bool false, .func (.func F) #[] C] place W ∧ W0.heap.size ≤ W.heap.size) ∨ (gh.b = false ∧ Jx (upto false p place t.links (k + 1)) W)) ∧ (L 0 = true → s 26 = .func (.yield l) #[] #[]) ∧ (L 1 = true → s 27 = .agg #[.int .i64 x.id, .int .i64 x.fr, .int .i64 x.to, .int .i64 x.steps, .int .i64 x.paces]) ∧ (L 2 = true → s 28 = .pointer (some ⟨wr.heap.size, 2, none⟩)) ∧ (L 3 = true → s 29 = .int .i64 x.to) ∧ (L 4 = true → s 30 = .agg #[.slice A nn c, .slice (some ⟨b, off, none⟩) m d, .bool false, .func (.func F) #[] C]) ∧ (L 5 = true → s 31 = .agg #[.int .i64 x.id, .int .i64 x.fr, .int .i64 x.to, .int .i64 x.steps, .int .i64 x.paces]) ∧ (L 6 = true → s 32 = .agg #[.int .i64 (costOf p x true).a, .int .i64 (costOf p x true).b, .int .i64 (costOf p x true).c, .int .i64 (costOf p x true).d]) ∧ (L 7 = true → s 33 = .agg #[.int .i64 x.to, .int .i64 (costOf p x true).a, .int .i64 (costOf p x true).b, .int .i64 (costOf p x true).c, .int .i64 (costOf p x true).d, .slice none 0 0]) ∧ (L 8 = true → s 34 = .bool gh.b) ∧ (L 9 = true → s 35 = .bool (!gh.b)) from ⟨gJ, gY, f0, f1, f2, f3, f4, f5, f6, f7, f8, f9⟩)
        clear f9 f8 f7 f6 f5 f4 f3 f2 f1 f0 gY gJ hd
        try simp only
        gi_wp2
        obtain ⟨gJ, gY, f0, f1, f2, f3, f4, f5, f6, f7, f8, f9⟩ := HF.out
        exact hK (gh, (upd s 31 (.agg #[.int .i64 x.id, .int .i64 x.fr, .int .i64 x.to, .int .i64 x.steps, .int .i64 x.paces]))) _ ⟨gJ, gY, f0, f1, f2, f3, f4, (fun _ => rfl), f6, f7, f8, f9⟩
       ·rintro L ⟨gh, s⟩ W hu hd hdn ⟨gJ, gY, f0, f1, f2, f3, f4, f5, f6, f7, f8, f9⟩ K Q hK
        try dsimp only at gJ gY f0 f1 f2 f3 f4 f5 f6 f7 f8 f9 ⊢
        have e4 := f4 (hd.at_ 4 rfl)
        have e5 := f5 (hd.at_ 5 rfl)
        have h8 : L 8 = false := by
         cases hc : L 8 with
         | false => rfl
         | true => exact hdn.no 8 6 hc rfl hu
        have GJ := Lib.hid (gJ h8)
        have HF := Lib.hid (show (L 8 = false → J (upto false p place t.links k) W ∧ FromIn w1 g1 g2 #[.slice A nn c, .slice (some ⟨b, off, none⟩) m d, .bool false, .func (.func F) #[] C] place W ∧ Blk W wr.heap.size 52 #[.int .i64 x.id, .int .i64 x.fr, .int .i64 x.to, .int .i64 x.steps, .int .i64 x.paces] ∧ W0.heap.size ≤ W.heap.size) ∧ (L 8 = true → (gh.b = true ∧ J (upto false p place t.links (k + 1)) W ∧ FromIn w1 g1 g2 #[.slice A nn c, .slice (some ⟨b, off, none⟩) m d, .bool false, .func (.func F) #[] C] place W ∧ W0.heap.size ≤ W.heap.size) ∨ (gh.b = false ∧ Jx (upto false p place t.links (k + 1)) W)) ∧ (L 0 = true → s 26 = .func (.yield l) #[] #[]) ∧ (L 1 = true → s 27 = .agg #[.int .i64 x.id, .int .i64 x.fr, .int .i64 x.to, .int .i64 x.steps, .int .i64 x.paces]) ∧ (L 2 = true → s 28 = .pointer (some ⟨wr.heap.size, 2, none⟩)) ∧ (L 3 = true → s 29 = .int .i64 x.to) ∧ (L 4 = true → s 30 = .agg #[.slice A nn c, .slice (some ⟨b, off, none⟩) m d, .bool false, .func (.func F) #[] C]) ∧ (L 5 = true → s 31 = .agg #[.int .i64 x.id, .int .i64 x.fr, .int .i64 x.to, .int .i64 x.steps, .int .i64 x.paces]) ∧ (L 6 = true → s 32 = .agg #[.int .i64 (costOf p x true).a, .int .i64 (costOf p x true).b, .int .i64 (costOf p x true).c, .int .i64 (costOf p x true).d]) ∧ (L 7 = true → s 33 = .agg #[.int .i64 x.to, .int .i64 (costOf p x true).a, .int .i64 (costOf p x true).b, .int .i64 (costOf p x true).c, .int .i64 (costOf p x true).d, .slice none 0 0]) ∧ (L 8 = true → s 34 = .bool gh.b) ∧ (L 9 = true → s 35 = .bool (!gh.b)) from ⟨gJ, gY, f0, f1, f2, f3, f4, f5, f6, f7, f8, f9⟩)
        clear f9 f8 f7 f6 f5 f4 f3 f2 f1 f0 gY gJ hd
        try simp only at e4 e5 ⊢
        gi_wp2
        refine ⟨trivial, fun _ => by omega, (callsIn_wide.2 (cost_any A nn c (some ⟨b, off, none⟩) m d false F C p x true W (HP.out.below GJ.out.2.1.below) HFX.out)).mono ?_⟩
        rintro e W2 ⟨rfl, hb⟩
        gi_wp2
        obtain ⟨gJ, gY, f0, f1, f2, f3, f4, f5, f6, f7, f8, f9⟩ := HF.out
        exact hK (gh, (upd (upd (upd s 30 (.agg #[.slice A nn c, .slice (some ⟨b, off, none⟩) m d, .bool false, .func (.func F) #[] C])) 31 (.agg #[.int .i64 x.id, .int .i64 x.fr, .int .i64 x.to, .int .i64 x.steps, .int .i64 x.paces])) 32 (.agg #[.int .i64 (costOf p x true).a, .int .i64 (costOf p x true).b, .int .i64 (costOf p x true).c, .int .i64 (costOf p x true).d]))) _ ⟨(fun _ => ⟨HJ.out _ _ _ none GJ.out.1 (grown_of_below hb none) (fun r e => by cases e), GJ.out.2.1.grow hb, GJ.out.2.2.1.below hb GJ.out.2.2.1.lt, Nat.le_trans GJ.out.2.2.2 hb.size⟩), (fun h => hdn.no 8 6 h rfl hu), f0, f1, f2, f3, (fun _ => rfl), (fun _ => rfl), (fun _ => rfl), f7, f8, f9⟩
       ·rintro L ⟨gh, s⟩ W hu hd hdn ⟨gJ, gY, f0, f1, f2, f3, f4, f5, f6, f7, f8, f9⟩ K Q hK
        try dsimp only at gJ gY f0 f1 f2 f3 f4 f5 f6 f7 f8 f9 ⊢
        have e3 := f3 (hd.at_ 3 rfl)
        have e6 := f6 (hd.at_ 6 rfl)
        have HF := Lib.hid (show (L 8 = false → J (upto false p place t.links k) W ∧ FromIn w1 g1 g2 #[.slice A nn c, .slice (some ⟨b, off, none⟩) m d, .bool false, .func (.func F) #[] C] place W ∧ Blk W wr.heap.size 52 #[.int .i64 x.id, .int .i64 x.fr, .int .i64 x.to, .int .i64 x.steps, .int .i64 x.paces] ∧ W0.heap.size ≤ W.heap.size) ∧ (L 8 = true → (gh.b = true ∧ J (upto false p place t.links (k + 1)) W ∧ FromIn w1 g1 g2 #[.slice A nn c, .slice (some ⟨b, off, none⟩) m d, .bool false, .func (.func F) #[] C] place W ∧ W0.heap.size ≤ W.heap.size) ∨ (gh.b = false ∧ Jx (upto false p place t.links (k + 1)) W)) ∧ (L 0 = true → s 26 = .func (.yield l) #[] #[]) ∧ (L 1 = true → s 27 = .agg #[.int .i64 x.id, .int .i64 x.fr, .int .i64 x.to, .int .i64 x.steps, .int .i64 x.paces]) ∧ (L 2 = true → s 28 = .pointer (some ⟨wr.heap.size, 2, none⟩)) ∧ (L 3 = true → s 29 = .int .i64 x.to) ∧ (L 4 = true → s 30 = .agg #[.slice A nn c, .slice (some ⟨b, off, none⟩) m d, .bool false, .func (.func F) #[] C]) ∧ (L 5 = true → s 31 = .agg #[.int .i64 x.id, .int .i64 x.fr, .int .i64 x.to, .int .i64 x.steps, .int .i64 x.paces]) ∧ (L 6 = true → s 32 = .agg #[.int .i64 (costOf p x true).a, .int .i64 (costOf p x true).b, .int .i64 (costOf p x true).c, .int .i64 (costOf p x true).d]) ∧ (L 7 = true → s 33 = .agg #[.int .i64 x.to, .int .i64 (costOf p x true).a, .int .i64 (costOf p x true).b, .int .i64 (costOf p x true).c, .int .i64 (costOf p x true).d, .slice none 0 0]) ∧ (L 8 = true → s 34 = .bool gh.b) ∧ (L 9 = true → s 35 = .bool (!gh.b)) from ⟨gJ, gY, f0, f1, f2, f3, f4, f5, f6, f7, f8, f9⟩)
        clear f9 f8 f7 f6 f5 f4 f3 f2 f1 f0 gY gJ hd
        try simp only at e3 e6 ⊢
        gi_wp2
        obtain ⟨gJ, gY, f0, f1, f2, f3, f4, f5, f6, f7, f8, f9⟩ := HF.out
        exact hK (gh, (upd (upd (upd s 29 (.int .i64 x.to)) 32 (.agg #[.int .i64 (costOf p x true).a, .int .i64 (costOf p x true).b, .int .i64 (costOf p x true).c, .int .i64 (costOf p x true).d])) 33 (.agg #[.int .i64 x.to, .int .i64 (costOf p x true).a, .int .i64 (costOf p x true).b, .int .i64 (costOf p x true).c, .int .i64 (costOf p x true).d, .slice none 0 0]))) _ ⟨gJ, gY, f0, f1, f2, (fun _ => rfl), f4, f5, (fun _ => rfl), (fun _ => rfl), f8, f9⟩
       ·rintro L ⟨gh, s⟩ W hu hd hdn ⟨gJ, gY, f0, f1, f2, f3, f4, f5, f6, f7, f8, f9⟩ K Q hK
        try dsimp only at gJ gY f0 f1 f2 f3 f4 f5 f6 f7 f8 f9 ⊢
        have e0 := f0 (hd.at_ 0 rfl)
        have e1 := f1 (hd.at_ 1 rfl)
        have e7 := f7 (hd.at_ 7 rfl)
        have h8 : L 8 = false := hu
        have GJ := Lib.hid (gJ h8)
        obtain ⟨fn, tmps, assign, body, hy, hR⟩ := HYY.out W GJ.out.1
        have HF := Lib.hid (show (L 8 = false → J (upto false p place t.links k) W ∧ FromIn w1 g1 g2 #[.slice A nn c, .slice (some ⟨b, off, none⟩) m d, .bool false, .func (.func F) #[] C] place W ∧ Blk W wr.heap.size 52 #[.int .i64 x.id, .int .i64 x.fr, .int .i64 x.to, .int .i64 x.steps, .int .i64 x.paces] ∧ W0.heap.size ≤ W.heap.size) ∧ (L 8 = true → (gh.b = true ∧ J (upto false p place t.links (k + 1)) W ∧ FromIn w1 g1 g2 #[.slice A nn c, .slice (some ⟨b, off, none⟩) m d, .bool false, .func (.func F) #[] C] place W ∧ W0.heap.size ≤ W.heap.size) ∨ (gh.b = false ∧ Jx (upto false p place t.links (k + 1)) W)) ∧ (L 0 = true → s 26 = .func (.yield l) #[] #[]) ∧ (L 1 = true → s 27 = .agg #[.int .i64 x.id, .int .i64 x.fr, .int .i64 x.to, .int .i64 x.steps, .int .i64 x.paces]) ∧ (L 2 = true → s 28 = .pointer (some ⟨wr.heap.size, 2, none⟩)) ∧ (L 3 = true → s 29 = .int .i64 x.to) ∧ (L 4 = true → s 30 = .agg #[.slice A nn c, .slice (some ⟨b, off, none⟩) m d, .bool false, .func (.func F) #[] C]) ∧ (L 5 = true → s 31 = .agg #[.int .i64 x.id, .int .i64 x.fr, .int .i64 x.to, .int .i64 x.steps, .int .i64 x.paces]) ∧ (L 6 = true → s 32 = .agg #[.int .i64 (costOf p x true).a, .int .i64 (costOf p x true).b, .int .i64 (costOf p x true).c, .int .i64 (costOf p x true).d]) ∧ (L 7 = true → s 33 = .agg #[.int .i64 x.to, .int .i64 (costOf p x true).a, .int .i64 (costOf p x true).b, .int .i64 (costOf p x true).c, .int .i64 (costOf p x true).d, .slice none 0 0]) ∧ (L 8 = true → s 34 = .bool gh.b) ∧ (L 9 = true → s 35 = .bool (!gh.b)) from ⟨gJ, gY, f0, f1, f2, f3, f4, f5, f6, f7, f8, f9⟩)
        clear f9 f8 f7 f6 f5 f4 f3 f2 f1 f0 gY gJ hd
        try simp only at e0 e1 e7 ⊢
        gi_wp2
        refine ⟨fun _ => by omega, hR.mono ?_⟩
        rintro e W3 hor
        obtain ⟨bb, rfl, hor2⟩ := yieldedB hor
        clear hor
        gi_wp2
        obtain ⟨gJ, gY, f0, f1, f2, f3, f4, f5, f6, f7, f8, f9⟩ := HF.out
        exact hK ((⟨bb⟩ : YGh), (upd (upd (upd (upd s 26 (.func (.yield l) #[] #[])) 27 (.agg #[.int .i64 x.id, .int .i64 x.fr, .int .i64 x.to, .int .i64 x.steps, .int .i64 x.paces])) 33 (.agg #[.int .i64 x.to, .int .i64 (costOf p x true).a, .int .i64 (costOf p x true).b, .int .i64 (costOf p x true).c, .int .i64 (costOf p x true).d, .slice none 0 0])) 34 (.bool bb))) _ ⟨(fun h => by cases h), (fun _ => by
      rcases hor2 with ⟨h1, h2, h3⟩ | ⟨h1, h2⟩
      ·exact .inl ⟨h1, h2, GJ.out.2.1.kept h3, Nat.le_trans GJ.out.2.2.2 h3.1.size⟩
      ·exact .inr ⟨h1, h2⟩), (fun _ => rfl), (fun _ => rfl), f2, f3, f4, f5, f6, (fun _ => rfl), (fun _ => rfl), (fun h => hdn.no 9 8 h rfl hu)⟩
       ·rintro L ⟨gh, s⟩ W hu hd hdn ⟨gJ, gY, f0, f1, f2, f3, f4, f5, f6, f7, f8, f9⟩ K Q hK
        try dsimp only at gJ gY f0 f1 f2 f3 f4 f5 f6 f7 f8 f9 ⊢
        have e8 := f8 (hd.at_ 8 rfl)
        have HF := Lib.hid (show (L 8 = false → J (upto false p place t.links k) W ∧ FromIn w1 g1 g2 #[.slice A nn c, .slice (some ⟨b, off, none⟩) m d, .bool false, .func (.func F) #[] C] place W ∧ Blk W wr.heap.size 52 #[.int .i64 x.id, .int .i64 x.fr, .int .i64 x.to, .int .i64 x.steps, .int .i64 x.paces] ∧ W0.heap.size ≤ W.heap.size) ∧ (L 8 = true → (gh.b = true ∧ J (upto false p place t.links (k + 1)) W ∧ FromIn w1 g1 g2 #[.slice A nn c, .slice (some ⟨b, off, none⟩) m d, .bool false, .func (.func F) #[] C] place W ∧ W0.heap.size ≤ W.heap.size) ∨ (gh.b = false ∧ Jx (upto false p place t.links (k + 1)) W)) ∧ (L 0 = true → s 26 = .func (.yield l) #[] #[]) ∧ (L 1 = true → s 27 = .agg #[.int .i64 x.id, .int .i64 x.fr, .int .i64 x.to, .int .i64 x.steps, .int .i64 x.paces]) ∧ (L 2 = true → s 28 = .pointer (some ⟨wr.heap.size, 2, none⟩)) ∧ (L 3 = true → s 29 = .int .i64 x.to) ∧ (L 4 = true → s 30 = .agg #[.slice A nn c, .slice (some ⟨b, off, none⟩) m d, .bool false, .func (.func F) #[] C]) ∧ (L 5 = true → s 31 = .agg #[.int .i64 x.id, .int .i64 x.fr, .int .i64 x.to, .int .i64 x.steps, .int .i64 x.paces]) ∧ (L 6 = true → s 32 = .agg #[.int .i64 (costOf p x true).a, .int .i64 (costOf p x true).b, .int .i64 (costOf p x true).c, .int .i64 (costOf p x true).d]) ∧ (L 7 = true → s 33 = .agg #[.int .i64 x.to, .int .i64 (costOf p x true).a, .int .i64 (costOf p x true).b, .int .i64 (costOf p x true).c, .int .i64 (costOf p x true).d, .slice none 0 0]) ∧ (L 8 = true → s 34 = .bool gh.b) ∧ (L 9 = true → s 35 = .bool (!gh.b)) from ⟨gJ, gY, f0, f1, f2, f3, f4, f5, f6, f7, f8, f9⟩)
        clear f9 f8 f7 f6 f5 f4 f3 f2 f1 f0 gY gJ hd
        try simp only at e8 ⊢
        gi_wp2
        obtain ⟨gJ, gY, f0, f1, f2, f3, f4, f5, f6, f7, f8, f9⟩ := HF.out
        exact hK (gh, (upd (upd s 34 (.bool gh.b)) 35 (.bool (!gh.b)))) _ ⟨gJ, gY, f0, f1, f2, f3, f4, f5, f6, f7, (fun _ => rfl), (fun _ => rfl)⟩
      ·rintro L ⟨gh, s⟩ W hall ⟨gJ, gY, f0, f1, f2, f3, f4, f5, f6, f7, f8, f9⟩
       have e9 := f9 (hall 9 (by decide))
       have GY := gY (hall 8 (by decide))
       clear hall gJ gY f0 f1 f2 f3 f4 f5 f6 f7 f8 f9
       rcases GY with ⟨hb, hj, hi, hsz'⟩ | ⟨hb, hjx⟩
       ·rw [hb] at e9
        have HJ3 := Lib.hid hj
        have HI3 := Lib.hid hi
        clear hj hi hb
        replace e9 : s 35 = .bool false := e9
        simp only
        rw [e9]
        gi_wp2
        go_roundw
        case rel => exact ⟨k + 1, by omega, by go_num, HJ3.out, HI3.out, by omega⟩
        case measure => simp [intOf]; omega
       ·rw [hb] at e9
        have HJ3 := Lib.hid hjx
        clear hjx hb
        replace e9 : s 35 = .bool true := e9
        simp only
        rw [e9]
        gi_wp2
        unfold Exit.noGoto
        refine bodyPost_ret (results_none rfl _ _ _) rfl ?_
        exact ⟨⟨_, rfl⟩, .inr ⟨_, upto_pre _ _ _ _ _, HJ3.out⟩⟩
     ·clear hskip
      have hL : leads true p x place = some (x.to, (costOf p x true)) := by rw [HLD.out]; rw [if_pos HFR.out.symm]; simp [costOf, priceOf]
      obtain ⟨y, hy1, hy2, hy3⟩ := upto_some HX.out hL
      have HYY : Hid (∀ W, J (upto true p place t.links k) W → YieldAt Fence.wide (n - 1) Tryz.prog l #[.agg #[.int .i64 x.id, .int .i64 x.fr, .int .i64 x.to, .int .i64 x.steps, .int .i64 x.paces], .agg #[.int .i64 x.to, .int .i64 (costOf p x true).a, .int .i64 (costOf p x true).b, .int .i64 (costOf p x true).c, .int .i64 (costOf p x true).d, .slice none 0 0]] W fun e W' =>
        (e = .returned (.bool true) ∧ J (upto true p place t.links (k + 1)) W' ∧ FromK w1.heap.size g1 g2 W W') ∨ (e = .returned (.bool false) ∧ Jx (upto true p place t.links (k + 1)) W')) := Lib.hid (fun W hj => by
       have := HY.out _ y W hj hy3
       unfold Out.enc at this
       rw [hy1] at this
       rw [hy2]
       exact this)
      clear hL hy1 hy2 hy3
      have B0 : Below wr.heap.size wr (wr.alloc (.cells #[.int .i64 x.id, .int .i64 x.fr, .int .i64 x.to, .int .i64 x.steps, .int .i64 x.paces] 52)).drew := below_drewN ((Below.refl _ _).alloc (Nat.le_refl _) _) 1
      have G0 : J (upto true p place t.links k) (wr.alloc (.cells #[.int .i64 x.id, .int .i64 x.fr, .int .i64 x.to, .int .i64 x.steps, .int .i64 x.paces] 52)).drew ∧ FromIn w1 g1 g2 #[.slice A nn c, .slice (some ⟨b, off, none⟩) m d, .bool true, .func (.func F) #[] C] place (wr.alloc (.cells #[.int .i64 x.id, .int .i64 x.fr, .int .i64 x.to, .int .i64 x.steps, .int .i64 x.paces] 52)).drew ∧ Blk (wr.alloc (.cells #[.int .i64 x.id, .int .i64 x.fr, .int .i64 x.to, .int .i64 x.steps, .int .i64 x.paces] 52)).drew wr.heap.size 52 #[.int .i64 x.id, .int .i64 x.fr, .int .i64 x.to, .int .i64 x.steps, .int .i64 x.paces] ∧ W0.heap.size ≤ (wr.alloc (.cells #[.int .i64 x.id, .int .i64 x.fr, .int .i64 x.to, .int .i64 x.steps, .int .i64 x.paces] 52)).drew.heap.size :=
       ⟨HJ.out _ _ _ none HJs.out (grown_of_below B0 none) (fun r e => by cases e), HI.out.grow B0, Blk.new wr _ _, Nat.le_trans hsz B0.size⟩
      clear B0
      gi_wp2
      refine wpIn_region_stepsD (by kernel_rfl) (by kernel_rfl) (fun σ : YGh × (Nat → Value) => { tmps := #[.func (.yield l) #[] #[], .pointer (some ⟨g1, 0, none⟩), .pointer (some ⟨g2, 0, none⟩), undef, undef, .pointer (some ⟨wr.heap.size, 0, none⟩), .pointer (some ⟨g1, 0, none⟩), .pointer (some ⟨g1, 1, none⟩), .slice (some ⟨b, off, none⟩) m d, .int .i64 (m : Int), .int .i64 (k : Int), .bool true, .pointer (some ⟨b, off + k * 5, none⟩), .agg #[.int .i64 x.id, .int .i64 x.fr, .int .i64 x.to, .int .i64 x.steps, .int .i64 x.paces], .pointer (some ⟨g1, 2, none⟩), .bool true, .bool true, .pointer (some ⟨wr.heap.size, 3, none⟩), .int .i64 x.steps, .bool false, .bool false, .int .i64 place, .bool true, .pointer (some ⟨wr.heap.size, 1, none⟩), .int .i64 x.fr, .bool true, σ.2 26, σ.2 27, σ.2 28, σ.2 29, σ.2 30, σ.2 31, σ.2 32, σ.2 33, σ.2 34, σ.2 35, u36, u37, u38, u39, u40, u41, u42, u43, u44, u45, u46, u47, u48, u49, u50], defers := [] })
       (fun L σ W => (L 8 = false → J (upto true p place t.links k) W ∧ FromIn w1 g1 g2 #[.slice A nn c, .slice (some ⟨b, off, none⟩) m d, .bool true, .func (.func F) #[] C] place W ∧ Blk W wr.heap.size 52 #[.int .i64 x.id, .int .i64 x.fr, .int .i64 x.to, .int .i64 x.steps, .int .i64 x.paces] ∧ W0.heap.size ≤ W.heap.size) ∧ (L 8 = true → (σ.1.b = true ∧ J (upto true p place t.links (k + 1)) W ∧ FromIn w1 g1 g2 #[.slice A nn c, .slice (some ⟨b, off, none⟩) m d, .bool true, .func (.func F) #[] C] place W ∧ W0.heap.size ≤ W.heap.size) ∨ (σ.1.b = false ∧ Jx (upto true p place t.links (k + 1)) W)) ∧ (L 0 = true → σ.2 26 = .func (.yield l) #[] #[]) ∧ (L 1 = true → σ.2 27 = .agg #[.int .i64 x.id, .int .i64 x.fr, .int .i64 x.to, .int .i64 x.steps, .int .i64 x.paces]) ∧ (L 2 = true → σ.2 28 = .pointer (some ⟨wr.heap.size, 2, none⟩)) ∧ (L 3 = true → σ.2 29 = .int .i64 x.to) ∧ (L 4 = true → σ.2 30 = .agg #[.slice A nn c, .slice (some ⟨b, off, none⟩) m d, .bool true, .func (.func F) #[] C]) ∧ (L 5 = true → σ.2 31 = .agg #[.int .i64 x.id, .int .i64 x.fr, .int .i64 x.to, .int .i64 x.steps, .int .i64 x.paces]) ∧ (L 6 = true → σ.2 32 = .agg #[.int .i64 (costOf p x true).a, .int .i64 (costOf p x true).b, .int .i64 (costOf p x true).c, .int .i64 (costOf p x true).d]) ∧ (L 7 = true → σ.2 33 = .agg #[.int .i64 x.to, .int .i64 (costOf p x true).a, .int .i64 (costOf p x true).b, .int .i64 (costOf p x true).c, .int .i64 (costOf p x true).d, .slice none 0 0]) ∧ (L 8 = true → σ.2 34 = .bool σ.1.b) ∧ (L 9 = true → σ.2 35 = .bool (!σ.1.b)))
       (⟨false⟩, fun k => (#[u26, u27, u28, u29, u30, u31, u32, u33, u34, u35] : Array Value).getD (k - 26) undef) rfl ?_ ?_ ?_
      ·exact ⟨(fun _ => G0), (fun h => by cases h), (fun h => by cases h), (fun h => by cases h), (fun h => by cases h), (fun h => by cases h), (fun h => by cases h), (fun h => by cases h), (fun h => by cases h), (fun h => by cases h), (fun h => by cases h), (fun h => by cases h)⟩
      ·refine ⟨?_, ?_, ?_, ?_, ?_, ?_, ?_, ?_, ?_, ?_, trivial⟩
       ·rintro L ⟨gh, s⟩ W hu hd hdn ⟨gJ, gY, f0, f1, f2, f3, f4, f5, f6, f7, f8, f9⟩ K Q hK
        try dsimp only at gJ gY f0 f1 f2 f3 f4 f5 f6 f7 f8 f9 ⊢
        have HF := Lib.hid (show (L 8 = false → J (upto true p place t.links k) W ∧ FromIn w1 g1 g2 #[.slice A nn c, .slice (some ⟨b, off, none⟩) m d, .bool true, .func (.func F) #[] C] place W ∧ Blk W wr.heap.size 52 #[.int .i64 x.id, .int .i64 x.fr, .int .i64 x.to, .int .i64 x.steps, .int .i64 x.paces] ∧ W0.heap.size ≤ W.heap.size) ∧ (L 8 = true → (gh.b = true ∧ J (upto true p place t.links (k + 1)) W ∧ FromIn w1 g1 g2 #[.slice A nn c, .slice (some ⟨b, off, none⟩) m d, .bool true, .func (.func F) #[] C] place W ∧ W0.heap.size ≤ W.heap.size) ∨ (gh.b = false ∧ Jx (upto true p place t.links (k + 1)) W)) ∧ (L 0 = true → s 26 = .func (.yield l) #[] #[]) ∧ (L 1 = true → s 27 = .agg #[.int .i64 x.id, .int .i64 x.fr, .int .i64 x.to, .int .i64 x.steps, .int .i64 x.paces]) ∧ (L 2 = true → s 28 = .pointer (some ⟨wr.heap.size, 2, none⟩)) ∧ (L 3 = true → s 29 = .int .i64 x.to) ∧ (L 4 = true → s 30 = .agg #[.slice A nn c, .slice (some ⟨b, off, none⟩) m d, .bool true, .func (.func F) #[] C]) ∧ (L 5 = true → s 31 = .agg #[.int .i64 x.id, .int .i64 x.fr, .int .i64 x.to, .int .i64 x.steps, .int .i64 x.paces]) ∧ (L 6 = true → s 32 = .agg #[.int .i64 (costOf p x true).a, .int .i64 (costOf p x true).b, .int .i64 (costOf p x true).c, .int .i64 (costOf p x true).d]) ∧ (L 7 = true → s 33 = .agg #[.int .i64 x.to, .int .i64 (costOf p x true).a, .int .i64 (costOf p x true).b, .int .i64 (costOf p x true).c, .int .i64 (costOf p x true).d, .slice none 0 0]) ∧ (L 8 = true → s 34 = .bool gh.b) ∧ (L 9 = true → s 35 = .bool (!gh.b)) from ⟨gJ, gY, f0, f1, f2, f3, f4, f5, f6, f7, f8, f9⟩)
        clear f9 f8 f7 f6 f5 f4 f3 f2 f1 f0 gY gJ hd
        try simp only
        gi_wp2
        obtain ⟨gJ, gY, f0, f1, f2, f3, f4, f5, f6, f7, f8, f9⟩ := HF.out
        exact hK (gh, (upd s 26 (.func (.yield l) #[] #[]))) _ ⟨gJ, gY, (fun _ => rfl), f1, f2, f3, f4, f5, f6, f7, f8, f9⟩
       ·rintro L ⟨gh, s⟩ W hu hd hdn ⟨gJ, gY, f0, f1, f2, f3, f4, f5, f6, f7, f8, f9⟩ K Q hK
        try dsimp only at gJ gY f0 f1 f2 f3 f4 f5 f6 f7 f8 f9 ⊢
        have h8 : L 8 = false := by
         cases hc : L 8 with
         | false => rfl
         | true => exact hdn.no 8 1 hc rfl hu
        have G := (gJ h8).2.2.1
        have c0 : W.cell? ⟨wr.heap.size, 0, none⟩ = some (.int .i64 x.id) := G.cell 0
        have c1 : W.cell? ⟨wr.heap.size, 1, none⟩ = some (.int .i64 x.fr) := G.cell 1
        have c2 : W.cell? ⟨wr.heap.size, 2, none⟩ = some (.int .i64 x.to) := G.cell 2
        have c3 : W.cell? ⟨wr.heap.size, 3, none⟩ = some (.int .i64 x.steps) := G.cell 3
        have c4 : W.cell? ⟨wr.heap.size, 4, none⟩ = some (.int .i64 x.paces) := G.cell 4
        clear G
        have HF := Lib.hid (show (L 8 = false → J (upto true p place t.links k) W ∧ FromIn w1 g1 g2 #[.slice A nn c, .slice (some ⟨b, off, none⟩) m d, .bool true, .func (.func F) #[] C] place W ∧ Blk W wr.heap.size 52 #[.int .i64 x.id, .int .i64 x.fr, .int .i64 x.to, .int .i64 x.steps, .int .i64 x.paces] ∧ W0.heap.size ≤ W.heap.size) ∧ (L 8 = true → (gh.b = true ∧ J (upto true p place t.links (k + 1)) W ∧ FromIn w1 g1 g2 #[.slice A nn c, .slice (some ⟨b, off, none⟩) m d, .bool true, .func (.func F) #[] C] place W ∧ W0.heap.size ≤ W.heap.size) ∨ (gh.b = false ∧ Jx (upto true p place t.links (k + 1)) W)) ∧ (L 0 = true → s 26 = .func (.yield l) #[] #[]) ∧ (L 1 = true → s 27 = .agg #[.int .i64 x.id, .int .i64 x.fr, .int .i64 x.to, .int .i64 x.steps, .int .i64 x.paces]) ∧ (L 2 = true → s 28 = .pointer (some ⟨wr.heap.size, 2, none⟩)) ∧ (L 3 = true → s 29 = .int .i64 x.to) ∧ (L 4 = true → s 30 = .agg #[.slice A nn c, .slice (some ⟨b, off, none⟩) m d, .bool true, .func (.func F) #[] C]) ∧ (L 5 = true → s 31 = .agg #[.int .i64 x.id, .int .i64 x.fr, .int .i64 x.to, .int .i64 x.steps, .int .i64 x.paces]) ∧ (L 6 = true → s 32 = .agg #[.int .i64 (costOf p x true).a, .int .i64 (costOf p x true).b, .int .i64 (costOf p x true).c, .int .i64 (costOf p x true).d]) ∧ (L 7 = true → s 33 = .agg #[.int .i64 x.to, .int .i64 (costOf p x true).a, .int .i64 (costOf p x true).b, .int .i64 (costOf p x true).c, .int .i64 (costOf p x true).d, .slice none 0 0]) ∧ (L 8 = true → s 34 = .bool gh.b) ∧ (L 9 = true → s 35 = .bool (!gh.b)) from ⟨gJ, gY, f0, f1, f2, f3, f4, f5, f6, f7, f8, f9⟩)
        clear f9 f8 f7 f6 f5 f4 f3 f2 f1 f0 gY gJ hd
        try simp only
        gi_wp2
        obtain ⟨gJ, gY, f0, f1, f2, f3, f4, f5, f6, f7, f8, f9⟩ := HF.out
        exact hK (gh, (upd s 27 (.agg #[.int .i64 x.id, .int .i64 x.fr, .int .i64 x.to, .int .i64 x.steps, .int .i64 x.paces]))) _ ⟨gJ, gY, f0, (fun _ => rfl), f2, f3, f4, f5, f6, f7, f8, f9⟩
       ·rintro L ⟨gh, s⟩ W hu hd hdn ⟨gJ, gY, f0, f1, f2, f3, f4, f5, f6, f7, f8, f9⟩ K Q hK
        try dsimp only at gJ gY f0 f1 f2 f3 f4 f5 f6 f7 f8 f9 ⊢
        have HF := Lib.hid (show (L 8 = false → J (upto true p place t.links k) W ∧ FromIn w1 g1 g2 #[.slice A nn c, .slice (some ⟨b, off, none⟩) m d, .bool true, .func (.func F) #[] C] place W ∧ Blk W wr.heap.size 52 #[.int .i64 x.id, .int .i64 x.fr, .int .i64 x.to, .int .i64 x.steps, .int .i64 x.paces] ∧ W0.heap.size ≤ W.heap.size) ∧ (L 8 = true → (gh.b = true ∧ J (upto true p place t.links (k + 1)) W ∧ FromIn w1 g1 g2 #[.slice A nn c, .slice (some ⟨b, off, none⟩) m d, .bool true, .func (.func F) #[] C] place W ∧ W0.heap.size ≤ W.heap.size) ∨ (gh.b = false ∧ Jx (upto true p place t.links (k + 1)) W)) ∧ (L 0 = true → s 26 = .func (.yield l) #[] #[]) ∧ (L 1 = true → s 27 = .agg #[.int .i64 x.id, .int .i64 x.fr, .int .i64 x.to, .int .i64 x.steps, .int .i64 x.paces]) ∧ (L 2 = true → s 28 = .pointer (some ⟨wr.heap.size, 2, none⟩)) ∧ (L 3 = true → s 29 = .int .i64 x.to) ∧ (L 4 = true → s 30 = .agg #[.slice A nn c, .slice (some ⟨b, off, none⟩) m d, .bool true, .func (.func F) #[] C]) ∧ (L 5 = true → s 31 = .agg #[.int .i64 x.id, .int .i64 x.fr, .int .i64 x.to, .int .i64 x.steps, .int .i64 x.paces]) ∧ (L 6 = true → s 32 = .agg #[.int .i64 (costOf p x true).a, .int .i64 (costOf p x true).b, .int .i64 (costOf p x true).c, .int .i64 (costOf p x true).d]) ∧ (L 7 = true → s 33 = .agg #[.int .i64 x.to, .int .i64 (costOf p x true).a, .int .i64 (costOf p x true).b, .int .i64 (costOf p x true).c, .int .i64 (costOf p x true).d, .slice none 0 0]) ∧ (L 8 = true → s 34 = .bool gh.b) ∧ (L 9 = true → s 35 = .bool (!gh.b)) from ⟨gJ, gY, f0, f1, f2, f3, f4, f5, f6, f7, f8, f9⟩)
        clear f9 f8 f7 f6 f5 f4 f3 f2 f1 f0 gY gJ hd
        try simp only
        gi_wp2
        obtain ⟨gJ, gY, f0, f1, f2, f3, f4, f5, f6, f7, f8, f9⟩ := HF.out
        exact hK (gh, (upd s 28 (.pointer (some ⟨wr.heap.size, 2, none⟩)))) _ ⟨gJ, gY, f0, f1, (fun _ => rfl), f3, f4, f5, f6, f7, f8, f9⟩
       ·rintro L ⟨gh, s⟩ W hu hd hdn ⟨gJ, gY, f0, f1, f2, f3, f4, f5, f6, f7, f8, f9⟩ K Q hK
        try dsimp only at gJ gY f0 f1 f2 f3 f4 f5 f6 f7 f8 f9 ⊢
        have e2 := f2 (hd.at_ 2 rfl)
        have h8 : L 8 = false := by
         cases hc : L 8 with
         | false => rfl
         | true => exact hdn.no 7 3 (hdn.at_ 8 7 hc rfl) rfl hu
        have G := (gJ h8).2.2.1
        have c0 : W.cell? ⟨wr.heap.size, 0, none⟩ = some (.int .i64 x.id) := G.cell 0
        have c1 : W.cell? ⟨wr.heap.size, 1, none⟩ = some (.int .i64 x.fr) := G.cell 1
        have c2 : W.cell? ⟨wr.heap.size, 2, none⟩ = some (.int .i64 x.to) := G.cell 2
        have c3 : W.cell? ⟨wr.heap.size, 3, none⟩ = some (.int .i64 x.steps) := G.cell 3
        have c4 : W.cell? ⟨wr.heap.size, 4, none⟩ = some (.int .i64 x.paces) := G.cell 4
        clear G
        have HF := Lib.hid (show (L 8 = false → J (upto true p place t.links k) W ∧ FromIn w1 g1 g2 #[.slice A nn c, .slice (some ⟨b, off, none⟩) m d, .bool true, .func (.func F) #[] C] place W ∧ Blk W wr.heap.size 52 #[.int .i64 x.id, .int .i64 x.fr, .int .i64 x.to, .int .i64 x.steps, .int .i64 x.paces] ∧ W0.heap.size ≤ W.heap.size) ∧ (L 8 = true → (gh.b = true ∧ J (upto true p place t.links (k + 1)) W ∧ FromIn w1 g1 g2 #[.slice A nn c, .slice (some ⟨b, off, none⟩) m d, .bool true, .func (.func F) #[] C] place W ∧ W0.heap.size ≤ W.heap.size) ∨ (gh.b = false ∧ Jx (upto true p place t.links (k + 1)) W)) ∧ (L 0 = true → s 26 = .func (.yield l) #[] #[]) ∧ (L 1 = true → s 27 = .agg #[.int .i64 x.id, .int .i64 x.fr, .int .i64 x.to, .int .i64 x.steps, .int .i64 x.paces]) ∧ (L 2 = true → s 28 = .pointer (some ⟨wr.heap.size, 2, none⟩)) ∧ (L 3 = true → s 29 = .int .i64 x.to) ∧ (L 4 = true → s 30 = .agg #[.slice A nn c, .slice (some ⟨b, off, none⟩) m d, .bool true, .func (.func F) #[] C]) ∧ (L 5 = true → s 31 = .agg #[.int .i64 x.id, .int .i64 x.fr, .int .i64 x.to, .int .i64 x.steps, .int .i64 x.paces]) ∧ (L 6 = true → s 32 = .agg #[.int .i64 (costOf p x true).a, .int .i64 (costOf p x true).b, .int .i64 (costOf p x true).c, .int .i64 (costOf p x true).d]) ∧ (L 7 = true → s 33 = .agg #[.int .i64 x.to, .int .i64 (costOf p x true).a, .int .i64 (costOf p x true).b, .int .i64 (costOf p x true).c, .int .i64 (costOf p x true).d, .slice none 0 0]) ∧ (L 8 = true → s 34 = .bool gh.b) ∧ (L 9 = true → s 35 = .bool (!gh.b)) from ⟨gJ, gY, f0, f1, f2, f3, f4, f5, f6, f7, f8, f9⟩)
        clear f9 f8 f7 f6 f5 f4 f3 f2 f1 f0 gY gJ hd
        try simp only at e2 ⊢
        gi_wp2
        obtain ⟨gJ, gY, f0, f1, f2, f3, f4, f5, f6, f7, f8, f9⟩ := HF.out
        exact hK (gh, (upd (upd s 28 (.pointer (some ⟨wr.heap.size, 2, none⟩))) 29 (.int .i64 x.to))) _ ⟨gJ, gY, f0, f1, (fun _ => rfl), (fun _ => rfl), f4, f5, f6, f7, f8, f9⟩
       ·rintro L ⟨gh, s⟩ W hu hd hdn ⟨gJ, gY, f0, f1, f2, f3, f4, f5, f6, f7, f8, f9⟩ K Q hK
        try dsimp only at gJ gY f0 f1 f2 f3 f4 f5 f6 f7 f8 f9 ⊢
        have h8 : L 8 = false := by
         cases hc : L 8 with
         | false => rfl
         | true => exact hdn.no 6 4 (hdn.at_ 8 6 hc rfl) rfl hu
        have G := (gJ h8).2.1.chart
        have c0 : W.cell? ⟨g1, 0, none⟩ = some (.slice A nn c) := G.cell 0
        have c1 : W.cell? ⟨g1, 1, none⟩ = some (.slice (some ⟨b, off, none⟩) m d) := G.cell 1
        have c2 : W.cell? ⟨g1, 2, none⟩ = some (.bool true) := G.cell 2
        have c3 : W.cell? ⟨g1, 3, none⟩ = some (.func (.func F) #[] C) := G.cell 3
        clear G
        have HF := Lib.hid (show (L 8 = false → J (upto true p place t.links k) W ∧ FromIn w1 g1 g2 #[.slice A nn c, .slice (some ⟨b, off, none⟩) m d, .bool true, .func (.func F) #[] C] place W ∧ Blk W wr.heap.size 52 #[.int .i64 x.id, .int .i64 x.fr, .int .i64 x.to, .int .i64 x.steps, .int .i64 x.paces] ∧ W0.heap.size ≤ W.heap.size) ∧ (L 8 = true → (gh.b = true ∧ J (upto true p place t.links (k + 1)) W ∧ FromIn w1 g1 g2 #[.slice A nn c, .slice (some ⟨b, off, none⟩) m d, .bool true, .func (.func F) #[] C] place W ∧ W0.heap.size ≤ W.heap.size) ∨ (gh.b = false ∧ Jx (upto true p place t.links (k + 1)) W)) ∧ (L 0 = true → s 26 = .func (.yield l) #[] #[]) ∧ (L 1 = true → s 27 = .agg #[.int .i64 x.id, .int .i64 x.fr, .int .i64 x.to, .int .i64 x.steps, .int .i64 x.paces]) ∧ (L 2 = true → s 28 = .pointer (some ⟨wr.heap.size, 2, none⟩)) ∧ (L 3 = true → s 29 = .int .i64 x.to) ∧ (L 4 = true → s 30 = .agg #[.slice A nn c, .slice (some ⟨b, off, none⟩) m d, .bool true, .func (.func F) #[] C]) ∧ (L 5 = true → s 31 = .agg #[.int .i64 x.id, .int .i64 x.fr, .int .i64 x.to, .int .i64 x.steps, .int .i64 x.paces]) ∧ (L 6 = true → s 32 = .agg #[.int .i64 (costOf p x true).a, .int .i64 (costOf p x true).b, .int .i64 (costOf p x true).c, .int .i64 (costOf p x true).d]) ∧ (L 7 = true → s 33 = .agg #[.int .i64 x.to, .int .i64 (costOf p x true).a, .int .i64 (costOf p x true).b, .int .i64 (costOf p x true).c, .int .i64 (costOf p x true).d, .slice none 0 0]) ∧ (L 8 = true → s 34 = .bool gh.b) ∧ (L 9 = true → s 35 = .bool (!gh.b)) from ⟨gJ, gY, f0, f1, f2, f3, f4, f5, f6, f7, f8, f9⟩)
        clear f9 f8 f7 f6 f5 f4 f3 f2 f1 f0 gY gJ hd
        try simp only
        gi_wp2
        obtain ⟨gJ, gY, f0, f1, f2, f3, f4, f5, f6, f7, f8, f9⟩ := HF.out
        exact hK (gh, (upd s 30 (.agg #[.slice A nn c, .slice (some ⟨b, off, none⟩) m d, .bool true, .func (.func F) #[] C]))) _ ⟨gJ, gY, f0, f1, f2, f3, (fun _ => rfl), f5, f6, f7, f8, f9⟩
       ·rintro L ⟨gh, s⟩ W hu hd hdn ⟨gJ, gY, f0, f1, f2, f3, f4, f5, f6, f7, f8, f9⟩ K Q hK
        try dsimp only at gJ gY f0 f1 f2 f3 f4 f5 f6 f7 f8 f9 ⊢
        have h8 : L 8 = false := by
         cases hc : L 8 with
         | false => rfl
         | true => exact hdn.no 6 5 (hdn.at_ 8 6 hc rfl) rfl hu
        have G := (gJ h8).2.2.1
        have c0 : W.cell? ⟨wr.heap.size, 0, none⟩ = some (.int .i64 x.id) := G.cell 0
        have c1 : W.cell? ⟨wr.heap.size, 1, none⟩ = some (.int .i64 x.fr) := G.cell 1
        have c2 : W.cell? ⟨wr.heap.size, 2, none⟩ = some (.int .i64 x.to) := G.cell 2
        have c3 : W.cell? ⟨wr.heap.size, 3, none⟩ = some (.int .i64 x.steps) := G.cell 3
        have c4 : W.cell? ⟨wr.heap.size, 4, none⟩ = some (.int .i64 x.paces) := G.cell 4
        clear G
        have HF := Lib.hid (show (L 8 = false → J (upto true p place t.links k) W ∧ FromIn w1 g1 g2 #[.slice A nn c, .slice (some ⟨b, off, none⟩) m d, .bool true, .func (.func F) #[] C] place W ∧ Blk W wr.heap.size 52 #[.int .i64 x.id, .int .i64 x.fr, .int .i64 x.to, .int .i64 x.steps, .int .i64 x.paces] ∧ W0.heap.size ≤ W.heap.size) ∧ (L 8 = true → (gh.b = true ∧ J (upto true p place t.links (k + 1)) W ∧ FromIn w1 g1 g2 #[.slice A nn c, .slice (some ⟨b, off, none⟩) m d, .bool true, .func (.func F) #[] C] place W ∧ W0.heap.size ≤ W.heap.size) ∨ (gh.b = false ∧ Jx (upto true p place t.links (k + 1)) W)) ∧ (L 0 = true → s 26 = .func (.yield l) #[] #[]) ∧ (L 1 = true → s 27 = .agg #[.int .i64 x.id, .int .i64 x.fr, .int .i64 x.to, .int .i64 x.steps, .int .i64 x.paces]) ∧ (L 2 = true → s 28 = .pointer (some ⟨wr.heap.size, 2, none⟩)) ∧ (L 3 = true → s 29 = .int .i64 x.to) ∧ (L 4 = true → s 30 = .agg #[.slice A nn c, .slice (some ⟨b, off, none⟩) m d, .bool true, .func (.func F) #[] C]) ∧ (L 5 = true → s 31 = .agg #[.int .i64 x.id, .int .i64 x.fr, .int .i64 x.to, .int .i64 x.steps, .int .i64 x.paces]) ∧ (L 6 = true → s 32 = .agg #[.int .i64 (costOf p x true).a, .int .i64 (costOf p x true).b, .int .i64 (costOf p x true).c, .int .i64 (costOf p x true).d]) ∧ (L 7 = true → s 33 = .agg #[.int .i64 x.to, .int .i64 (costOf p x true).a, .int .i64 (costOf p x true).b, .int .i64 (costOf p x true).c, .int .i64 (costOf p x true).d, .slice none 0 0]) ∧ (L 8 = true → s 34 = .bool gh.b) ∧ (L 9 = true → s 35 = .bool (!gh.b)) from ⟨gJ, gY, f0, f1, f2, f3, f4, f5, f6, f7, f8, f9⟩)
        clear f9 f8 f7 f6 f5 f4 f3 f2 f1 f0 gY gJ hd
        try simp only
        gi_wp2
        obtain ⟨gJ, gY, f0, f1, f2, f3, f4, f5, f6, f7, f8, f9⟩ := HF.out
        exact hK (gh, (upd s 31 (.agg #[.int .i64 x.id, .int .i64 x.fr, .int .i64 x.to, .int .i64 x.steps, .int .i64 x.paces]))) _ ⟨gJ, gY, f0, f1, f2, f3, f4, (fun _ => rfl), f6, f7, f8, f9⟩
       ·rintro L ⟨gh, s⟩ W hu hd hdn ⟨gJ, gY, f0, f1, f2, f3, f4, f5, f6, f7, f8, f9⟩ K Q hK
        try dsimp only at gJ gY f0 f1 f2 f3 f4 f5 f6 f7 f8 f9 ⊢
        have e4 := f4 (hd.at_ 4 rfl)
        have e5 := f5 (hd.at_ 5 rfl)
        have h8 : L 8 = false := by
         cases hc : L 8 with
         | false => rfl
         | true => exact hdn.no 8 6 hc rfl hu
        have GJ := Lib.hid (gJ h8)
        have HF := Lib.hid (show (L 8 = false → J (upto true p place t.links k) W ∧ FromIn w1 g1 g2 #[.slice A nn c, .slice (some ⟨b, off, none⟩) m d, .bool true, .func (.func F) #[] C] place W ∧ Blk W wr.heap.size 52 #[.int .i64 x.id, .int .i64 x.fr, .int .i64 x.to, .int .i64 x.steps, .int .i64 x.paces] ∧ W0.heap.size ≤ W.heap.size) ∧ (L 8 = true → (gh.b = true ∧ J (upto true p place t.links (k + 1)) W ∧ FromIn w1 g1 g2 #[.slice A nn c, .slice (some ⟨b, off, none⟩) m d, .bool true, .func (.func F) #[] C] place W ∧ W0.heap.size ≤ W.heap.size) ∨ (gh.b = false ∧ Jx (upto true p place t.links (k + 1)) W)) ∧ (L 0 = true → s 26 = .func (.yield l) #[] #[]) ∧ (L 1 = true → s 27 = .agg #[.int .i64 x.id, .int .i64 x.fr, .int .i64 x.to, .int .i64 x.steps, .int .i64 x.paces]) ∧ (L 2 = true → s 28 = .pointer (some ⟨wr.heap.size, 2, none⟩)) ∧ (L 3 = true → s 29 = .int .i64 x.to) ∧ (L 4 = true → s 30 = .agg #[.slice A nn c, .slice (some ⟨b, off, none⟩) m d, .bool true, .func (.func F) #[] C]) ∧ (L 5 = true → s 31 = .agg #[.int .i64 x.id, .int .i64 x.fr, .int .i64 x.to, .int .i64 x.steps, .int .i64 x.paces]) ∧ (L 6 = true → s 32 = .agg #[.int .i64 (costOf p x true).a, .int .i64 (costOf p x true).b, .int .i64 (costOf p x true).c, .int .i64 (costOf p x true).d]) ∧ (L 7 = true → s 33 = .agg #[.int .i64 x.to, .int .i64 (costOf p x true).a, .int .i64 (costOf p x true).b, .int .i64 (costOf p x true).c, .int .i64 (costOf p x true).d, .slice none 0 0]) ∧ (L 8 = true → s 34 = .bool gh.b) ∧ (L 9 = true → s 35 = .bool (!gh.b)) from ⟨gJ, gY, f0, f1, f2, f3, f4, f5, f6, f7, f8, f9⟩)
        clear f9 f8 f7 f6 f5 f4 f3 f2 f1 f0 gY gJ hd
        try simp only at e4 e5 ⊢
        gi_wp2
        refine ⟨trivial, fun _ => by omega, (callsIn_wide.2 (cost_any A nn c (some ⟨b, off, none⟩) m d true F C p x true W (HP.out.below GJ.out.2.1.below) HFX.out)).mono ?_⟩
        rintro e W2 ⟨rfl, hb⟩
        gi_wp2
        obtain ⟨gJ, gY, f0, f1, f2, f3, f4, f5, f6, f7, f8, f9⟩ := HF.out
        exact hK (gh, (upd (upd (upd s 30 (.agg #[.slice A nn c, .slice (some ⟨b, off, none⟩) m d, .bool true, .func (.func F) #[] C])) 31 (.agg #[.int .i64 x.id, .int .i64 x.fr, .int .i64 x.to, .int .i64 x.steps, .int .i64 x.paces])) 32 (.agg #[.int .i64 (costOf p x true).a, .int .i64 (costOf p x true).b, .int .i64 (costOf p x true).c, .int .i64 (costOf p x true).d]))) _ ⟨(fun _ => ⟨HJ.out _ _ _ none GJ.out.1 (grown_of_below hb none) (fun r e => by cases e), GJ.out.2.1.grow hb, GJ.out.2.2.1.below hb GJ.out.2.2.1.lt, Nat.le_trans GJ.out.2.2.2 hb.size⟩), (fun h => hdn.no 8 6 h rfl hu), f0, f1, f2, f3, (fun _ => rfl), (fun _ => rfl), (fun _ => rfl), f7, f8, f9⟩
       ·rintro L ⟨gh, s⟩ W hu hd hdn ⟨gJ, gY, f0, f1, f2, f3, f4, f5, f6, f7, f8, f9⟩ K Q hK
        try dsimp only at gJ gY f0 f1 f2 f3 f4 f5 f6 f7 f8 f9 ⊢
        have e3 := f3 (hd.at_ 3 rfl)
        have e6 := f6 (hd.at_ 6 rfl)
        have HF := Lib.hid (show (L 8 = false → J (upto true p place t.links k) W ∧ FromIn w1 g1 g2 #[.slice A nn c, .slice (some ⟨b, off, none⟩) m d, .bool true, .func (.func F) #[] C] place W ∧ Blk W wr.heap.size 52 #[.int .i64 x.id, .int .i64 x.fr, .int .i64 x.to, .int .i64 x.steps, .int .i64 x.paces] ∧ W0.heap.size ≤ W.heap.size) ∧ (L 8 = true → (gh.b = true ∧ J (upto true p place t.links (k + 1)) W ∧ FromIn w1 g1 g2 #[.slice A nn c, .slice (some ⟨b, off, none⟩) m d, .bool true, .func (.func F) #[] C] place W ∧ W0.heap.size ≤ W.heap.size) ∨ (gh.b = false ∧ Jx (upto true p place t.links (k + 1)) W)) ∧ (L 0 = true → s 26 = .func (.yield l) #[] #[]) ∧ (L 1 = true → s 27 = .agg #[.int .i64 x.id, .int .i64 x.fr, .int .i64 x.to, .int .i64 x.steps, .int .i64 x.paces]) ∧ (L 2 = true → s 28 = .pointer (some ⟨wr.heap.size, 2, none⟩)) ∧ (L 3 = true → s 29 = .int .i64 x.to) ∧ (L 4 = true → s 30 = .agg #[.slice A nn c, .slice (some ⟨b, off, none⟩) m d, .bool true, .func (.func F) #[] C]) ∧ (L 5 = true → s 31 = .agg #[.int .i64 x.id, .int .i64 x.fr, .int .i64 x.to, .int .i64 x.steps, .int .i64 x.paces]) ∧ (L 6 = true → s 32 = .agg #[.int .i64 (costOf p x true).a, .int .i64 (costOf p x true).b, .int .i64 (costOf p x true).c, .int .i64 (costOf p x true).d]) ∧ (L 7 = true → s 33 = .agg #[.int .i64 x.to, .int .i64 (costOf p x true).a, .int .i64 (costOf p x true).b, .int .i64 (costOf p x true).c, .int .i64 (costOf p x true).d, .slice none 0 0]) ∧ (L 8 = true → s 34 = .bool gh.b) ∧ (L 9 = true → s 35 = .bool (!gh.b)) from ⟨gJ, gY, f0, f1, f2, f3, f4, f5, f6, f7, f8, f9⟩)
        clear f9 f8 f7 f6 f5 f4 f3 f2 f1 f0 gY gJ hd
        try simp only at e3 e6 ⊢
        gi_wp2
        obtain ⟨gJ, gY, f0, f1, f2, f3, f4, f5, f6, f7, f8, f9⟩ := HF.out
        exact hK (gh, (upd (upd (upd s 29 (.int .i64 x.to)) 32 (.agg #[.int .i64 (costOf p x true).a, .int .i64 (costOf p x true).b, .int .i64 (costOf p x true).c, .int .i64 (costOf p x true).d])) 33 (.agg #[.int .i64 x.to, .int .i64 (costOf p x true).a, .int .i64 (costOf p x true).b, .int .i64 (costOf p x true).c, .int .i64 (costOf p x true).d, .slice none 0 0]))) _ ⟨gJ, gY, f0, f1, f2, (fun _ => rfl), f4, f5, (fun _ => rfl), (fun _ => rfl), f8, f9⟩
       ·rintro L ⟨gh, s⟩ W hu hd hdn ⟨gJ, gY, f0, f1, f2, f3, f4, f5, f6, f7, f8, f9⟩ K Q hK
        try dsimp only at gJ gY f0 f1 f2 f3 f4 f5 f6 f7 f8 f9 ⊢
        have e0 := f0 (hd.at_ 0 rfl)
        have e1 := f1 (hd.at_ 1 rfl)
        have e7 := f7 (hd.at_ 7 rfl)
        have h8 : L 8 = false := hu
        have GJ := Lib.hid (gJ h8)
        obtain ⟨fn, tmps, assign, body, hy, hR⟩ := HYY.out W GJ.out.1
        have HF := Lib.hid (show (L 8 = false → J (upto true p place t.links k) W ∧ FromIn w1 g1 g2 #[.slice A nn c, .slice (some ⟨b, off, none⟩) m d, .bool true, .func (.func F) #[] C] place W ∧ Blk W wr.heap.size 52 #[.int .i64 x.id, .int .i64 x.fr, .int .i64 x.to, .int .i64 x.steps, .int .i64 x.paces] ∧ W0.heap.size ≤ W.heap.size) ∧ (L 8 = true → (gh.b = true ∧ J (upto true p place t.links (k + 1)) W ∧ FromIn w1 g1 g2 #[.slice A nn c, .slice (some ⟨b, off, none⟩) m d, .bool true, .func (.func F) #[] C] place W ∧ W0.heap.size ≤ W.heap.size) ∨ (gh.b = false ∧ Jx (upto true p place t.links (k + 1)) W)) ∧ (L 0 = true → s 26 = .func (.yield l) #[] #[]) ∧ (L 1 = true → s 27 = .agg #[.int .i64 x.id, .int .i64 x.fr, .int .i64 x.to, .int .i64 x.steps, .int .i64 x.paces]) ∧ (L 2 = true → s 28 = .pointer (some ⟨wr.heap.size, 2, none⟩)) ∧ (L 3 = true → s 29 = .int .i64 x.to) ∧ (L 4 = true → s 30 = .agg #[.slice A nn c, .slice (some ⟨b, off, none⟩) m d, .bool true, .func (.func F) #[] C]) ∧ (L 5 = true → s 31 = .agg #[.int .i64 x.id, .int .i64 x.fr, .int .i64 x.to, .int .i64 x.steps, .int .i64 x.paces]) ∧ (L 6 = true → s 32 = .agg #[.int .i64 (costOf p x true).a, .int .i64 (costOf p x true).b, .int .i64 (costOf p x true).c, .int .i64 (costOf p x true).d]) ∧ (L 7 = true → s 33 = .agg #[.int .i64 x.to, .int .i64 (costOf p x true).a, .int .i64 (costOf p x true).b, .int .i64 (costOf p x true).c, .int .i64 (costOf p x true).d, .slice none 0 0]) ∧ (L 8 = true → s 34 = .bool gh.b) ∧ (L 9 = true → s 35 = .bool (!gh.b)) from ⟨gJ, gY, f0, f1, f2, f3, f4, f5, f6, f7, f8, f9⟩)
        clear f9 f8 f7 f6 f5 f4 f3 f2 f1 f0 gY gJ hd
        try simp only at e0 e1 e7 ⊢
        gi_wp2
        refine ⟨fun _ => by omega, hR.mono ?_⟩
        rintro e W3 hor
        obtain ⟨bb, rfl, hor2⟩ := yieldedB hor
        clear hor
        gi_wp2
        obtain ⟨gJ, gY, f0, f1, f2, f3, f4, f5, f6, f7, f8, f9⟩ := HF.out
        exact hK ((⟨bb⟩ : YGh), (upd (upd (upd (upd s 26 (.func (.yield l) #[] #[])) 27 (.agg #[.int .i64 x.id, .int .i64 x.fr, .int .i64 x.to, .int .i64 x.steps, .int .i64 x.paces])) 33 (.agg #[.int .i64 x.to, .int .i64 (costOf p x true).a, .int .i64 (costOf p x true).b, .int .i64 (costOf p x true).c, .int .i64 (costOf p x true).d, .slice none 0 0])) 34 (.bool bb))) _ ⟨(fun h => by cases h), (fun _ => by
      rcases hor2 with ⟨h1, h2, h3⟩ | ⟨h1, h2⟩
      ·exact .inl ⟨h1, h2, GJ.out.2.1.kept h3, Nat.le_trans GJ.out.2.2.2 h3.1.size⟩
      ·exact .inr ⟨h1, h2⟩), (fun _ => rfl), (fun _ => rfl), f2, f3, f4, f5, f6, (fun _ => rfl), (fun _ => rfl), (fun h => hdn.no 9 8 h rfl hu)⟩
       ·rintro L ⟨gh, s⟩ W hu hd hdn ⟨gJ, gY, f0, f1, f2, f3, f4, f5, f6, f7, f8, f9⟩ K Q hK
        try dsimp only at gJ gY f0 f1 f2 f3 f4 f5 f6 f7 f8 f9 ⊢
        have e8 := f8 (hd.at_ 8 rfl)
        have HF := Lib.hid (show (L 8 = false → J (upto true p place t.links k) W ∧ FromIn w1 g1 g2 #[.slice A nn c, .slice (some ⟨b, off, none⟩) m d, .bool true, .func (.func F) #[] C] place W ∧ Blk W wr.heap.size 52 #[.int .i64 x.id, .int .i64 x.fr, .int .i64 x.to, .int .i64 x.steps, .int .i64 x.paces] ∧ W0.heap.size ≤ W.heap.size) ∧ (L 8 = true → (gh.b = true ∧ J (upto true p place t.links (k + 1)) W ∧ FromIn w1 g1 g2 #[.slice A nn c, .slice (some ⟨b, off, none⟩) m d, .bool true, .func (.func F) #[] C] place W ∧ W0.heap.size ≤ W.heap.size) ∨ (gh.b = false ∧ Jx (upto true p place t.links (k + 1)) W)) ∧ (L 0 = true → s 26 = .func (.yield l) #[] #[]) ∧ (L 1 = true → s 27 = .agg #[.int .i64 x.id, .int .i64 x.fr, .int .i64 x.to, .int .i64 x.steps, .int .i64 x.paces]) ∧ (L 2 = true → s 28 = .pointer (some ⟨wr.heap.size, 2, none⟩)) ∧ (L 3 = true → s 29 = .int .i64 x.to) ∧ (L 4 = true → s 30 = .agg #[.slice A nn c, .slice (some ⟨b, off, none⟩) m d, .bool true, .func (.func F) #[] C]) ∧ (L 5 = true → s 31 = .agg #[.int .i64 x.id, .int .i64 x.fr, .int .i64 x.to, .int .i64 x.steps, .int .i64 x.paces]) ∧ (L 6 = true → s 32 = .agg #[.int .i64 (costOf p x true).a, .int .i64 (costOf p x true).b, .int .i64 (costOf p x true).c, .int .i64 (costOf p x true).d]) ∧ (L 7 = true → s 33 = .agg #[.int .i64 x.to, .int .i64 (costOf p x true).a, .int .i64 (costOf p x true).b, .int .i64 (costOf p x true).c, .int .i64 (costOf p x true).d, .slice none 0 0]) ∧ (L 8 = true → s 34 = .bool gh.b) ∧ (L 9 = true → s 35 = .bool (!gh.b)) from ⟨gJ, gY, f0, f1, f2, f3, f4, f5, f6, f7, f8, f9⟩)
        clear f9 f8 f7 f6 f5 f4 f3 f2 f1 f0 gY gJ hd
        try simp only at e8 ⊢
        gi_wp2
        obtain ⟨gJ, gY, f0, f1, f2, f3, f4, f5, f6, f7, f8, f9⟩ := HF.out
        exact hK (gh, (upd (upd s 34 (.bool gh.b)) 35 (.bool (!gh.b)))) _ ⟨gJ, gY, f0, f1, f2, f3, f4, f5, f6, f7, (fun _ => rfl), (fun _ => rfl)⟩
      ·rintro L ⟨gh, s⟩ W hall ⟨gJ, gY, f0, f1, f2, f3, f4, f5, f6, f7, f8, f9⟩
       have e9 := f9 (hall 9 (by decide))
       have GY := gY (hall 8 (by decide))
       clear hall gJ gY f0 f1 f2 f3 f4 f5 f6 f7 f8 f9
       rcases GY with ⟨hb, hj, hi, hsz'⟩ | ⟨hb, hjx⟩
       ·rw [hb] at e9
        have HJ3 := Lib.hid hj
        have HI3 := Lib.hid hi
        clear hj hi hb
        replace e9 : s 35 = .bool false := e9
        simp only
        rw [e9]
        gi_wp2
        go_roundw
        case rel => exact ⟨k + 1, by omega, by go_num, HJ3.out, HI3.out, by omega⟩
        case measure => simp [intOf]; omega
       ·rw [hb] at e9
        have HJ3 := Lib.hid hjx
        clear hjx hb
        replace e9 : s 35 = .bool true := e9
        simp only
        rw [e9]
        gi_wp2
        unfold Exit.noGoto
        refine bodyPost_ret (results_none rfl _ _ _) rfl ?_
        exact ⟨⟨_, rfl⟩, .inr ⟨_, upto_pre _ _ _ _ _, HJ3.out⟩⟩
    ·have hfr' : (place == x.fr) = false := by simpa using hfr
     have HFR := Lib.hid hfr
     clear hfr
     by_cases hto : place = x.to
     ·have hto' : (place == x.to) = true := by simpa using hto
      have HTO := Lib.hid hto
      clear hto
      rcases (show dk = false ∨ dk = true ∧ ¬ 0 < x.steps by cases dk <;> simp_all) with rfl | ⟨rfl, hst⟩
      ·clear hskip
       have hL : leads false p x place = some (x.fr, (costOf p x false)) := by rw [HLD.out]; rw [if_neg (fun e => HFR.out e.symm), if_pos HTO.out.symm]; simp [costOf, priceOf]
       obtain ⟨y, hy1, hy2, hy3⟩ := upto_some HX.out hL
       have HYY : Hid (∀ W, J (upto false p place t.links k) W → YieldAt Fence.wide (n - 1) Tryz.prog l #[.agg #[.int .i64 x.id, .int .i64 x.fr, .int .i64 x.to, .int .i64 x.steps, .int .i64 x.paces], .agg #[.int .i64 x.fr, .int .i64 (costOf p x false).a, .int .i64 (costOf p x false).b, .int .i64 (costOf p x false).c, .int .i64 (costOf p x false).d, .slice none 0 0]] W fun e W' =>
         (e = .returned (.bool true) ∧ J (upto false p place t.links (k + 1)) W' ∧ FromK w1.heap.size g1 g2 W W') ∨ (e = .returned (.bool false) ∧ Jx (upto false p place t.links (k + 1)) W')) := Lib.hid (fun W hj => by
        have := HY.out _ y W hj hy3
        unfold Out.enc at this
        rw [hy1] at this
        rw [hy2]
        exact this)
       clear hL hy1 hy2 hy3
       have B0 : Below wr.heap.size wr (wr.alloc (.cells #[.int .i64 x.id, .int .i64 x.fr, .int .i64 x.to, .int .i64 x.steps, .int .i64 x.paces] 52)).drew := below_drewN ((Below.refl _ _).alloc (Nat.le_refl _) _) 1
       have G0 : J (upto false p place t.links k) (wr.alloc (.cells #[.int .i64 x.id, .int .i64 x.fr, .int .i64 x.to, .int .i64 x.steps, .int .i64 x.paces] 52)).drew ∧ FromIn w1 g1 g2 #[.slice A nn c, .slice (some ⟨b, off, none⟩) m d, .bool false, .func (.func F) #[] C] place (wr.alloc (.cells #[.int .i64 x.id, .int .i64 x.fr, .int .i64 x.to, .int .i64 x.steps, .int .i64 x.paces] 52)).drew ∧ Blk (wr.alloc (.cells #[.int .i64 x.id, .int .i64 x.fr, .int .i64 x.to, .int .i64 x.steps, .int .i64 x.paces] 52)).drew wr.heap.size 52 #[.int .i64 x.id, .int .i64 x.fr, .int .i64 x.to, .int .i64 x.steps, .int .i64 x.paces] ∧ W0.heap.size ≤ (wr.alloc (.cells #[.int .i64 x.id, .int .i64 x.fr, .int .i64 x.to, .int .i64 x.steps, .int .i64 x.paces] 52)).drew.heap.size :=
        ⟨HJ.out _ _ _ none HJs.out (grown_of_below B0 none) (fun r e => by cases e), HI.out.grow B0, Blk.new wr _ _, Nat.le_trans hsz B0.size⟩
       clear B0
       gi_wp2
       refine wpIn_region_stepsD (by kernel_rfl) (by kernel_rfl) (fun σ : YGh × (Nat → Value) => { tmps := #[.func (.yield l) #[] #[], .pointer (some ⟨g1, 0, none⟩), .pointer (some ⟨g2, 0, none⟩), undef, undef, .pointer (some ⟨wr.heap.size, 0, none⟩), .pointer (some ⟨g1, 0, none⟩), .pointer (some ⟨g1, 1, none⟩), .slice (some ⟨b, off, none⟩) m d, .int .i64 (m : Int), .int .i64 (k : Int), .bool true, .pointer (some ⟨b, off + k * 5, none⟩), .agg #[.int .i64 x.id, .int .i64 x.fr, .int .i64 x.to, .int .i64 x.steps, .int .i64 x.paces], .pointer (some ⟨g1, 2, none⟩), .bool false, .bool false, undef, undef, undef, .bool false, .int .i64 place, .bool false, .pointer (some ⟨wr.heap.size, 1, none⟩), .int .i64 x.fr, .bool false, u26, u27, u28, u29, u30, u31, u32, u33, u34, u35, .bool true, .pointer (some ⟨wr.heap.size, 2, none⟩), .int .i64 x.to, .bool true, σ.2 40, σ.2 41, σ.2 42, σ.2 43, σ.2 44, σ.2 45, σ.2 46, σ.2 47, σ.2 48, σ.2 49, u50], defers := [] })
        (fun L σ W => (L 8 = false → J (upto false p place t.links k) W ∧ FromIn w1 g1 g2 #[.slice A nn c, .slice (some ⟨b, off, none⟩) m d, .bool false, .func (.func F) #[] C] place W ∧ Blk W wr.heap.size 52 #[.int .i64 x.id, .int .i64 x.fr, .int .i64 x.to, .int .i64 x.steps, .int .i64 x.paces] ∧ W0.heap.size ≤ W.heap.size) ∧ (L 8 = true → (σ.1.b = true ∧ J (upto false p place t.links (k + 1)) W ∧ FromIn w1 g1 g2 #[.slice A nn c, .slice (some ⟨b, off, none⟩) m d, .bool false, .func (.func F) #[] C] place W ∧ W0.heap.size ≤ W.heap.size) ∨ (σ.1.b = false ∧ Jx (upto false p place t.links (k + 1)) W)) ∧ (L 0 = true → σ.2 40 = .func (.yield l) #[] #[]) ∧ (L 1 = true → σ.2 41 = .agg #[.int .i64 x.id, .int .i64 x.fr, .int .i64 x.to, .int .i64 x.steps, .int .i64 x.paces]) ∧ (L 2 = true → σ.2 42 = .pointer (some ⟨wr.heap.size, 1, none⟩)) ∧ (L 3 = true → σ.2 43 = .int .i64 x.fr) ∧ (L 4 = true → σ.2 44 = .agg #[.slice A nn c, .slice (some ⟨b, off, none⟩) m d, .bool false, .func (.func F) #[] C]) ∧ (L 5 = true → σ.2 45 = .agg #[.int .i64 x.id, .int .i64 x.fr, .int .i64 x.to, .int .i64 x.steps, .int .i64 x.paces]) ∧ (L 6 = true → σ.2 46 = .agg #[.int .i64 (costOf p x false).a, .int .i64 (costOf p x false).b, .int .i64 (costOf p x false).c, .int .i64 (costOf p x false).d]) ∧ (L 7 = true → σ.2 47 = .agg #[.int .i64 x.fr, .int .i64 (costOf p x false).a, .int .i64 (costOf p x false).b, .int .i64 (costOf p x false).c, .int .i64 (costOf p x false).d, .slice none 0 0]) ∧ (L 8 = true → σ.2 48 = .bool σ.1.b) ∧ (L 9 = true → σ.2 49 = .bool (!σ.1.b)))
        (⟨false⟩, fun k => (#[u40, u41, u42, u43, u44, u45, u46, u47, u48, u49] : Array Value).getD (k - 40) undef) rfl ?_ ?_ ?_
       ·exact ⟨(fun _ => G0), (fun h => by cases h), (fun h => by cases h), (fun h => by cases h), (fun h => by cases h), (fun h => by cases h), (fun h => by cases h), (fun h => by cases h), (fun h => by cases h), (fun h => by cases h), (fun h => by cases h), (fun h => by cases h)⟩
       ·refine ⟨?_, ?_, ?_, ?_, ?_, ?_, ?_, ?_, ?_, ?_, trivial⟩
        ·rintro L ⟨gh, s⟩ W hu hd hdn ⟨gJ, gY, f0, f1, f2, f3, f4, f5, f6, f7, f8, f9⟩ K Q hK
         try dsimp only at gJ gY f0 f1 f2 f3 f4 f5 f6 f7 f8 f9 ⊢
         have HF := Lib.hid (show (L 8 = false → J (upto false p place t.links k) W ∧ FromIn w1 g1 g2 #[.slice A nn c, .slice (some ⟨b, off, none⟩) m d, .bool false, .func (.func F) #[] C] place W ∧ Blk W wr.heap.size 52 #[.int .i64 x.id, .int .i64 x.fr, .int .i64 x.to, .int .i64 x.steps, .int .i64 x.paces] ∧ W0.heap.size ≤ W.heap.size) ∧ (L 8 = true → (gh.b = true ∧ J (upto false p place t.links (k + 1)) W ∧ FromIn w1 g1 g2 #[.slice A nn c, .slice (some ⟨b, off, none⟩) m d, .bool false, .func (.func F) #[] C] place W ∧ W0.heap.size ≤ W.heap.size) ∨ (gh.b = false ∧ Jx (upto false p place t.links (k + 1)) W)) ∧ (L 0 = true → s 40 = .func (.yield l) #[] #[]) ∧ (L 1 = true → s 41 = .agg #[.int .i64 x.id, .int .i64 x.fr, .int .i64 x.to, .int .i64 x.steps, .int .i64 x.paces]) ∧ (L 2 = true → s 42 = .pointer (some ⟨wr.heap.size, 1, none⟩)) ∧ (L 3 = true → s 43 = .int .i64 x.fr) ∧ (L 4 = true → s 44 = .agg #[.slice A nn c, .slice (some ⟨b, off, none⟩) m d, .bool false, .func (.func F) #[] C]) ∧ (L 5 = true → s 45 = .agg #[.int .i64 x.id, .int .i64 x.fr, .int .i64 x.to, .int .i64 x.steps, .int .i64 x.paces]) ∧ (L 6 = true → s 46 = .agg #[.int .i64 (costOf p x false).a, .int .i64 (costOf p x false).b, .int .i64 (costOf p x false).c, .int .i64 (costOf p x false).d]) ∧ (L 7 = true → s 47 = .agg #[.int .i64 x.fr, .int .i64 (costOf p x false).a, .int .i64 (costOf p x false).b, .int .i64 (costOf p x false).c, .int .i64 (costOf p x false).d, .slice none 0 0]) ∧ (L 8 = true → s 48 = .bool gh.b) ∧ (L 9 = true → s 49 = .bool (!gh.b)) from ⟨gJ, gY, f0, f1, f2, f3, f4, f5, f6, f7, f8, f9⟩)
         clear f9 f8 f7 f6 f5 f4 f3 f2 f1 f0 gY gJ hd
         try simp only
         gi_wp2
         obtain ⟨gJ, gY, f0, f1, f2, f3, f4, f5, f6, f7, f8, f9⟩ := HF.out
         exact hK (gh, (upd s 40 (.func (.yield l) #[] #[]))) _ ⟨gJ, gY, (fun _ => rfl), f1, f2, f3, f4, f5, f6, f7, f8, f9⟩
        ·rintro L ⟨gh, s⟩ W hu hd hdn ⟨gJ, gY, f0, f1, f2, f3, f4, f5, f6, f7, f8, f9⟩ K Q hK
         try dsimp only at gJ gY f0 f1 f2 f3 f4 f5 f6 f7 f8 f9 ⊢
         have h8 : L 8 = false := by
          cases hc : L 8 with
          | false => rfl
          | true => exact hdn.no 8 1 hc rfl hu
         have G := (gJ h8).2.2.1
         have c0 : W.cell? ⟨wr.heap.size, 0, none⟩ = some (.int .i64 x.id) := G.cell 0
         have c1 : W.cell? ⟨wr.heap.size, 1, none⟩ = some (.int .i64 x.fr) := G.cell 1
         have c2 : W.cell? ⟨wr.heap.size, 2, none⟩ = some (.int .i64 x.to) := G.cell 2
         have c3 : W.cell? ⟨wr.heap.size, 3, none⟩ = some (.int .i64 x.steps) := G.cell 3
         have c4 : W.cell? ⟨wr.heap.size, 4, none⟩ = some (.int .i64 x.paces) := G.cell 4
         clear G
         have HF := Lib.hid (show (L 8 = false → J (upto false p place t.links k) W ∧ FromIn w1 g1 g2 #[.slice A nn c, .slice (some ⟨b, off, none⟩) m d, .bool false, .func (.func F) #[] C] place W ∧ Blk W wr.heap.size 52 #[.int .i64 x.id, .int .i64 x.fr, .int .i64 x.to, .int .i64 x.steps, .int .i64 x.paces] ∧ W0.heap.size ≤ W.heap.size) ∧ (L 8 = true → (gh.b = true ∧ J (upto false p place t.links (k + 1)) W ∧ FromIn w1 g1 g2 #[.slice A nn c, .slice (some ⟨b, off, none⟩) m d, .bool false, .func (.func F) #[] C] place W ∧ W0.heap.size ≤ W.heap.size) ∨ (gh.b = false ∧ Jx (upto false p place t.links (k + 1)) W)) ∧ (L 0 = true → s 40 = .func (.yield l) #[] #[]) ∧ (L 1 = true → s 41 = .agg #[.int .i64 x.id, .int .i64 x.fr, .int .i64 x.to, .int .i64 x.steps, .int .i64 x.paces]) ∧ (L 2 = true → s 42 = .pointer (some ⟨wr.heap.size, 1, none⟩)) ∧ (L 3 = true → s 43 = .int .i64 x.fr) ∧ (L 4 = true → s 44 = .agg #[.slice A nn c, .slice (some ⟨b, off, none⟩) m d, .bool false, .func (.func F) #[] C]) ∧ (L 5 = true → s 45 = .agg #[.int .i64 x.id, .int .i64 x.fr, .int .i64 x.to, .int .i64 x.steps, .int .i64 x.paces]) ∧ (L 6 = true → s 46 = .agg #[.int .i64 (costOf p x false).a, .int .i64 (costOf p x false).b, .int .i64 (costOf p x false).c, .int .i64 (costOf p x false).d]) ∧ (L 7 = true → s 47 = .agg #[.int .i64 x.fr, .int .i64 (costOf p x false).a, .int .i64 (costOf p x false).b, .int .i64 (costOf p x false).c, .int .i64 (costOf p x false).d, .slice none 0 0]) ∧ (L 8 = true → s 48 = .bool gh.b) ∧ (L 9 = true → s 49 = .bool (!gh.b)) from ⟨gJ, gY, f0, f1, f2, f3, f4, f5, f6, f7, f8, f9⟩)
         clear f9 f8 f7 f6 f5 f4 f3 f2 f1 f0 gY gJ hd
         try simp only
         gi_wp2
         obtain ⟨gJ, gY, f0, f1, f2, f3, f4, f5, f6, f7, f8, f9⟩ := HF.out
         exact hK (gh, (upd s 41 (.agg #[.int .i64 x.id, .int .i64 x.fr, .int .i64 x.to, .int .i64 x.steps, .int .i64 x.paces]))) _ ⟨gJ, gY, f0, (fun _ => rfl), f2, f3, f4, f5, f6, f7, f8, f9⟩
        ·rintro L ⟨gh, s⟩ W hu hd hdn ⟨gJ, gY, f0, f1, f2, f3, f4, f5, f6, f7, f8, f9⟩ K Q hK
         try dsimp only at gJ gY f0 f1 f2 f3 f4 f5 f6 f7 f8 f9 ⊢
         have HF := Lib.hid (show (L 8 = false → J (upto false p place t.links k) W ∧ FromIn w1 g1 g2 #[.slice A nn c, .slice (some ⟨b, off, none⟩) m d, .bool false, .func (.func F) #[] C] place W ∧ Blk W wr.heap.size 52 #[.int .i64 x.id, .int .i64 x.fr, .int .i64 x.to, .int .i64 x.steps, .int .i64 x.paces] ∧ W0.heap.size ≤ W.heap.size) ∧ (L 8 = true → (gh.b = true ∧ J (upto false p place t.links (k + 1)) W ∧ FromIn w1 g1 g2 #[.slice A nn c, .slice (some ⟨b, off, none⟩) m d, .bool false, .func (.func F) #[] C] place W ∧ W0.heap.size ≤ W.heap.size) ∨ (gh.b = false ∧ Jx (upto false p place t.links (k + 1)) W)) ∧ (L 0 = true → s 40 = .func (.yield l) #[] #[]) ∧ (L 1 = true → s 41 = .agg #[.int .i64 x.id, .int .i64 x.fr, .int .i64 x.to, .int .i64 x.steps, .int .i64 x.paces]) ∧ (L 2 = true → s 42 = .pointer (some ⟨wr.heap.size, 1, none⟩)) ∧ (L 3 = true → s 43 = .int .i64 x.fr) ∧ (L 4 = true → s 44 = .agg #[.slice A nn c, .slice (some ⟨b, off, none⟩) m d, .bool false, .func (.func F) #[] C]) ∧ (L 5 = true → s 45 = .agg #[.int .i64 x.id, .int .i64 x.fr, .int .i64 x.to, .int .i64 x.steps, .int .i64 x.paces]) ∧ (L 6 = true → s 46 = .agg #[.int .i64 (costOf p x false).a, .int .i64 (costOf p x false).b, .int .i64 (costOf p x false).c, .int .i64 (costOf p x false).d]) ∧ (L 7 = true → s 47 = .agg #[.int .i64 x.fr, .int .i64 (costOf p x false).a, .int .i64 (costOf p x false).b, .int .i64 (costOf p x false).c, .int .i64 (costOf p x false).d, .slice none 0 0]) ∧ (L 8 = true → s 48 = .bool gh.b) ∧ (L 9 = true → s 49 = .bool (!gh.b)) from ⟨gJ, gY, f0, f1, f2, f3, f4, f5, f6, f7, f8, f9⟩)
         clear f9 f8 f7 f6 f5 f4 f3 f2 f1 f0 gY gJ hd
         try simp only
         gi_wp2
         obtain ⟨gJ, gY, f0, f1, f2, f3, f4, f5, f6, f7, f8, f9⟩ := HF.out
         exact hK (gh, (upd s 42 (.pointer (some ⟨wr.heap.size, 1, none⟩)))) _ ⟨gJ, gY, f0, f1, (fun _ => rfl), f3, f4, f5, f6, f7, f8, f9⟩
        ·rintro L ⟨gh, s⟩ W hu hd hdn ⟨gJ, gY, f0, f1, f2, f3, f4, f5, f6, f7, f8, f9⟩ K Q hK
         try dsimp only at gJ gY f0 f1 f2 f3 f4 f5 f6 f7 f8 f9 ⊢
         have e2 := f2 (hd.at_ 2 rfl)
         have h8 : L 8 = false := by
          cases hc : L 8 with
          | false => rfl
          | true => exact hdn.no 7 3 (hdn.at_ 8 7 hc rfl) rfl hu
         have G := (gJ h8).2.2.1
         have c0 : W.cell? ⟨wr.heap.size, 0, none⟩ = some (.int .i64 x.id) := G.cell 0
         have c1 : W.cell? ⟨wr.heap.size, 1, none⟩ = some (.int .i64 x.fr) := G.cell 1
         have c2 : W.cell? ⟨wr.heap.size, 2, none⟩ = some (.int .i64 x.to) := G.cell 2
         have c3 : W.cell? ⟨wr.heap.size, 3, none⟩ = some (.int .i64 x.steps) := G.cell 3
         have c4 : W.cell? ⟨wr.heap.size, 4, none⟩ = some (.int .i64 x.paces) := G.cell 4
         clear G
         have HF := Lib.hid (show (L 8 = false → J (upto false p place t.links k) W ∧ FromIn w1 g1 g2 #[.slice A nn c, .slice (some ⟨b, off, none⟩) m d, .bool false, .func (.func F) #[] C] place W ∧ Blk W wr.heap.size 52 #[.int .i64 x.id, .int .i64 x.fr, .int .i64 x.to, .int .i64 x.steps, .int .i64 x.paces] ∧ W0.heap.size ≤ W.heap.size) ∧ (L 8 = true → (gh.b = true ∧ J (upto false p place t.links (k + 1)) W ∧ FromIn w1 g1 g2 #[.slice A nn c, .slice (some ⟨b, off, none⟩) m d, .bool false, .func (.func F) #[] C] place W ∧ W0.heap.size ≤ W.heap.size) ∨ (gh.b = false ∧ Jx (upto false p place t.links (k + 1)) W)) ∧ (L 0 = true → s 40 = .func (.yield l) #[] #[]) ∧ (L 1 = true → s 41 = .agg #[.int .i64 x.id, .int .i64 x.fr, .int .i64 x.to, .int .i64 x.steps, .int .i64 x.paces]) ∧ (L 2 = true → s 42 = .pointer (some ⟨wr.heap.size, 1, none⟩)) ∧ (L 3 = true → s 43 = .int .i64 x.fr) ∧ (L 4 = true → s 44 = .agg #[.slice A nn c, .slice (some ⟨b, off, none⟩) m d, .bool false, .func (.func F) #[] C]) ∧ (L 5 = true → s 45 = .agg #[.int .i64 x.id, .int .i64 x.fr, .int .i64 x.to, .int .i64 x.steps, .int .i64 x.paces]) ∧ (L 6 = true → s 46 = .agg #[.int .i64 (costOf p x false).a, .int .i64 (costOf p x false).b, .int .i64 (costOf p x false).c, .int .i64 (costOf p x false).d]) ∧ (L 7 = true → s 47 = .agg #[.int .i64 x.fr, .int .i64 (costOf p x false).a, .int .i64 (costOf p x false).b, .int .i64 (costOf p x false).c, .int .i64 (costOf p x false).d, .slice none 0 0]) ∧ (L 8 = true → s 48 = .bool gh.b) ∧ (L 9 = true → s 49 = .bool (!gh.b)) from ⟨gJ, gY, f0, f1, f2, f3, f4, f5, f6, f7, f8, f9⟩)
         clear f9 f8 f7 f6 f5 f4 f3 f2 f1 f0 gY gJ hd
         try simp only at e2 ⊢
         gi_wp2
         obtain ⟨gJ, gY, f0, f1, f2, f3, f4, f5, f6, f7, f8, f9⟩ := HF.out
         exact hK (gh, (upd (upd s 42 (.pointer (some ⟨wr.heap.size, 1, none⟩))) 43 (.int .i64 x.fr))) _ ⟨gJ, gY, f0, f1, (fun _ => rfl), (fun _ => rfl), f4, f5, f6, f7, f8, f9⟩
        ·rintro L ⟨gh, s⟩ W hu hd hdn ⟨gJ, gY, f0, f1, f2, f3, f4, f5, f6, f7, f8, f9⟩ K Q hK
         try dsimp only at gJ gY f0 f1 f2 f3 f4 f5 f6 f7 f8 f9 ⊢
         have h8 : L 8 = false := by
          cases hc : L 8 with
          | false => rfl
          | true => exact hdn.no 6 4 (hdn.at_ 8 6 hc rfl) rfl hu
         have G := (gJ h8).2.1.chart
         have c0 : W.cell? ⟨g1, 0, none⟩ = some (.slice A nn c) := G.cell 0
         have c1 : W.cell? ⟨g1, 1, none⟩ = some (.slice (some ⟨b, off, none⟩) m d) := G.cell 1
         have c2 : W.cell? ⟨g1, 2, none⟩ = some (.bool false) := G.cell 2
         have c3 : W.cell? ⟨g1, 3, none⟩ = some (.func (.func F) #[] C) := G.cell 3
         clear G
         have HF := Lib.hid (show (L 8 = false → J (upto false p place t.links k) W ∧ FromIn w1 g1 g2 #[.slice A nn c, .slice (some ⟨b, off, none⟩) m d, .bool false, .func (.func F) #[] C] place W ∧ Blk W wr.heap.size 52 #[.int .i64 x.id, .int .i64 x.fr, .int .i64 x.to, .int .i64 x.steps, .int .i64 x.paces] ∧ W0.heap.size ≤ W.heap.size) ∧ (L 8 = true → (gh.b = true ∧ J (upto false p place t.links (k + 1)) W ∧ FromIn w1 g1 g2 #[.slice A nn c, .slice (some ⟨b, off, none⟩) m d, .bool false, .func (.func F) #[] C] place W ∧ W0.heap.size ≤ W.heap.size) ∨ (gh.b = false ∧ Jx (upto false p place t.links (k + 1)) W)) ∧ (L 0 = true → s 40 = .func (.yield l) #[] #[]) ∧ (L 1 = true → s 41 = .agg #[.int .i64 x.id, .int .i64 x.fr, .int .i64 x.to, .int .i64 x.steps, .int .i64 x.paces]) ∧ (L 2 = true → s 42 = .pointer (some ⟨wr.heap.size, 1, none⟩)) ∧ (L 3 = true → s 43 = .int .i64 x.fr) ∧ (L 4 = true → s 44 = .agg #[.slice A nn c, .slice (some ⟨b, off, none⟩) m d, .bool false, .func (.func F) #[] C]) ∧ (L 5 = true → s 45 = .agg #[.int .i64 x.id, .int .i64 x.fr, .int .i64 x.to, .int .i64 x.steps, .int .i64 x.paces]) ∧ (L 6 = true → s 46 = .agg #[.int .i64 (costOf p x false).a, .int .i64 (costOf p x false).b, .int .i64 (costOf p x false).c, .int .i64 (costOf p x false).d]) ∧ (L 7 = true → s 47 = .agg #[.int .i64 x.fr, .int .i64 (costOf p x false).a, .int .i64 (costOf p x false).b, .int .i64 (costOf p x false).c, .int .i64 (costOf p x false).d, .slice none 0 0]) ∧ (L 8 = true → s 48 = .bool gh.b) ∧ (L 9 = true → s 49 = .bool (!gh.b)) from ⟨gJ, gY, f0, f1, f2, f3, f4, f5, f6, f7, f8, f9⟩)
         clear f9 f8 f7 f6 f5 f4 f3 f2 f1 f0 gY gJ hd
         try simp only
         gi_wp2
         obtain ⟨gJ, gY, f0, f1, f2, f3, f4, f5, f6, f7, f8, f9⟩ := HF.out
         exact hK (gh, (upd s 44 (.agg #[.slice A nn c, .slice (some ⟨b, off, none⟩) m d, .bool false, .func (.func F) #[] C]))) _ ⟨gJ, gY, f0, f1, f2, f3, (fun _ => rfl), f5, f6, f7, f8, f9⟩
        ·rintro L ⟨gh, s⟩ W hu hd hdn ⟨gJ, gY, f0, f1, f2, f3, f4, f5, f6, f7, f8, f9⟩ K Q hK
         try dsimp only at gJ gY f0 f1 f2 f3 f4 f5 f6 f7 f8 f9 ⊢
         have h8 : L 8 = false := by
          cases hc : L 8 with
          | false => rfl
          | true => exact hdn.no 6 5 (hdn.at_ 8 6 hc rfl) rfl hu
         have G := (gJ h8).2.2.1
         have c0 : W.cell? ⟨wr.heap.size, 0, none⟩ = some (.int .i64 x.id) := G.cell 0
         have c1 : W.cell? ⟨wr.heap.size, 1, none⟩ = some (.int .i64 x.fr) := G.cell 1
         have c2 : W.cell? ⟨wr.heap.size, 2, none⟩ = some (.int .i64 x.to) := G.cell 2
         have c3 : W.cell? ⟨wr.heap.size, 3, none⟩ = some (.int .i64 x.steps) := G.cell 3
         have c4 : W.cell? ⟨wr.heap.size, 4, none⟩ = some (.int .i64 x.paces) := G.cell 4
         clear G
         have HF := Lib.hid (show (L 8 = false → J (upto false p place t.links k) W ∧ FromIn w1 g1 g2 #[.slice A nn c, .slice (some ⟨b, off, none⟩) m d, .bool false, .func (.func F) #[] C] place W ∧ Blk W wr.heap.size 52 #[.int .i64 x.id, .int .i64 x.fr, .int .i64 x.to, .int .i64 x.steps, .int .i64 x.paces] ∧ W0.heap.size ≤ W.heap.size) ∧ (L 8 = true → (gh.b = true ∧ J (upto false p place t.links (k + 1)) W ∧ FromIn w1 g1 g2 #[.slice A nn c, .slice (some ⟨b, off, none⟩) m d, .bool false, .func (.func F) #[] C] place W ∧ W0.heap.size ≤ W.heap.size) ∨ (gh.b = false ∧ Jx (upto false p place t.links (k + 1)) W)) ∧ (L 0 = true → s 40 = .func (.yield l) #[] #[]) ∧ (L 1 = true → s 41 = .agg #[.int .i64 x.id, .int .i64 x.fr, .int .i64 x.to, .int .i64 x.steps, .int .i64 x.paces]) ∧ (L 2 = true → s 42 = .pointer (some ⟨wr.heap.size, 1, none⟩)) ∧ (L 3 = true → s 43 = .int .i64 x.fr) ∧ (L 4 = true → s 44 = .agg #[.slice A nn c, .slice (some ⟨b, off, none⟩) m d, .bool false, .func (.func F) #[] C]) ∧ (L 5 = true → s 45 = .agg #[.int .i64 x.id, .int .i64 x.fr, .int .i64 x.to, .int .i64 x.steps, .int .i64 x.paces]) ∧ (L 6 = true → s 46 = .agg #[.int .i64 (costOf p x false).a, .int .i64 (costOf p x false).b, .int .i64 (costOf p x false).c, .int .i64 (costOf p x false).d]) ∧ (L 7 = true → s 47 = .agg #[.int .i64 x.fr, .int .i64 (costOf p x false).a, .int .i64 (costOf p x false).b, .int .i64 (costOf p x false).c, .int .i64 (costOf p x false).d, .slice none 0 0]) ∧ (L 8 = true → s 48 = .bool gh.b) ∧ (L 9 = true → s 49 = .bool (!gh.b)) from ⟨gJ, gY, f0, f1, f2, f3, f4, f5, f6, f7, f8, f9⟩)
         clear f9 f8 f7 f6 f5 f4 f3 f2 f1 f0 gY gJ hd
         try simp only
         gi_wp2
         obtain ⟨gJ, gY, f0, f1, f2, f3, f4, f5, f6, f7, f8, f9⟩ := HF.out
         exact hK (gh, (upd s 45 (.agg #[.int .i64 x.id, .int .i64 x.fr, .int .i64 x.to, .int .i64 x.steps, .int .i64 x.paces]))) _ ⟨gJ, gY, f0, f1, f2, f3, f4, (fun _ => rfl), f6, f7, f8, f9⟩
        ·rintro L ⟨gh, s⟩ W hu hd hdn ⟨gJ, gY, f0, f1, f2, f3, f4, f5, f6, f7, f8, f9⟩ K Q hK
         try dsimp only at gJ gY f0 f1 f2 f3 f4 f5 f6 f7 f8 f9 ⊢
         have e4 := f4 (hd.at_ 4 rfl)
         have e5 := f5 (hd.at_ 5 rfl)
         have h8 : L 8 = false := by
          cases hc : L 8 with
          | false => rfl
          | true => exact hdn.no 8 6 hc rfl hu
         have GJ := Lib.hid (gJ h8)
         have HF := Lib.hid (show (L 8 = false → J (upto false p place t.links k) W ∧ FromIn w1 g1 g2 #[.slice A nn c, .slice (some ⟨b, off, none⟩) m d, .bool false, .func (.func F) #[] C] place W ∧ Blk W wr.heap.size 52 #[.int .i64 x.id, .int .i64 x.fr, .int .i64 x.to, .int .i64 x.steps, .int .i64 x.paces] ∧ W0.heap.size ≤ W.heap.size) ∧ (L 8 = true → (gh.b = true ∧ J (upto false p place t.links (k + 1)) W ∧ FromIn w1 g1 g2 #[.slice A nn c, .slice (some ⟨b, off, none⟩) m d, .bool false, .func (.func F) #[] C] place W ∧ W0.heap.size ≤ W.heap.size) ∨ (gh.b = false ∧ Jx (upto false p place t.links (k + 1)) W)) ∧ (L 0 = true → s 40 = .func (.yield l) #[] #[]) ∧ (L 1 = true → s 41 = .agg #[.int .i64 x.id, .int .i64 x.fr, .int .i64 x.to, .int .i64 x.steps, .int .i64 x.paces]) ∧ (L 2 = true → s 42 = .pointer (some ⟨wr.heap.size, 1, none⟩)) ∧ (L 3 = true → s 43 = .int .i64 x.fr) ∧ (L 4 = true → s 44 = .agg #[.slice A nn c, .slice (some ⟨b, off, none⟩) m d, .bool false, .func (.func F) #[] C]) ∧ (L 5 = true → s 45 = .agg #[.int .i64 x.id, .int .i64 x.fr, .int .i64 x.to, .int .i64 x.steps, .int .i64 x.paces]) ∧ (L 6 = true → s 46 = .agg #[.int .i64 (costOf p x false).a, .int .i64 (costOf p x false).b, .int .i64 (costOf p x false).c, .int .i64 (costOf p x false).d]) ∧ (L 7 = true → s 47 = .agg #[.int .i64 x.fr, .int .i64 (costOf p x false).a, .int .i64 (costOf p x false).b, .int .i64 (costOf p x false).c, .int .i64 (costOf p x false).d, .slice none 0 0]) ∧ (L 8 = true → s 48 = .bool gh.b) ∧ (L 9 = true → s 49 = .bool (!gh.b)) from ⟨gJ, gY, f0, f1, f2, f3, f4, f5, f6, f7, f8, f9⟩)
         clear f9 f8 f7 f6 f5 f4 f3 f2 f1 f0 gY gJ hd
         try simp only at e4 e5 ⊢
         gi_wp2
         refine ⟨trivial, fun _ => by omega, (callsIn_wide.2 (cost_any A nn c (some ⟨b, off, none⟩) m d false F C p x false W (HP.out.below GJ.out.2.1.below) HFX.out)).mono ?_⟩
         rintro e W2 ⟨rfl, hb⟩
         gi_wp2
         obtain ⟨gJ, gY, f0, f1, f2, f3, f4, f5, f6, f7, f8, f9⟩ := HF.out
         exact hK (gh, (upd (upd (upd s 44 (.agg #[.slice A nn c, .slice (some ⟨b, off, none⟩) m d, .bool false, .func (.func F) #[] C])) 45 (.agg #[.int .i64 x.id, .int .i64 x.fr, .int .i64 x.to, .int .i64 x.steps, .int .i64 x.paces])) 46 (.agg #[.int .i64 (costOf p x false).a, .int .i64 (costOf p x false).b, .int .i64 (costOf p x false).c, .int .i64 (costOf p x false).d]))) _ ⟨(fun _ => ⟨HJ.out _ _ _ none GJ.out.1 (grown_of_below hb none) (fun r e => by cases e), GJ.out.2.1.grow hb, GJ.out.2.2.1.below hb GJ.out.2.2.1.lt, Nat.le_trans GJ.out.2.2.2 hb.size⟩), (fun h => hdn.no 8 6 h rfl hu), f0, f1, f2, f3, (fun _ => rfl), (fun _ => rfl), (fun _ => rfl), f7, f8, f9⟩
        ·rintro L ⟨gh, s⟩ W hu hd hdn ⟨gJ, gY, f0, f1, f2, f3, f4, f5, f6, f7, f8, f9⟩ K Q hK
         try dsimp only at gJ gY f0 f1 f2 f3 f4 f5 f6 f7 f8 f9 ⊢
         have e3 := f3 (hd.at_ 3 rfl)
         have e6 := f6 (hd.at_ 6 rfl)
         have HF := Lib.hid (show (L 8 = false → J (upto false p place t.links k) W ∧ FromIn w1 g1 g2 #[.slice A nn c, .slice (some ⟨b, off, none⟩) m d, .bool false, .func (.func F) #[] C] place W ∧ Blk W wr.heap.size 52 #[.int .i64 x.id, .int .i64 x.fr, .int .i64 x.to, .int .i64 x.steps, .int .i64 x.paces] ∧ W0.heap.size ≤ W.heap.size) ∧ (L 8 = true → (gh.b = true ∧ J (upto false p place t.links (k + 1)) W ∧ FromIn w1 g1 g2 #[.slice A nn c, .slice (some ⟨b, off, none⟩) m d, .bool false, .func (.func F) #[] C] place W ∧ W0.heap.size ≤ W.heap.size) ∨ (gh.b = false ∧ Jx (upto false p place t.links (k + 1)) W)) ∧ (L 0 = true → s 40 = .func (.yield l) #[] #[]) ∧ (L 1 = true → s 41 = .agg #[.int .i64 x.id, .int .i64 x.fr, .int .i64 x.to, .int .i64 x.steps, .int .i64 x.paces]) ∧ (L 2 = true → s 42 = .pointer (some ⟨wr.heap.size, 1, none⟩)) ∧ (L 3 = true → s 43 = .int .i64 x.fr) ∧ (L 4 = true → s 44 = .agg #[.slice A nn c, .slice (some ⟨b, off, none⟩) m d, .bool false, .func (.func F) #[] C]) ∧ (L 5 = true → s 45 = .agg #[.int .i64 x.id, .int .i64 x.fr, .int .i64 x.to, .int .i64 x.steps, .int .i64 x.paces]) ∧ (L 6 = true → s 46 = .agg #[.int .i64 (costOf p x false).a, .int .i64 (costOf p x false).b, .int .i64 (costOf p x false).c, .int .i64 (costOf p x false).d]) ∧ (L 7 = true → s 47 = .agg #[.int .i64 x.fr, .int .i64 (costOf p x false).a, .int .i64 (costOf p x false).b, .int .i64 (costOf p x false).c, .int .i64 (costOf p x false).d, .slice none 0 0]) ∧ (L 8 = true → s 48 = .bool gh.b) ∧ (L 9 = true → s 49 = .bool (!gh.b)) from ⟨gJ, gY, f0, f1, f2, f3, f4, f5, f6, f7, f8, f9⟩)
         clear f9 f8 f7 f6 f5 f4 f3 f2 f1 f0 gY gJ hd
         try simp only at e3 e6 ⊢
         gi_wp2
         obtain ⟨gJ, gY, f0, f1, f2, f3, f4, f5, f6, f7, f8, f9⟩ := HF.out
         exact hK (gh, (upd (upd (upd s 43 (.int .i64 x.fr)) 46 (.agg #[.int .i64 (costOf p x false).a, .int .i64 (costOf p x false).b, .int .i64 (costOf p x false).c, .int .i64 (costOf p x false).d])) 47 (.agg #[.int .i64 x.fr, .int .i64 (costOf p x false).a, .int .i64 (costOf p x false).b, .int .i64 (costOf p x false).c, .int .i64 (costOf p x false).d, .slice none 0 0]))) _ ⟨gJ, gY, f0, f1, f2, (fun _ => rfl), f4, f5, (fun _ => rfl), (fun _ => rfl), f8, f9⟩
        ·rintro L ⟨gh, s⟩ W hu hd hdn ⟨gJ, gY, f0, f1, f2, f3, f4, f5, f6, f7, f8, f9⟩ K Q hK
         try dsimp only at gJ gY f0 f1 f2 f3 f4 f5 f6 f7 f8 f9 ⊢
         have e0 := f0 (hd.at_ 0 rfl)
         have e1 := f1 (hd.at_ 1 rfl)
         have e7 := f7 (hd.at_ 7 rfl)
         have h8 : L 8 = false := hu
         have GJ := Lib.hid (gJ h8)
         obtain ⟨fn, tmps, assign, body, hy, hR⟩ := HYY.out W GJ.out.1
         have HF := Lib.hid (show (L 8 = false → J (upto false p place t.links k) W ∧ FromIn w1 g1 g2 #[.slice A nn c, .slice (some ⟨b, off, none⟩) m d, .bool false, .func (.func F) #[] C] place W ∧ Blk W wr.heap.size 52 #[.int .i64 x.id, .int .i64 x.fr, .int .i64 x.to, .int .i64 x.steps, .int .i64 x.paces] ∧ W0.heap.size ≤ W.heap.size) ∧ (L 8 = true → (gh.b = true ∧ J (upto false p place t.links (k + 1)) W ∧ FromIn w1 g1 g2 #[.slice A nn c, .slice (some ⟨b, off, none⟩) m d, .bool false, .func (.func F) #[] C] place W ∧ W0.heap.size ≤ W.heap.size) ∨ (gh.b = false ∧ Jx (upto false p place t.links (k + 1)) W)) ∧ (L 0 = true → s 40 = .func (.yield l) #[] #[]) ∧ (L 1 = true → s 41 = .agg #[.int .i64 x.id, .int .i64 x.fr, .int .i64 x.to, .int .i64 x.steps, .int .i64 x.paces]) ∧ (L 2 = true → s 42 = .pointer (some ⟨wr.heap.size, 1, none⟩)) ∧ (L 3 = true → s 43 = .int .i64 x.fr) ∧ (L 4 = true → s 44 = .agg #[.slice A nn c, .slice (some ⟨b, off, none⟩) m d, .bool false, .func (.func F) #[] C]) ∧ (L 5 = true → s 45 = .agg #[.int .i64 x.id, .int .i64 x.fr, .int .i64 x.to, .int .i64 x.steps, .int .i64 x.paces]) ∧ (L 6 = true → s 46 = .agg #[.int .i64 (costOf p x false).a, .int .i64 (costOf p x false).b, .int .i64 (costOf p x false).c, .int .i64 (costOf p x false).d]) ∧ (L 7 = true → s 47 = .agg #[.int .i64 x.fr, .int .i64 (costOf p x false).a, .int .i64 (costOf p x false).b, .int .i64 (costOf p x false).c, .int .i64 (costOf p x false).d, .slice none 0 0]) ∧ (L 8 = true → s 48 = .bool gh.b) ∧ (L 9 = true → s 49 = .bool (!gh.b)) from ⟨gJ, gY, f0, f1, f2, f3, f4, f5, f6, f7, f8, f9⟩)
         clear f9 f8 f7 f6 f5 f4 f3 f2 f1 f0 gY gJ hd
         try simp only at e0 e1 e7 ⊢
         gi_wp2
         refine ⟨fun _ => by omega, hR.mono ?_⟩
         rintro e W3 hor
         obtain ⟨bb, rfl, hor2⟩ := yieldedB hor
         clear hor
         gi_wp2
         obtain ⟨gJ, gY, f0, f1, f2, f3, f4, f5, f6, f7, f8, f9⟩ := HF.out
         exact hK ((⟨bb⟩ : YGh), (upd (upd (upd (upd s 40 (.func (.yield l) #[] #[])) 41 (.agg #[.int .i64 x.id, .int .i64 x.fr, .int .i64 x.to, .int .i64 x.steps, .int .i64 x.paces])) 47 (.agg #[.int .i64 x.fr, .int .i64 (costOf p x false).a, .int .i64 (costOf p x false).b, .int .i64 (costOf p x false).c, .int .i64 (costOf p x false).d, .slice none 0 0])) 48 (.bool bb))) _ ⟨(fun h => by cases h), (fun _ => by
      rcases hor2 with ⟨h1, h2, h3⟩ | ⟨h1, h2⟩
      ·exact .inl ⟨h1, h2, GJ.out.2.1.kept h3, Nat.le_trans GJ.out.2.2.2 h3.1.size⟩
      ·exact .inr ⟨h1, h2⟩), (fun _ => rfl), (fun _ => rfl), f2, f3, f4, f5, f6, (fun _ => rfl), (fun _ => rfl), (fun h => hdn.no 9 8 h rfl hu)⟩
        ·rintro L ⟨gh, s⟩ W hu hd hdn ⟨gJ, gY, f0, f1, f2, f3, f4, f5, f6, f7, f8, f9⟩ K Q hK
         try dsimp only at gJ gY f0 f1 f2 f3 f4 f5 f6 f7 f8 f9 ⊢
         have e8 := f8 (hd.at_ 8 rfl)
         have HF := Lib.hid (show (L 8 = false → J (upto false p place t.links k) W ∧ FromIn w1 g1 g2 #[.slice A nn c, .slice (some ⟨b, off, none⟩) m d, .bool false, .func (.func F) #[] C] place W ∧ Blk W wr.heap.size 52 #[.int .i64 x.id, .int .i64 x.fr, .int .i64 x.to, .int .i64 x.steps, .int .i64 x.paces] ∧ W0.heap.size ≤ W.heap.size) ∧ (L 8 = true → (gh.b = true ∧ J (upto false p place t.links (k + 1)) W ∧ FromIn w1 g1 g2 #[.slice A nn c, .slice (some ⟨b, off, none⟩) m d, .bool false, .func (.func F) #[] C] place W ∧ W0.heap.size ≤ W.heap.size) ∨ (gh.b = false ∧ Jx (upto false p place t.links (k + 1)) W)) ∧ (L 0 = true → s 40 = .func (.yield l) #[] #[]) ∧ (L 1 = true → s 41 = .agg #[.int .i64 x.id, .int .i64 x.fr, .int .i64 x.to, .int .i64 x.steps, .int .i64 x.paces]) ∧ (L 2 = true → s 42 = .pointer (some ⟨wr.heap.size, 1, none⟩)) ∧ (L 3 = true → s 43 = .int .i64 x.fr) ∧ (L 4 = true → s 44 = .agg #[.slice A nn c, .slice (some ⟨b, off, none⟩) m d, .bool false, .func (.func F) #[] C]) ∧ (L 5 = true → s 45 = .agg #[.int .i64 x.id, .int .i64 x.fr, .int .i64 x.to, .int .i64 x.steps, .int .i64 x.paces]) ∧ (L 6 = true → s 46 = .agg #[.int .i64 (costOf p x false).a, .int .i64 (costOf p x false).b, .int .i64 (costOf p x false).c, .int .i64 (costOf p x false).d]) ∧ (L 7 = true → s 47 = .agg #[.int .i64 x.fr, .int .i64 (costOf p x false).a, .int .i64 (costOf p x false).b, .int .i64 (costOf p x false).c, .int .i64 (costOf p x false).d, .slice none 0 0]) ∧ (L 8 = true → s 48 = .bool gh.b) ∧ (L 9 = true → s 49 = .bool (!gh.b)) from ⟨gJ, gY, f0, f1, f2, f3, f4, f5, f6, f7, f8, f9⟩)
         clear f9 f8 f7 f6 f5 f4 f3 f2 f1 f0 gY gJ hd
         try simp only at e8 ⊢
         gi_wp2
         obtain ⟨gJ, gY, f0, f1, f2, f3, f4, f5, f6, f7, f8, f9⟩ := HF.out
         exact hK (gh, (upd (upd s 48 (.bool gh.b)) 49 (.bool (!gh.b)))) _ ⟨gJ, gY, f0, f1, f2, f3, f4, f5, f6, f7, (fun _ => rfl), (fun _ => rfl)⟩
       ·rintro L ⟨gh, s⟩ W hall ⟨gJ, gY, f0, f1, f2, f3, f4, f5, f6, f7, f8, f9⟩
        have e9 := f9 (hall 9 (by decide))
        have GY := gY (hall 8 (by decide))
        clear hall gJ gY f0 f1 f2 f3 f4 f5 f6 f7 f8 f9
        rcases GY with ⟨hb, hj, hi, hsz'⟩ | ⟨hb, hjx⟩
        ·rw [hb] at e9
         have HJ3 := Lib.hid hj
         have HI3 := Lib.hid hi
         clear hj hi hb
         replace e9 : s 49 = .bool false := e9
         simp only
         rw [e9]
         gi_wp2
         go_roundw
         case rel => exact ⟨k + 1, by omega, by go_num, HJ3.out, HI3.out, by omega⟩
         case measure => simp [intOf]; omega
        ·rw [hb] at e9
         have HJ3 := Lib.hid hjx
         clear hjx hb
         replace e9 : s 49 = .bool true := e9
         simp only
         rw [e9]
         gi_wp2
         unfold Exit.noGoto
         refine bodyPost_ret (results_none rfl _ _ _) rfl ?_
         exact ⟨⟨_, rfl⟩, .inr ⟨_, upto_pre _ _ _ _ _, HJ3.out⟩⟩
      ·clear hskip
       have hL : leads true p x place = some (x.fr, (costOf p x false)) := by rw [HLD.out]; rw [if_neg (fun e => HFR.out e.symm), if_pos HTO.out.symm]; simp [costOf, priceOf]
       obtain ⟨y, hy1, hy2, hy3⟩ := upto_some HX.out hL
       have HYY : Hid (∀ W, J (upto true p place t.links k) W → YieldAt Fence.wide (n - 1) Tryz.prog l #[.agg #[.int .i64 x.id, .int .i64 x.fr, .int .i64 x.to, .int .i64 x.steps, .int .i64 x.paces], .agg #[.int .i64 x.fr, .int .i64 (costOf p x false).a, .int .i64 (costOf p x false).b, .int .i64 (costOf p x false).c, .int .i64 (costOf p x false).d, .slice none 0 0]] W fun e W' =>
         (e = .returned (.bool true) ∧ J (upto true p place t.links (k + 1)) W' ∧ FromK w1.heap.size g1 g2 W W') ∨ (e = .returned (.bool false) ∧ Jx (upto true p place t.links (k + 1)) W')) := Lib.hid (fun W hj => by
        have := HY.out _ y W hj hy3
        unfold Out.enc at this
        rw [hy1] at this
        rw [hy2]
        exact this)
       clear hL hy1 hy2 hy3
       have B0 : Below wr.heap.size wr (wr.alloc (.cells #[.int .i64 x.id, .int .i64 x.fr, .int .i64 x.to, .int .i64 x.steps, .int .i64 x.paces] 52)).drew := below_drewN ((Below.refl _ _).alloc (Nat.le_refl _) _) 1
       have G0 : J (upto true p place t.links k) (wr.alloc (.cells #[.int .i64 x.id, .int .i64 x.fr, .int .i64 x.to, .int .i64 x.steps, .int .i64 x.paces] 52)).drew ∧ FromIn w1 g1 g2 #[.slice A nn c, .slice (some ⟨b, off, none⟩) m d, .bool true, .func (.func F) #[] C] place (wr.alloc (.cells #[.int .i64 x.id, .int .i64 x.fr, .int .i64 x.to, .int .i64 x.steps, .int .i64 x.paces] 52)).drew ∧ Blk (wr.alloc (.cells #[.int .i64 x.id, .int .i64 x.fr, .int .i64 x.to, .int .i64 x.steps, .int .i64 x.paces] 52)).drew wr.heap.size 52 #[.int .i64 x.id, .int .i64 x.fr, .int .i64 x.to, .int .i64 x.steps, .int .i64 x.paces] ∧ W0.heap.size ≤ (wr.alloc (.cells #[.int .i64 x.id, .int .i64 x.fr, .int .i64 x.to, .int .i64 x.steps, .int .i64 x.paces] 52)).drew.heap.size :=
        ⟨HJ.out _ _ _ none HJs.out (grown_of_below B0 none) (fun r e => by cases e), HI.out.grow B0, Blk.new wr _ _, Nat.le_trans hsz B0.size⟩
       clear B0
       gi_wp2
       refine wpIn_region_stepsD (by kernel_rfl) (by kernel_rfl) (fun σ : YGh × (Nat → Value) => { tmps := #[.func (.yield l) #[] #[], .pointer (some ⟨g1, 0, none⟩), .pointer (some ⟨g2, 0, none⟩), undef, undef, .pointer (some ⟨wr.heap.size, 0, none⟩), .pointer (some ⟨g1, 0, none⟩), .pointer (some ⟨g1, 1, none⟩), .slice (some ⟨b, off, none⟩) m d, .int .i64 (m : Int), .int .i64 (k : Int), .bool true, .pointer (some ⟨b, off + k * 5, none⟩), .agg #[.int .i64 x.id, .int .i64 x.fr, .int .i64 x.to, .int .i64 x.steps, .int .i64 x.paces], .pointer (some ⟨g1, 2, none⟩), .bool true, .bool true, .pointer (some ⟨wr.heap.size, 3, none⟩), .int .i64 x.steps, .bool false, .bool false, .int .i64 place, .bool false, .pointer (some ⟨wr.heap.size, 1, none⟩), .int .i64 x.fr, .bool false, u26, u27, u28, u29, u30, u31, u32, u33, u34, u35, .bool true, .pointer (some ⟨wr.heap.size, 2, none⟩), .int .i64 x.to, .bool true, σ.2 40, σ.2 41, σ.2 42, σ.2 43, σ.2 44, σ.2 45, σ.2 46, σ.2 47, σ.2 48, σ.2 49, u50], defers := [] })
        (fun L σ W => (L 8 = false → J (upto true p place t.links k) W ∧ FromIn w1 g1 g2 #[.slice A nn c, .slice (some ⟨b, off, none⟩) m d, .bool true, .func (.func F) #[] C] place W ∧ Blk W wr.heap.size 52 #[.int .i64 x.id, .int .i64 x.fr, .int .i64 x.to, .int .i64 x.steps, .int .i64 x.paces] ∧ W0.heap.size ≤ W.heap.size) ∧ (L 8 = true → (σ.1.b = true ∧ J (upto true p place t.links (k + 1)) W ∧ FromIn w1 g1 g2 #[.slice A nn c, .slice (some ⟨b, off, none⟩) m d, .bool true, .func (.func F) #[] C] place W ∧ W0.heap.size ≤ W.heap.size) ∨ (σ.1.b = false ∧ Jx (upto true p place t.links (k + 1)) W)) ∧ (L 0 = true → σ.2 40 = .func (.yield l) #[] #[]) ∧ (L 1 = true → σ.2 41 = .agg #[.int .i64 x.id, .int .i64 x.fr, .int .i64 x.to, .int .i64 x.steps, .int .i64 x.paces]) ∧ (L 2 = true → σ.2 42 = .pointer (some ⟨wr.heap.size, 1, none⟩)) ∧ (L 3 = true → σ.2 43 = .int .i64 x.fr) ∧ (L 4 = true → σ.2 44 = .agg #[.slice A nn c, .slice (some ⟨b, off, none⟩) m d, .bool true, .func (.func F) #[] C]) ∧ (L 5 = true → σ.2 45 = .agg #[.int .i64 x.id, .int .i64 x.fr, .int .i64 x.to, .int .i64 x.steps, .int .i64 x.paces]) ∧ (L 6 = true → σ.2 46 = .agg #[.int .i64 (costOf p x false).a, .int .i64 (costOf p x false).b, .int .i64 (costOf p x false).c, .int .i64 (costOf p x false).d]) ∧ (L 7 = true → σ.2 47 = .agg #[.int .i64 x.fr, .int .i64 (costOf p x false).a, .int .i64 (costOf p x false).b, .int .i64 (costOf p x false).c, .int .i64 (costOf p x false).d, .slice none 0 0]) ∧ (L 8 = true → σ.2 48 = .bool σ.1.b) ∧ (L 9 = true → σ.2 49 = .bool (!σ.1.b)))
        (⟨false⟩, fun k => (#[u40, u41, u42, u43, u44, u45, u46, u47, u48, u49] : Array Value).getD (k - 40) undef) rfl ?_ ?_ ?_
       ·exact ⟨(fun _ => G0), (fun h => by cases h), (fun h => by cases h), (fun h => by cases h), (fun h => by cases h), (fun h => by cases h), (fun h => by cases h), (fun h => by cases h), (fun h => by cases h), (fun h => by cases h), (fun h => by cases h), (fun h => by cases h)⟩
       ·refine ⟨?_, ?_, ?_, ?_, ?_, ?_, ?_, ?_, ?_, ?_, trivial⟩
        ·rintro L ⟨gh, s⟩ W hu hd hdn ⟨gJ, gY, f0, f1, f2, f3, f4, f5, f6, f7, f8, f9⟩ K Q hK
         try dsimp only at gJ gY f0 f1 f2 f3 f4 f5 f6 f7 f8 f9 ⊢
         have HF := Lib.hid (show (L 8 = false → J (upto true p place t.links k) W ∧ FromIn w1 g1 g2 #[.slice A nn c, .slice (some ⟨b, off, none⟩) m d, .bool true, .func (.func F) #[] C] place W ∧ Blk W wr.heap.size 52 #[.int .i64 x.id, .int .i64 x.fr, .int .i64 x.to, .int .i64 x.steps, .int .i64 x.paces] ∧ W0.heap.size ≤ W.heap.size) ∧ (L 8 = true → (gh.b = true ∧ J (upto true p place t.links (k + 1)) W ∧ FromIn w1 g1 g2 #[.slice A nn c, .slice (some ⟨b, off, none⟩) m d, .bool true, .func (.func F) #[] C] place W ∧ W0.heap.size ≤ W.heap.size) ∨ (gh.b = false ∧ Jx (upto true p place t.links (k + 1)) W)) ∧ (L 0 = true → s 40 = .func (.yield l) #[] #[]) ∧ (L 1 = true → s 41 = .agg #[.int .i64 x.id, .int .i64 x.fr, .int .i64 x.to, .int .i64 x.steps, .int .i64 x.paces]) ∧ (L 2 = true → s 42 = .pointer (some ⟨wr.heap.size, 1, none⟩)) ∧ (L 3 = true → s 43 = .int .i64 x.fr) ∧ (L 4 = true → s 44 = .agg #[.slice A nn c, .slice (some ⟨b, off, none⟩) m d, .bool true, .func (.func F) #[] C]) ∧ (L 5 = true → s 45 = .agg #[.int .i64 x.id, .int .i64 x.fr, .int .i64 x.to, .int .i64 x.steps, .int .i64 x.paces]) ∧ (L 6 = true → s 46 = .agg #[.int .i64 (costOf p x false).a, .int .i64 (costOf p x false).b, .int .i64 (costOf p x false).c, .int .i64 (costOf p x false).d]) ∧ (L 7 = true → s 47 = .agg #[.int .i64 x.fr, .int .i64 (costOf p x false).a, .int .i64 (costOf p x false).b, .int .i64 (costOf p x false).c, .int .i64 (costOf p x false).d, .slice none 0 0]) ∧ (L 8 = true → s 48 = .bool gh.b) ∧ (L 9 = true → s 49 = .bool (!gh.b)) from ⟨gJ, gY, f0, f1, f2, f3, f4, f5, f6, f7, f8, f9⟩)
         clear f9 f8 f7 f6 f5 f4 f3 f2 f1 f0 gY gJ hd
         try simp only
         gi_wp2
         obtain ⟨gJ, gY, f0, f1, f2, f3, f4, f5, f6, f7, f8, f9⟩ := HF.out
         exact hK (gh, (upd s 40 (.func (.yield l) #[] #[]))) _ ⟨gJ, gY, (fun _ => rfl), f1, f2, f3, f4, f5, f6, f7, f8, f9⟩
        ·rintro L ⟨gh, s⟩ W hu hd hdn ⟨gJ, gY, f0, f1, f2, f3, f4, f5, f6, f7, f8, f9⟩ K Q hK
         try dsimp only at gJ gY f0 f1 f2 f3 f4 f5 f6 f7 f8 f9 ⊢
         have h8 : L 8 = false := by
          cases hc : L 8 with
          | false => rfl
          | true => exact hdn.no 8 1 hc rfl hu
         have G := (gJ h8).2.2.1
         have c0 : W.cell? ⟨wr.heap.size, 0, none⟩ = some (.int .i64 x.id) := G.cell 0
         have c1 : W.cell? ⟨wr.heap.size, 1, none⟩ = some (.int .i64 x.fr) := G.cell 1
         have c2 : W.cell? ⟨wr.heap.size, 2, none⟩ = some (.int .i64 x.to) := G.cell 2
         have c3 : W.cell? ⟨wr.heap.size, 3, none⟩ = some (.int .i64 x.steps) := G.cell 3
         have c4 : W.cell? ⟨wr.heap.size, 4, none⟩ = some (.int .i64 x.paces) := G.cell 4
         clear G
         have HF := Lib.hid (show (L 8 = false → J (upto true p place t.links k) W ∧ FromIn w1 g1 g2 #[.slice A nn c, .slice (some ⟨b, off, none⟩) m d, .bool true, .func (.func F) #[] C] place W ∧ Blk W wr.heap.size 52 #[.int .i64 x.id, .int .i64 x.fr, .int .i64 x.to, .int .i64 x.steps, .int .i64 x.paces] ∧ W0.heap.size ≤ W.heap.size) ∧ (L 8 = true → (gh.b = true ∧ J (upto true p place t.links (k + 1)) W ∧ FromIn w1 g1 g2 #[.slice A nn c, .slice (some ⟨b, off, none⟩) m d, .bool true, .func (.func F) #[] C] place W ∧ W0.heap.size ≤ W.heap.size) ∨ (gh.b = false ∧ Jx (upto true p place t.links (k + 1)) W)) ∧ (L 0 = true → s 40 = .func (.yield l) #[] #[]) ∧ (L 1 = true → s 41 = .agg #[.int .i64 x.id, .int .i64 x.fr, .int .i64 x.to, .int .i64 x.steps, .int .i64 x.paces]) ∧ (L 2 = true → s 42 = .pointer (some ⟨wr.heap.size, 1, none⟩)) ∧ (L 3 = true → s 43 = .int .i64 x.fr) ∧ (L 4 = true → s 44 = .agg #[.slice A nn c, .slice (some ⟨b, off, none⟩) m d, .bool true, .func (.func F) #[] C]) ∧ (L 5 = true → s 45 = .agg #[.int .i64 x.id, .int .i64 x.fr, .int .i64 x.to, .int .i64 x.steps, .int .i64 x.paces]) ∧ (L 6 = true → s 46 = .agg #[.int .i64 (costOf p x false).a, .int .i64 (costOf p x false).b, .int .i64 (costOf p x false).c, .int .i64 (costOf p x false).d]) ∧ (L 7 = true → s 47 = .agg #[.int .i64 x.fr, .int .i64 (costOf p x false).a, .int .i64 (costOf p x false).b, .int .i64 (costOf p x false).c, .int .i64 (costOf p x false).d, .slice none 0 0]) ∧ (L 8 = true → s 48 = .bool gh.b) ∧ (L 9 = true → s 49 = .bool (!gh.b)) from ⟨gJ, gY, f0, f1, f2, f3, f4, f5, f6, f7, f8, f9⟩)
         clear f9 f8 f7 f6 f5 f4 f3 f2 f1 f0 gY gJ hd
         try simp only
         gi_wp2
         obtain ⟨gJ, gY, f0, f1, f2, f3, f4, f5, f6, f7, f8, f9⟩ := HF.out
         exact hK (gh, (upd s 41 (.agg #[.int .i64 x.id, .int .i64 x.fr, .int .i64 x.to, .int .i64 x.steps, .int .i64 x.paces]))) _ ⟨gJ, gY, f0, (fun _ => rfl), f2, f3, f4, f5, f6, f7, f8, f9⟩
        ·rintro L ⟨gh, s⟩ W hu hd hdn ⟨gJ, gY, f0, f1, f2, f3, f4, f5, f6, f7, f8, f9⟩ K Q hK
         try dsimp only at gJ gY f0 f1 f2 f3 f4 f5 f6 f7 f8 f9 ⊢
         have HF := Lib.hid (show (L 8 = false → J (upto true p place t.links k) W ∧ FromIn w1 g1 g2 #[.slice A nn c, .slice (some ⟨b, off, none⟩) m d, .bool true, .func (.func F) #[] C] place W ∧ Blk W wr.heap.size 52 #[.int .i64 x.id, .int .i64 x.fr, .int .i64 x.to, .int .i64 x.steps, .int .i64 x.paces] ∧ W0.heap.size ≤ W.heap.size) ∧ (L 8 = true → (gh.b = true ∧ J (upto true p place t.links (k + 1)) W ∧ FromIn w1 g1 g2 #[.slice A nn c, .slice (some ⟨b, off, none⟩) m d, .bool true, .func (.func F) #[] C] place W ∧ W0.heap.size ≤ W.heap.size) ∨ (gh.b = false ∧ Jx (upto true p place t.links (k + 1)) W)) ∧ (L 0 = true → s 40 = .func (.yield l) #[] #[]) ∧ (L 1 = true → s 41 = .agg #[.int .i64 x.id, .int .i64 x.fr, .int .i64 x.to, .int .i64 x.steps, .int .i64 x.paces]) ∧ (L 2 = true → s 42 = .pointer (some ⟨wr.heap.size, 1, none⟩)) ∧ (L 3 = true → s 43 = .int .i64 x.fr) ∧ (L 4 = true → s 44 = .agg #[.slice A nn c, .slice (some ⟨b, off, none⟩) m d, .bool true, .func (.func F) #[] C]) ∧ (L 5 = true → s 45 = .agg #[.int .i64 x.id, .int .i64 x.fr, .int .i64 x.to, .int .i64 x.steps, .int .i64 x.paces]) ∧ (L 6 = true → s 46 = .agg #[.int .i64 (costOf p x false).a, .int .i64 (costOf p x false).b, .int .i64 (costOf p x false).c, .int .i64 (costOf p x false).d]) ∧ (L 7 = true → s 47 = .agg #[.int .i64 x.fr, .int .i64 (costOf p x false).a, .int .i64 (costOf p x false).b, .int .i64 (costOf p x false).c, .int .i64 (costOf p x false).d, .slice none 0 0]) ∧ (L 8 = true → s 48 = .bool gh.b) ∧ (L 9 = true → s 49 = .bool (!gh.b)) from ⟨gJ, gY, f0, f1, f2, f3, f4, f5, f6, f7, f8, f9⟩)
         clear f9 f8 f7 f6 f5 f4 f3 f2 f1 f0 gY gJ hd
         try simp only
         gi_wp2
         obtain ⟨gJ, gY, f0, f1, f2, f3, f4, f5, f6, f7, f8, f9⟩ := HF.out
         exact hK (gh, (upd s 42 (.pointer (some ⟨wr.heap.size, 1, none⟩)))) _ ⟨gJ, gY, f0, f1, (fun _ => rfl), f3, f4, f5, f6, f7, f8, f9⟩
        ·rintro L ⟨gh, s⟩ W hu hd hdn ⟨gJ, gY, f0, f1, f2, f3, f4, f5, f6, f7, f8, f9⟩ K Q hK
         try dsimp only at gJ gY f0 f1 f2 f3 f4 f5 f6 f7 f8 f9 ⊢
         have e2 := f2 (hd.at_ 2 rfl)
         have h8 : L 8 = false := by
          cases hc : L 8 with
          | false => rfl
          | true => exact hdn.no 7 3 (hdn.at_ 8 7 hc rfl) rfl hu
         have G := (gJ h8).2.2.1
         have c0 : W.cell? ⟨wr.heap.size, 0, none⟩ = some (.int .i64 x.id) := G.cell 0
         have c1 : W.cell? ⟨wr.heap.size, 1, none⟩ = some (.int .i64 x.fr) := G.cell 1
         have c2 : W.cell? ⟨wr.heap.size, 2, none⟩ = some (.int .i64 x.to) := G.cell 2
         have c3 : W.cell? ⟨wr.heap.size, 3, none⟩ = some (.int .i64 x.steps) := G.cell 3
         have c4 : W.cell? ⟨wr.heap.size, 4, none⟩ = some (.int .i64 x.paces) := G.cell 4
         clear G
         have HF := Lib.hid (show (L 8 = false → J (upto true p place t.links k) W ∧ FromIn w1 g1 g2 #[.slice A nn c, .slice (some ⟨b, off, none⟩) m d, .bool true, .func (.func F) #[] C] place W ∧ Blk W wr.heap.size 52 #[.int .i64 x.id, .int .i64 x.fr, .int .i64 x.to, .int .i64 x.steps, .int .i64 x.paces] ∧ W0.heap.size ≤ W.heap.size) ∧ (L 8 = true → (gh.b = true ∧ J (upto true p place t.links (k + 1)) W ∧ FromIn w1 g1 g2 #[.slice A nn c, .slice (some ⟨b, off, none⟩) m d, .bool true, .func (.func F) #[] C] place W ∧ W0.heap.size ≤ W.heap.size) ∨ (gh.b = false ∧ Jx (upto true p place t.links (k + 1)) W)) ∧ (L 0 = true → s 40 = .func (.yield l) #[] #[]) ∧ (L 1 = true → s 41 = .agg #[.int .i64 x.id, .int .i64 x.fr, .int .i64 x.to, .int .i64 x.steps, .int .i64 x.paces]) ∧ (L 2 = true → s 42 = .pointer (some ⟨wr.heap.size, 1, none⟩)) ∧ (L 3 = true → s 43 = .int .i64 x.fr) ∧ (L 4 = true → s 44 = .agg #[.slice A nn c, .slice (some ⟨b, off, none⟩) m d, .bool true, .func (.func F) #[] C]) ∧ (L 5 = true → s 45 = .agg #[.int .i64 x.id, .int .i64 x.fr, .int .i64 x.to, .int .i64 x.steps, .int .i64 x.paces]) ∧ (L 6 = true → s 46 = .agg #[.int .i64 (costOf p x false).a, .int .i64 (costOf p x false).b, .int .i64 (costOf p x false).c, .int .i64 (costOf p x false).d]) ∧ (L 7 = true → s 47 = .agg #[.int .i64 x.fr, .int .i64 (costOf p x false).a, .int .i64 (costOf p x false).b, .int .i64 (costOf p x false).c, .int .i64 (costOf p x false).d, .slice none 0 0]) ∧ (L 8 = true → s 48 = .bool gh.b) ∧ (L 9 = true → s 49 = .bool (!gh.b)) from ⟨gJ, gY, f0, f1, f2, f3, f4, f5, f6, f7, f8, f9⟩)
         clear f9 f8 f7 f6 f5 f4 f3 f2 f1 f0 gY gJ hd
         try simp only at e2 ⊢
         gi_wp2
         obtain ⟨gJ, gY, f0, f1, f2, f3, f4, f5, f6, f7, f8, f9⟩ := HF.out
         exact hK (gh, (upd (upd s 42 (.pointer (some ⟨wr.heap.size, 1, none⟩))) 43 (.int .i64 x.fr))) _ ⟨gJ, gY, f0, f1, (fun _ => rfl), (fun _ => rfl), f4, f5, f6, f7, f8, f9⟩
        ·rintro L ⟨gh, s⟩ W hu hd hdn ⟨gJ, gY, f0, f1, f2, f3, f4, f5, f6, f7, f8, f9⟩ K Q hK
         try dsimp only at gJ gY f0 f1 f2 f3 f4 f5 f6 f7 f8 f9 ⊢
         have h8 : L 8 = false := by
          cases hc : L 8 with
          | false => rfl
          | true => exact hdn.no 6 4 (hdn.at_ 8 6 hc rfl) rfl hu
         have G := (gJ h8).2.1.chart
         have c0 : W.cell? ⟨g1, 0, none⟩ = some (.slice A nn c) := G.cell 0
         have c1 : W.cell? ⟨g1, 1, none⟩ = some (.slice (some ⟨b, off, none⟩) m d) := G.cell 1
         have c2 : W.cell? ⟨g1, 2, none⟩ = some (.bool true) := G.cell 2
         have c3 : W.cell? ⟨g1, 3, none⟩ = some (.func (.func F) #[] C) := G.cell 3
         clear G
         have HF := Lib.hid (show (L 8 = false → J (upto true p place t.links k) W ∧ FromIn w1 g1 g2 #[.slice A nn c, .slice (some ⟨b, off, none⟩) m d, .bool true, .func (.func F) #[] C] place W ∧ Blk W wr.heap.size 52 #[.int .i64 x.id, .int .i64 x.fr, .int .i64 x.to, .int .i64 x.steps, .int .i64 x.paces] ∧ W0.heap.size ≤ W.heap.size) ∧ (L 8 = true → (gh.b = true ∧ J (upto true p place t.links (k + 1)) W ∧ FromIn w1 g1 g2 #[.slice A nn c, .slice (some ⟨b, off, none⟩) m d, .bool true, .func (.func F) #[] C] place W ∧ W0.heap.size ≤ W.heap.size) ∨ (gh.b = false ∧ Jx (upto true p place t.links (k + 1)) W)) ∧ (L 0 = true → s 40 = .func (.yield l) #[] #[]) ∧ (L 1 = true → s 41 = .agg #[.int .i64 x.id, .int .i64 x.fr, .int .i64 x.to, .int .i64 x.steps, .int .i64 x.paces]) ∧ (L 2 = true → s 42 = .pointer (some ⟨wr.heap.size, 1, none⟩)) ∧ (L 3 = true → s 43 = .int .i64 x.fr) ∧ (L 4 = true → s 44 = .agg #[.slice A nn c, .slice (some ⟨b, off, none⟩) m d, .bool true, .func (.func F) #[] C]) ∧ (L 5 = true → s 45 = .agg #[.int .i64 x.id, .int .i64 x.fr, .int .i64 x.to, .int .i64 x.steps, .int .i64 x.paces]) ∧ (L 6 = true → s 46 = .agg #[.int .i64 (costOf p x false).a, .int .i64 (costOf p x false).b, .int .i64 (costOf p x false).c, .int .i64 (costOf p x false).d]) ∧ (L 7 = true → s 47 = .agg #[.int .i64 x.fr, .int .i64 (costOf p x false).a, .int .i64 (costOf p x false).b, .int .i64 (costOf p x false).c, .int .i64 (costOf p x false).d, .slice none 0 0]) ∧ (L 8 = true → s 48 = .bool gh.b) ∧ (L 9 = true → s 49 = .bool (!gh.b)) from ⟨gJ, gY, f0, f1, f2, f3, f4, f5, f6, f7, f8, f9⟩)
         clear f9 f8 f7 f6 f5 f4 f3 f2 f1 f0 gY gJ hd
         try simp only
         gi_wp2
         obtain ⟨gJ, gY, f0, f1, f2, f3, f4, f5, f6, f7, f8, f9⟩ := HF.out
         exact hK (gh, (upd s 44 (.agg #[.slice A nn c, .slice (some ⟨b, off, none⟩) m d, .bool true, .func (.func F) #[] C]))) _ ⟨gJ, gY, f0, f1, f2, f3, (fun _ => rfl), f5, f6, f7, f8, f9⟩
        ·rintro L ⟨gh, s⟩ W hu hd hdn ⟨gJ, gY, f0, f1, f2, f3, f4, f5, f6, f7, f8, f9⟩ K Q hK
         try dsimp only at gJ gY f0 f1 f2 f3 f4 f5 f6 f7 f8 f9 ⊢
         have h8 : L 8 = false := by
          cases hc : L 8 with
          | false => rfl
          | true => exact hdn.no 6 5 (hdn.at_ 8 6 hc rfl) rfl hu
         have G := (gJ h8).2.2.1
         have c0 : W.cell? ⟨wr.heap.size, 0, none⟩ = some (.int .i64 x.id) := G.cell 0
         have c1 : W.cell? ⟨wr.heap.size, 1, none⟩ = some (.int .i64 x.fr) := G.cell 1
         have c2 : W.cell? ⟨wr.heap.size, 2, none⟩ = some (.int .i64 x.to) := G.cell 2
         have c3 : W.cell? ⟨wr.heap.size, 3, none⟩ = some (.int .i64 x.steps) := G.cell 3
         have c4 : W.cell? ⟨wr.heap.size, 4, none⟩ = some (.int .i64 x.paces) := G.cell 4
         clear G
         have HF := Lib.hid (show (L 8 = false → J (upto true p place t.links k) W ∧ FromIn w1 g1 g2 #[.slice A nn c, .slice (some ⟨b, off, none⟩) m d, .bool true, .func (.func F) #[] C] place W ∧ Blk W wr.heap.size 52 #[.int .i64 x.id, .int .i64 x.fr, .int .i64 x.to, .int .i64 x.steps, .int .i64 x.paces] ∧ W0.heap.size ≤ W.heap.size) ∧ (L 8 = true → (gh.b = true ∧ J (upto true p place t.links (k + 1)) W ∧ FromIn w1 g1 g2 #[.slice A nn c, .slice (some ⟨b, off, none⟩) m d, .bool true, .func (.func F) #[] C] place W ∧ W0.heap.size ≤ W.heap.size) ∨ (gh.b = false ∧ Jx (upto true p place t.links (k + 1)) W)) ∧ (L 0 = true → s 40 = .func (.yield l) #[] #[]) ∧ (L 1 = true → s 41 = .agg #[.int .i64 x.id, .int .i64 x.fr, .int .i64 x.to, .int .i64 x.steps, .int .i64 x.paces]) ∧ (L 2 = true → s 42 = .pointer (some ⟨wr.heap.size, 1, none⟩)) ∧ (L 3 = true → s 43 = .int .i64 x.fr) ∧ (L 4 = true → s 44 = .agg #[.slice A nn c, .slice (some ⟨b, off, none⟩) m d, .bool true, .func (.func F) #[] C]) ∧ (L 5 = true → s 45 = .agg #[.int .i64 x.id, .int .i64 x.fr, .int .i64 x.to, .int .i64 x.steps, .int .i64 x.paces]) ∧ (L 6 = true → s 46 = .agg #[.int .i64 (costOf p x false).a, .int .i64 (costOf p x false).b, .int .i64 (costOf p x false).c, .int .i64 (costOf p x false).d]) ∧ (L 7 = true → s 47 = .agg #[.int .i64 x.fr, .int .i64 (costOf p x false).a, .int .i64 (costOf p x false).b, .int .i64 (costOf p x false).c, .int .i64 (costOf p x false).d, .slice none 0 0]) ∧ (L 8 = true → s 48 = .bool gh.b) ∧ (L 9 = true → s 49 = .bool (!gh.b)) from ⟨gJ, gY, f0, f1, f2, f3, f4, f5, f6, f7, f8, f9⟩)
         clear f9 f8 f7 f6 f5 f4 f3 f2 f1 f0 gY gJ hd
         try simp only
         gi_wp2
         obtain ⟨gJ, gY, f0, f1, f2, f3, f4, f5, f6, f7, f8, f9⟩ := HF.out
         exact hK (gh, (upd s 45 (.agg #[.int .i64 x.id, .int .i64 x.fr, .int .i64 x.to, .int .i64 x.steps, .int .i64 x.paces]))) _ ⟨gJ, gY, f0, f1, f2, f3, f4, (fun _ => rfl), f6, f7, f8, f9⟩
        ·rintro L ⟨gh, s⟩ W hu hd hdn ⟨gJ, gY, f0, f1, f2, f3, f4, f5, f6, f7, f8, f9⟩ K Q hK
         try dsimp only at gJ gY f0 f1 f2 f3 f4 f5 f6 f7 f8 f9 ⊢
         have e4 := f4 (hd.at_ 4 rfl)
         have e5 := f5 (hd.at_ 5 rfl)
         have h8 : L 8 = false := by
          cases hc : L 8 with
          | false => rfl
          | true => exact hdn.no 8 6 hc rfl hu
         have GJ := Lib.hid (gJ h8)
         have HF := Lib.hid (show (L 8 = false → J (upto true p place t.links k) W ∧ FromIn w1 g1 g2 #[.slice A nn c, .slice (some ⟨b, off, none⟩) m d, .bool true, .func (.func F) #[] C] place W ∧ Blk W wr.heap.size 52 #[.int .i64 x.id, .int .i64 x.fr, .int .i64 x.to, .int .i64 x.steps, .int .i64 x.paces] ∧ W0.heap.size ≤ W.heap.size) ∧ (L 8 = true → (gh.b = true ∧ J (upto true p place t.links (k + 1)) W ∧ FromIn w1 g1 g2 #[.slice A nn c, .slice (some ⟨b, off, none⟩) m d, .bool true, .func (.func F) #[] C] place W ∧ W0.heap.size ≤ W.heap.size) ∨ (gh.b = false ∧ Jx (upto true p place t.links (k + 1)) W)) ∧ (L 0 = true → s 40 = .func (.yield l) #[] #[]) ∧ (L 1 = true → s 41 = .agg #[.int .i64 x.id, .int .i64 x.fr, .int .i64 x.to, .int .i64 x.steps, .int .i64 x.paces]) ∧ (L 2 = true → s 42 = .pointer (some ⟨wr.heap.size, 1, none⟩)) ∧ (L 3 = true → s 43 = .int .i64 x.fr) ∧ (L 4 = true → s 44 = .agg #[.slice A nn c, .slice (some ⟨b, off, none⟩) m d, .bool true, .func (.func F) #[] C]) ∧ (L 5 = true → s 45 = .agg #[.int .i64 x.id, .int .i64 x.fr, .int .i64 x.to, .int .i64 x.steps, .int .i64 x.paces]) ∧ (L 6 = true → s 46 = .agg #[.int .i64 (costOf p x false).a, .int .i64 (costOf p x false).b, .int .i64 (costOf p x false).c, .int .i64 (costOf p x false).d]) ∧ (L 7 = true → s 47 = .agg #[.int .i64 x.fr, .int .i64 (costOf p x false).a, .int .i64 (costOf p x false).b, .int .i64 (costOf p x false).c, .int .i64 (costOf p x false).d, .slice none 0 0]) ∧ (L 8 = true → s 48 = .bool gh.b) ∧ (L 9 = true → s 49 = .bool (!gh.b)) from ⟨gJ, gY, f0, f1, f2, f3, f4, f5, f6, f7, f8, f9⟩)
         clear f9 f8 f7 f6 f5 f4 f3 f2 f1 f0 gY gJ hd
         try simp only at e4 e5 ⊢
         gi_wp2
         refine ⟨trivial, fun _ => by omega, (callsIn_wide.2 (cost_any A nn c (some ⟨b, off, none⟩) m d true F C p x false W (HP.out.below GJ.out.2.1.below) HFX.out)).mono ?_⟩
         rintro e W2 ⟨rfl, hb⟩
         gi_wp2
         obtain ⟨gJ, gY, f0, f1, f2, f3, f4, f5, f6, f7, f8, f9⟩ := HF.out
         exact hK (gh, (upd (upd (upd s 44 (.agg #[.slice A nn c, .slice (some ⟨b, off, none⟩) m d, .bool true, .func (.func F) #[] C])) 45 (.agg #[.int .i64 x.id, .int .i64 x.fr, .int .i64 x.to, .int .i64 x.steps, .int .i64 x.paces])) 46 (.agg #[.int .i64 (costOf p x false).a, .int .i64 (costOf p x false).b, .int .i64 (costOf p x false).c, .int .i64 (costOf p x false).d]))) _ ⟨(fun _ => ⟨HJ.out _ _ _ none GJ.out.1 (grown_of_below hb none) (fun r e => by cases e), GJ.out.2.1.grow hb, GJ.out.2.2.1.below hb GJ.out.2.2.1.lt, Nat.le_trans GJ.out.2.2.2 hb.size⟩), (fun h => hdn.no 8 6 h rfl hu), f0, f1, f2, f3, (fun _ => rfl), (fun _ => rfl), (fun _ => rfl), f7, f8, f9⟩
        ·rintro L ⟨gh, s⟩ W hu hd hdn ⟨gJ, gY, f0, f1, f2, f3, f4, f5, f6, f7, f8, f9⟩ K Q hK
         try dsimp only at gJ gY f0 f1 f2 f3 f4 f5 f6 f7 f8 f9 ⊢
         have e3 := f3 (hd.at_ 3 rfl)
         have e6 := f6 (hd.at_ 6 rfl)
         have HF := Lib.hid (show (L 8 = false → J (upto true p place t.links k) W ∧ FromIn w1 g1 g2 #[.slice A nn c, .slice (some ⟨b, off, none⟩) m d, .bool true, .func (.func F) #[] C] place W ∧ Blk W wr.heap.size 52 #[.int .i64 x.id, .int .i64 x.fr, .int .i64 x.to, .int .i64 x.steps, .int .i64 x.paces] ∧ W0.heap.size ≤ W.heap.size) ∧ (L 8 = true → (gh.b = true ∧ J (upto true p place t.links (k + 1)) W ∧ FromIn w1 g1 g2 #[.slice A nn c, .slice (some ⟨b, off, none⟩) m d, .bool true, .func (.func F) #[] C] place W ∧ W0.heap.size ≤ W.heap.size) ∨ (gh.b = false ∧ Jx (upto true p place t.links (k + 1)) W)) ∧ (L 0 = true → s 40 = .func (.yield l) #[] #[]) ∧ (L 1 = true → s 41 = .agg #[.int .i64 x.id, .int .i64 x.fr, .int .i64 x.to, .int .i64 x.steps, .int .i64 x.paces]) ∧ (L 2 = true → s 42 = .pointer (some ⟨wr.heap.size, 1, none⟩)) ∧ (L 3 = true → s 43 = .int .i64 x.fr) ∧ (L 4 = true → s 44 = .agg #[.slice A nn c, .slice (some ⟨b, off, none⟩) m d, .bool true, .func (.func F) #[] C]) ∧ (L 5 = true → s 45 = .agg #[.int .i64 x.id, .int .i64 x.fr, .int .i64 x.to, .int .i64 x.steps, .int .i64 x.paces]) ∧ (L 6 = true → s 46 = .agg #[.int .i64 (costOf p x false).a, .int .i64 (costOf p x false).b, .int .i64 (costOf p x false).c, .int .i64 (costOf p x false).d]) ∧ (L 7 = true → s 47 = .agg #[.int .i64 x.fr, .int .i64 (costOf p x false).a, .int .i64 (costOf p x false).b, .int .i64 (costOf p x false).c, .int .i64 (costOf p x false).d, .slice none 0 0]) ∧ (L 8 = true → s 48 = .bool gh.b) ∧ (L 9 = true → s 49 = .bool (!gh.b)) from ⟨gJ, gY, f0, f1, f2, f3, f4, f5, f6, f7, f8, f9⟩)
         clear f9 f8 f7 f6 f5 f4 f3 f2 f1 f0 gY gJ hd
         try simp only at e3 e6 ⊢
         gi_wp2
         obtain ⟨gJ, gY, f0, f1, f2, f3, f4, f5, f6, f7, f8, f9⟩ := HF.out
         exact hK (gh, (upd (upd (upd s 43 (.int .i64 x.fr)) 46 (.agg #[.int .i64 (costOf p x false).a, .int .i64 (costOf p x false).b, .int .i64 (costOf p x false).c, .int .i64 (costOf p x false).d])) 47 (.agg #[.int .i64 x.fr, .int .i64 (costOf p x false).a, .int .i64 (costOf p x false).b, .int .i64 (costOf p x false).c, .int .i64 (costOf p x false).d, .slice none 0 0]))) _ ⟨gJ, gY, f0, f1, f2, (fun _ => rfl), f4, f5, (fun _ => rfl), (fun _ => rfl), f8, f9⟩
        ·rintro L ⟨gh, s⟩ W hu hd hdn ⟨gJ, gY, f0, f1, f2, f3, f4, f5, f6, f7, f8, f9⟩ K Q hK
         try dsimp only at gJ gY f0 f1 f2 f3 f4 f5 f6 f7 f8 f9 ⊢
         have e0 := f0 (hd.at_ 0 rfl)
         have e1 := f1 (hd.at_ 1 rfl)
         have e7 := f7 (hd.at_ 7 rfl)
         have h8 : L 8 = false := hu
         have GJ := Lib.hid (gJ h8)
         obtain ⟨fn, tmps, assign, body, hy, hR⟩ := HYY.out W GJ.out.1
         have HF := Lib.hid (show (L 8 = false → J (upto true p place t.links k) W ∧ FromIn w1 g1 g2 #[.slice A nn c, .slice (some ⟨b, off, none⟩) m d, .bool true, .func (.func F) #[] C] place W ∧ Blk W wr.heap.size 52 #[.int .i64 x.id, .int .i64 x.fr, .int .i64 x.to, .int .i64 x.steps, .int .i64 x.paces] ∧ W0.heap.size ≤ W.heap.size) ∧ (L 8 = true → (gh.b = true ∧ J (upto true p place t.links (k + 1)) W ∧ FromIn w1 g1 g2 #[.slice A nn c, .slice (some ⟨b, off, none⟩) m d, .bool true, .func (.func F) #[] C] place W ∧ W0.heap.size ≤ W.heap.size) ∨ (gh.b = false ∧ Jx (upto true p place t.links (k + 1)) W)) ∧ (L 0 = true → s 40 = .func (.yield l) #[] #[]) ∧ (L 1 = true → s 41 = .agg #[.int .i64 x.id, .int .i64 x.fr, .int .i64 x.to, .int .i64 x.steps, .int .i64 x.paces]) ∧ (L 2 = true → s 42 = .pointer (some ⟨wr.heap.size, 1, none⟩)) ∧ (L 3 = true → s 43 = .int .i64 x.fr) ∧ (L 4 = true → s 44 = .agg #[.slice A nn c, .slice (some ⟨b, off, none⟩) m d, .bool true, .func (.func F) #[] C]) ∧ (L 5 = true → s 45 = .agg #[.int .i64 x.id, .int .i64 x.fr, .int .i64 x.to, .int .i64 x.steps, .int .i64 x.paces]) ∧ (L 6 = true → s 46 = .agg #[.int .i64 (costOf p x false).a, .int .i64 (costOf p x false).b, .int .i64 (costOf p x false).c, .int .i64 (costOf p x false).d]) ∧ (L 7 = true → s 47 = .agg #[.int .i64 x.fr, .int .i64 (costOf p x false).a, .int .i64 (costOf p x false).b, .int .i64 (costOf p x false).c, .int .i64 (costOf p x false).d, .slice none 0 0]) ∧ (L 8 = true → s 48 = .bool gh.b) ∧ (L 9 = true → s 49 = .bool (!gh.b)) from ⟨gJ, gY, f0, f1, f2, f3, f4, f5, f6, f7, f8, f9⟩)
         clear f9 f8 f7 f6 f5 f4 f3 f2 f1 f0 gY gJ hd
         try simp only at e0 e1 e7 ⊢
         gi_wp2
         refine ⟨fun _ => by omega, hR.mono ?_⟩
         rintro e W3 hor
         obtain ⟨bb, rfl, hor2⟩ := yieldedB hor
         clear hor
         gi_wp2
         obtain ⟨gJ, gY, f0, f1, f2, f3, f4, f5, f6, f7, f8, f9⟩ := HF.out
         exact hK ((⟨bb⟩ : YGh), (upd (upd (upd (upd s 40 (.func (.yield l) #[] #[])) 41 (.agg #[.int .i64 x.id, .int .i64 x.fr, .int .i64 x.to, .int .i64 x.steps, .int .i64 x.paces])) 47 (.agg #[.int .i64 x.fr, .int .i64 (costOf p x false).a, .int .i64 (costOf p x false).b, .int .i64 (costOf p x false).c, .int .i64 (costOf p x false).d, .slice none 0 0])) 48 (.bool bb))) _ ⟨(fun h => by cases h), (fun _ => by
      rcases hor2 with ⟨h1, h2, h3⟩ | ⟨h1, h2⟩
      ·exact .inl ⟨h1, h2, GJ.out.2.1.kept h3, Nat.le_trans GJ.out.2.2.2 h3.1.size⟩
      ·exact .inr ⟨h1, h2⟩), (fun _ => rfl), (fun _ => rfl), f2, f3, f4, f5, f6, (fun _ => rfl), (fun _ => rfl), (fun h => hdn.no 9 8 h rfl hu)⟩
        ·rintro L ⟨gh, s⟩ W hu hd hdn ⟨gJ, gY, f0, f1, f2, f3, f4, f5, f6, f7, f8, f9⟩ K Q hK
         try dsimp only at gJ gY f0 f1 f2 f3 f4 f5 f6 f7 f8 f9 ⊢
         have e8 := f8 (hd.at_ 8 rfl)
         have HF := Lib.hid (show (L 8 = false → J (upto true p place t.links k) W ∧ FromIn w1 g1 g2 #[.slice A nn c, .slice (some ⟨b, off, none⟩) m d, .bool true, .func (.func F) #[] C] place W ∧ Blk W wr.heap.size 52 #[.int .i64 x.id, .int .i64 x.fr, .int .i64 x.to, .int .i64 x.steps, .int .i64 x.paces] ∧ W0.heap.size ≤ W.heap.size) ∧ (L 8 = true → (gh.b = true ∧ J (upto true p place t.links (k + 1)) W ∧ FromIn w1 g1 g2 #[.slice A nn c, .slice (some ⟨b, off, none⟩) m d, .bool true, .func (.func F) #[] C] place W ∧ W0.heap.size ≤ W.heap.size) ∨ (gh.b = false ∧ Jx (upto true p place t.links (k + 1)) W)) ∧ (L 0 = true → s 40 = .func (.yield l) #[] #[]) ∧ (L 1 = true → s 41 = .agg #[.int .i64 x.id, .int .i64 x.fr, .int .i64 x.to, .int .i64 x.steps, .int .i64 x.paces]) ∧ (L 2 = true → s 42 = .pointer (some ⟨wr.heap.size, 1, none⟩)) ∧ (L 3 = true → s 43 = .int .i64 x.fr) ∧ (L 4 = true → s 44 = .agg #[.slice A nn c, .slice (some ⟨b, off, none⟩) m d, .bool true, .func (.func F) #[] C]) ∧ (L 5 = true → s 45 = .agg #[.int .i64 x.id, .int .i64 x.fr, .int .i64 x.to, .int .i64 x.steps, .int .i64 x.paces]) ∧ (L 6 = true → s 46 = .agg #[.int .i64 (costOf p x false).a, .int .i64 (costOf p x false).b, .int .i64 (costOf p x false).c, .int .i64 (costOf p x false).d]) ∧ (L 7 = true → s 47 = .agg #[.int .i64 x.fr, .int .i64 (costOf p x false).a, .int .i64 (costOf p x false).b, .int .i64 (costOf p x false).c, .int .i64 (costOf p x false).d, .slice none 0 0]) ∧ (L 8 = true → s 48 = .bool gh.b) ∧ (L 9 = true → s 49 = .bool (!gh.b)) from ⟨gJ, gY, f0, f1, f2, f3, f4, f5, f6, f7, f8, f9⟩)
         clear f9 f8 f7 f6 f5 f4 f3 f2 f1 f0 gY gJ hd
         try simp only at e8 ⊢
         gi_wp2
         obtain ⟨gJ, gY, f0, f1, f2, f3, f4, f5, f6, f7, f8, f9⟩ := HF.out
         exact hK (gh, (upd (upd s 48 (.bool gh.b)) 49 (.bool (!gh.b)))) _ ⟨gJ, gY, f0, f1, f2, f3, f4, f5, f6, f7, (fun _ => rfl), (fun _ => rfl)⟩
       ·rintro L ⟨gh, s⟩ W hall ⟨gJ, gY, f0, f1, f2, f3, f4, f5, f6, f7, f8, f9⟩
        have e9 := f9 (hall 9 (by decide))
        have GY := gY (hall 8 (by decide))
        clear hall gJ gY f0 f1 f2 f3 f4 f5 f6 f7 f8 f9
        rcases GY with ⟨hb, hj, hi, hsz'⟩ | ⟨hb, hjx⟩
        ·rw [hb] at e9
         have HJ3 := Lib.hid hj
         have HI3 := Lib.hid hi
         clear hj hi hb
         replace e9 : s 49 = .bool false := e9
         simp only
         rw [e9]
         gi_wp2
         go_roundw
         case rel => exact ⟨k + 1, by omega, by go_num, HJ3.out, HI3.out, by omega⟩
         case measure => simp [intOf]; omega
        ·rw [hb] at e9
         have HJ3 := Lib.hid hjx
         clear hjx hb
         replace e9 : s 49 = .bool true := e9
         simp only
         rw [e9]
         gi_wp2
         unfold Exit.noGoto
         refine bodyPost_ret (results_none rfl _ _ _) rfl ?_
         exact ⟨⟨_, rfl⟩, .inr ⟨_, upto_pre _ _ _ _ _, HJ3.out⟩⟩
     ·have hto' : (place == x.to) = false := by simpa using hto
      have HTO := Lib.hid hto
      clear hto
      rcases (show dk = false ∨ dk = true ∧ ¬ 0 < x.steps by cases dk <;> simp_all) with rfl | ⟨rfl, hst⟩
      all_goals
       clear hskip
       gi_wp2
       go_roundw
       case rel => exact ⟨k + 1, by omega, by go_num, by rw [upto_none HX.out (by rw [HLD.out, if_neg (fun e => HFR.out e.symm), if_neg (fun e => HTO.out e.symm)])]; exact HJ.out _ _ _ none HJs.out (World.grownBy_alloc _ _ none) (fun r e => by cases e), HI.out.grow ((Below.refl _ _).alloc (Nat.le_refl _) _), by simp; omega⟩
       case measure => simp [intOf]; omega
  ·obtain rfl : k = m := by omega
   gi_wp2
   unfold Exit.noGoto
   go_end0
   exact ⟨⟨_, rfl⟩, .inl ⟨_, upto_all _ _ _ _ (by have := HLm.out; omega), HJs.out⟩⟩
end Go.Proofs.YtahkjagjcogeiaaGreatDoor
