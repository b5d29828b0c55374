/- Part 9 of the texts of this claim, joined. -/
import Derived.Test.YtjdgdeiedkickaaDoorTwT8
set_option linter.unusedVariables false
/- The links that can be gone from a place, one by one: climb.chart.from and its iterator. -/
namespace Go.Proofs.YtjdgdeiedkickaaDoor
open Go.RowKit Go.Shelf
attribute [local go_sem] Oper.semAt_some

/-- What comes: a link, where it leads, what it costs. -/
def outs (dk : Bool) (p : Price) (v : Int) (l : List Link) : List (Link × Int × Cost) := l.filterMap fun x => (leads dk p x v).map fun r => (x, r.1, r.2)
abbrev Out (dk : Bool) (p : Price) (v : Int) (l : List Link) := { y : Link × Int × Cost // y ∈ outs dk p v l }
def Out.enc {dk : Bool} {p : Price} {v : Int} {l : List Link} (y : Out dk p v l) : Array Value := #[linkV y.1.1, .agg #[.int .i64 y.1.2.1, .int .i64 y.1.2.2.a, .int .i64 y.1.2.2.b, .int .i64 y.1.2.2.c, .int .i64 y.1.2.2.d, .slice none 0 0]]
def allOut (dk : Bool) (p : Price) (v : Int) (l : List Link) : List (Out dk p v l) := (outs dk p v l).attach
/-- So many have come when k links are over. -/
def upto (dk : Bool) (p : Price) (v : Int) (l : List Link) (k : Nat) : List (Out dk p v l) := (allOut dk p v l).take (outs dk p v (l.take k)).length

theorem outs_append (dk : Bool) (p : Price) (v : Int) (l m : List Link) : outs dk p v (l ++ m) = outs dk p v l ++ outs dk p v m := by simp [outs]
theorem take_succ_of {l : List Link} {k : Nat} {x : Link} (hx : l[k]? = some x) : l.take (k + 1) = l.take k ++ [x] := by
 rw [List.take_add_one, hx]; rfl
theorem upto_none {dk : Bool} {p : Price} {v : Int} {l : List Link} {k : Nat} {x : Link} (hx : l[k]? = some x) (h : leads dk p x v = none) : upto dk p v l (k + 1) = upto dk p v l k := by
 unfold upto
 rw [take_succ_of hx, outs_append]
 simp [outs, h]
theorem out_at {dk : Bool} {p : Price} {v : Int} {l : List Link} {k : Nat} {x : Link} {r : Int × Cost} (hx : l[k]? = some x) (h : leads dk p x v = some r) : (outs dk p v l)[(outs dk p v (l.take k)).length]? = some (x, r.1, r.2) := by
 obtain ⟨hk, e⟩ := List.getElem?_eq_some_iff.1 hx
 have hl : l = l.take k ++ x :: l.drop (k + 1) := by
  have h1 := List.drop_eq_getElem_cons hk
  rw [e] at h1
  rw [← h1, List.take_append_drop]
 have hm : outs dk p v l = outs dk p v (l.take k) ++ (x, r.1, r.2) :: outs dk p v (l.drop (k + 1)) :=
  (congrArg (outs dk p v) hl).trans (by rw [outs_append]; simp [outs, h])
 rw [hm, List.getElem?_append_right (Nat.le_refl _)]
 simp
theorem upto_some {dk : Bool} {p : Price} {v : Int} {l : List Link} {k : Nat} {x : Link} {r : Int × Cost} (hx : l[k]? = some x) (h : leads dk p x v = some r) :
  ∃ y : Out dk p v l, y.1 = (x, r.1, r.2) ∧ upto dk p v l (k + 1) = upto dk p v l k ++ [y] ∧ (upto dk p v l k).length < (allOut dk p v l).length := by
 have ha := out_at hx h
 have hlt := (List.getElem?_eq_some_iff.1 ha).1
 refine ⟨⟨(x, r.1, r.2), List.mem_of_getElem? ha⟩, rfl, ?_, ?_⟩
 ·unfold upto
  have e : (outs dk p v (l.take (k + 1))).length = (outs dk p v (l.take k)).length + 1 := by
   rw [take_succ_of hx, outs_append]; simp [outs, h]
  have h2 : (allOut dk p v l)[(outs dk p v (l.take k)).length]? = some ⟨(x, r.1, r.2), List.mem_of_getElem? ha⟩ := by
   unfold allOut
   rw [List.getElem?_eq_getElem (by simpa using hlt), List.getElem_attach]
   congr 1
   exact Subtype.ext (by simpa [List.getElem?_eq_getElem hlt] using ha)
  rw [e, List.take_add_one, h2]; rfl
 ·unfold upto allOut
  rw [List.length_take, List.length_attach]
  omega
theorem upto_all (dk : Bool) (p : Price) (v : Int) (l : List Link) {k : Nat} (hk : l.length ≤ k) : upto dk p v l k = allOut dk p v l := by
 unfold upto
 rw [List.take_of_length_le hk, List.take_of_length_le (by unfold allOut; simp)]
theorem upto_pre (dk : Bool) (p : Price) (v : Int) (l : List Link) (k : Nat) : upto dk p v l k <+: allOut dk p v l := List.take_prefix _ _
theorem upto_zero (dk : Bool) (p : Price) (v : Int) (l : List Link) : upto dk p v l 0 = [] := by simp [upto, outs]

/-- What a round must keep for the iterator: what lay below n₀, and the iterator's two boxes. -/
def FromK (n₀ g1 g2 : Nat) (W W' : World) : Prop := Below n₀ W W' ∧ W'.heap[g1]? = W.heap[g1]? ∧ W'.heap[g2]? = W.heap[g2]?

/-- The iterator's own: its two boxes; what lay below stays. -/
structure FromIn (w1 : World) (g1 g2 : Nat) (T : Array Value) (place : Int) (W : World) : Prop where
 chart : Blk W g1 111 T
 place : Blk W g2 3 #[.int .i64 place]
 below : Below w1.heap.size w1 W
theorem FromIn.kept {w1 W W' : World} {g1 g2 : Nat} {T : Array Value} {place : Int} (h : FromIn w1 g1 g2 T place W) (hk : FromK w1.heap.size g1 g2 W W') : FromIn w1 g1 g2 T place W' :=
 ⟨hk.2.1.trans h.chart, hk.2.2.trans h.place, h.below.trans hk.1⟩
theorem FromIn.grow {w1 W W' : World} {g1 g2 : Nat} {T : Array Value} {place : Int} (h : FromIn w1 g1 g2 T place W) (hb : Below W.heap.size W W') : FromIn w1 g1 g2 T place W' :=
 ⟨h.chart.below hb h.chart.lt, h.place.below hb h.place.lt, h.below.trans (hb.mono h.below.size)⟩

structure YGh where
 b : Bool
theorem yieldedB {e : Ending} {A B : Prop} (h : (e = .returned (.bool true) ∧ A) ∨ (e = .returned (.bool false) ∧ B)) : ∃ bb, e = .returned (.bool bb) ∧ ((bb = true ∧ A) ∨ (bb = false ∧ B)) := by
 rcases h with ⟨h, a⟩ | ⟨h, a⟩
 ·exact ⟨true, h, .inl ⟨rfl, a⟩⟩
 ·exact ⟨false, h, .inr ⟨rfl, a⟩⟩

set_option maxRecDepth 100000 in
set_option maxHeartbeats 8000000 in
theorem from1_stops (n : Nat) (hn : 2 ≤ n) (A : Option Addr) (nn c : Nat) (A' : Option Addr) (m d : Nat) (dk : Bool) (F : FuncId) (C : Array Value) (p : Price) (t : Town) (place : Int) (g1 g2 : Nat) (w1 w : World)
  (hm : m ≤ 20) (ht : LinksAt w1 w1.heap.size A' m t.links) (hp : PriceAt w1 p F C) (hfit : ∀ x ∈ t.links, Fit x) (hin : FromIn w1 g1 g2 #[.slice A nn c, .slice A' m d, .bool dk, .func (.func F) #[] C] place w) :
  SeqStopsK Fence.wide n Tryd.prog 78 #[.pointer (some ⟨g1, 0, none⟩), .pointer (some ⟨g2, 0, none⟩)] Out.enc (FromK w1.heap.size g1 g2)
   (fun xs => xs = allOut dk p place t.links) (fun pre => pre <+: allOut dk p place t.links) (allOut dk p place t.links).length w := by
 intro l J Jx W0 hW hJ hJx hY h0
 have hin0 := hin.grow hW
 have HT := Lib.hid ht
 have HP := Lib.hid hp
 have HF := Lib.hid hfit
 have HLm := Lib.hid ht.len
 have HJ := Lib.hid hJ
 have HJx := Lib.hid hJx
 have HY := Lib.hid hY
 have H0 := Lib.hid h0
 have HIN := Lib.hid hin0
 have q0 := hin0.chart.cell 0
 have q1 : W0.cell? ⟨g1, 1, none⟩ = some (.slice A' m d) := hin0.chart.cell 1
 clear hin hin0 ht hp hfit hJ hJx hY h0 hW
 refine callsIn_of_wp Tryd.func78 rfl trivial ?_ rfl
 simp only [Tryd.ntmps78, List.size_toArray, List.length_cons, List.length_nil, Nat.reduceAdd, Nat.reduceSub, Array.replicate_succ, Array.replicate_zero, List.push_toArray, List.append_toArray, List.nil_append, List.cons_append]
 refine wpIn_scope_straight ?_
 gi_wp2
 refine wpIn_label ?_
 gi_wp2
 gi_loopw [10] (fun i wr => ∃ k : Nat, k ≤ m ∧ i = .int .i64 k ∧ J (upto dk p place t.links k) wr ∧ FromIn w1 g1 g2 #[.slice A nn c, .slice A' m d, .bool dk, .func (.func F) #[] C] place wr ∧ W0.heap.size ≤ wr.heap.size) (fun i _ => m - (intOf i).toNat)
 case atStart => exact ⟨0, Nat.zero_le _, rfl, by rw [upto_zero]; exact H0.out, HIN.out, Nat.le_refl _⟩
 case round =>
  obtain ⟨k, hk, rfl, hj, hi, hsz⟩ := hrel
  have HJs := Lib.hid hj
  have HI := Lib.hid hi
  have q2 : wr.cell? ⟨g1, 2, none⟩ = some (.bool dk) := hi.chart.cell 2
  have q3 : wr.cell? ⟨g2, 0, none⟩ = some (.int .i64 place) := hi.place.cell 0
  have l1 := hi.chart.lt
  have l2 := hi.place.lt
  clear hj hi q0 q1 H0 HIN
  by_cases hlt : k < m
  ·obtain ⟨b, off, x, rfl, hb, hx, hc0, hc1, hc2, hc3, hc4⟩ := (HT.out.below HI.out.below).cell hlt
   have hbl : b < wr.heap.size := Nat.lt_of_lt_of_le hb HI.out.below.size
   have HX := Lib.hid hx
   have HBL := Lib.hid hb
   have HFX := Lib.hid (HF.out x (List.mem_of_getElem? hx))
   clear hx hb
   by_cases hskip : dk = true ∧ 0 < x.steps
   ·obtain ⟨rfl, hst⟩ := hskip
    gi_wp2
    go_roundw
    case rel => exact ⟨k + 1, by omega, by go_num, by rw [upto_none HX.out (by unfold leads; rw [if_pos ⟨rfl, hst⟩])]; exact HJ.out _ _ _ none HJs.out (World.grownBy_alloc _ _ none) (fun r e => by cases e), HI.out.grow ((Below.refl _ _).alloc (Nat.le_refl _) _), by simp; omega⟩
    case measure => simp [intOf]; omega
   ·have hl : leads dk p x place = if x.fr = place then some (x.to, ⟨x.paces * p.pace + x.steps * (p.up + p.step), x.steps, x.paces, 1⟩) else if x.to = place then some (x.fr, ⟨x.paces * p.pace + x.steps * p.step, 0, x.paces, 1⟩) else none := by unfold leads; rw [if_neg hskip]
    have HLD := Lib.hid hl
    have HLT := Lib.hid hlt
    clear hl
    by_cases hfr : place = x.fr
    ·have hfr' : (place == x.fr) = true := by simpa using hfr
     have HFR := Lib.hid hfr
     clear hfr
     rcases (show dk = false ∨ dk = true ∧ ¬ 0 < x.steps by cases dk <;> simp_all) with rfl | ⟨rfl, hst⟩
     ·clear hskip
      have hL : leads false p x place = some (x.to, (costOf p x true)) := by rw [HLD.out]; rw [if_pos HFR.out.symm]; simp [costOf, priceOf]
      obtain ⟨y, hy1, hy2, hy3⟩ := upto_some HX.out hL
      have HYY : Hid (∀ W, J (upto false p place t.links k) W → YieldAt Fence.wide (n - 1) Tryd.prog l #[.agg #[.int .i64 x.id, .int .i64 x.fr, .int .i64 x.to, .int .i64 x.steps, .int .i64 x.paces], .agg #[.int .i64 x.to, .int .i64 (costOf p x true).a, .int .i64 (costOf p x true).b, .int .i64 (costOf p x true).c, .int .i64 (costOf p x true).d, .slice none 0 0]] W fun e W' =>
        (e = .returned (.bool true) ∧ J (upto false p place t.links (k + 1)) W' ∧ FromK w1.heap.size g1 g2 W W') ∨ (e = .returned (.bool false) ∧ Jx (upto false p place t.links (k + 1)) W')) := Lib.hid (fun W hj => by
       have := HY.out _ y W hj hy3
       unfold Out.enc at this
       rw [hy1] at this
       rw [hy2]
       exact this)
      clear hL hy1 hy2 hy3
      have B0 : Below wr.heap.size wr (wr.alloc (.cells #[.int .i64 x.id, .int .i64 x.fr, .int .i64 x.to, .int .i64 x.steps, .int .i64 x.paces] 58)).drew := below_drewN ((Below.refl _ _).alloc (Nat.le_refl _) _) 1
      have G0 : J (upto false p place t.links k) (wr.alloc (.cells #[.int .i64 x.id, .int .i64 x.fr, .int .i64 x.to, .int .i64 x.steps, .int .i64 x.paces] 58)).drew ∧ FromIn w1 g1 g2 #[.slice A nn c, .slice (some ⟨b, off, none⟩) m d, .bool false, .func (.func F) #[] C] place (wr.alloc (.cells #[.int .i64 x.id, .int .i64 x.fr, .int .i64 x.to, .int .i64 x.steps, .int .i64 x.paces] 58)).drew ∧ Blk (wr.alloc (.cells #[.int .i64 x.id, .int .i64 x.fr, .int .i64 x.to, .int .i64 x.steps, .int .i64 x.paces] 58)).drew wr.heap.size 58 #[.int .i64 x.id, .int .i64 x.fr, .int .i64 x.to, .int .i64 x.steps, .int .i64 x.paces] ∧ W0.heap.size ≤ (wr.alloc (.cells #[.int .i64 x.id, .int .i64 x.fr, .int .i64 x.to, .int .i64 x.steps, .int .i64 x.paces] 58)).drew.heap.size :=
       ⟨HJ.out _ _ _ none HJs.out (grown_of_below B0 none) (fun r e => by cases e), HI.out.grow B0, Blk.new wr _ _, Nat.le_trans hsz B0.size⟩
      clear B0
      gi_wp2
      refine wpIn_region_stepsD (by kernel_rfl) (by kernel_rfl) (fun σ : YGh × (Nat → Value) => { tmps := #[.func (.yield l) #[] #[], .pointer (some ⟨g1, 0, none⟩), .pointer (some ⟨g2, 0, none⟩), undef, undef, .pointer (some ⟨wr.heap.size, 0, none⟩), .pointer (some ⟨g1, 0, none⟩), .pointer (some ⟨g1, 1, none⟩), .slice (some ⟨b, off, none⟩) m d, .int .i64 (m : Int), .int .i64 (k : Int), .bool true, .pointer (some ⟨b, off + k * 5, none⟩), .agg #[.int .i64 x.id, .int .i64 x.fr, .int .i64 x.to, .int .i64 x.steps, .int .i64 x.paces], .pointer (some ⟨g1, 2, none⟩), .bool false, .bool false, undef, undef, undef, .bool false, .int .i64 place, .bool true, .pointer (some ⟨wr.heap.size, 1, none⟩), .int .i64 x.fr, .bool true, σ.2 26, σ.2 27, σ.2 28, σ.2 29, σ.2 30, σ.2 31, σ.2 32, σ.2 33, σ.2 34, σ.2 35, u36, u37, u38, u39, u40, u41, u42, u43, u44, u45, u46, u47, u48, u49, u50], defers := [] })
       (fun L σ W => (L 8 = false → J (upto false p place t.links k) W ∧ FromIn w1 g1 g2 #[.slice A nn c, .slice (some ⟨b, off, none⟩) m d, .bool false, .func (.func F) #[] C] place W ∧ Blk W wr.heap.size 58 #[.int .i64 x.id, .int .i64 x.fr, .int .i64 x.to, .int .i64 x.steps, .int .i64 x.paces] ∧ W0.heap.size ≤ W.heap.size) ∧ (L 8 = true → (σ.1.b = true ∧ J (upto false p place t.links (k + 1)) W ∧ FromIn w1 g1 g2 #[.slice A nn c, .slice (some ⟨b, off, none⟩) m d, .bool false, .func (.func F) #[] C] place W ∧ W0.heap.size ≤ W.heap.size) ∨ (σ.1.b = false ∧ Jx (upto false p place t.links (k + 1)) W)) ∧ (L 0 = true → σ.2 26 = .func (.yield l) #[] #[]) ∧ (L 1 = true → σ.2 27 = .agg #[.int .i64 x.id, .int .i64 x.fr, .int .i64 x.to, .int .i64 x.steps, .int .i64 x.paces]) ∧ (L 2 = true → σ.2 28 = .pointer (some ⟨wr.heap.size, 2, none⟩)) ∧ (L 3 = true → σ.2 29 = .int .i64 x.to) ∧ (L 4 = true → σ.2 30 = .agg #[.slice A nn c, .slice (some ⟨b, off, none⟩) m d, .bool false, .func (.func F) #[] C]) ∧ (L 5 = true → σ.2 31 = .agg #[.int .i64 x.id, .int .i64 x.fr, .int .i64 x.to, .int .i64 x.steps, .int .i64 x.paces]) ∧ (L 6 = true → σ.2 32 = .agg #[.int .i64 (costOf p x true).a, .int .i64 (costOf p x true).b, .int .i64 (costOf p x true).c, .int .i64 (costOf p x true).d]) ∧ (L 7 = true → σ.2 33 = .agg #[.int .i64 x.to, .int .i64 (costOf p x true).a, .int .i64 (costOf p x true).b, .int .i64 (costOf p x true).c, .int .i64 (costOf p x true).d, .slice none 0 0]) ∧ (L 8 = true → σ.2 34 = .bool σ.1.b) ∧ (L 9 = true → σ.2 35 = .bool (!σ.1.b)))
       (⟨false⟩, fun k => (#[u26, u27, u28, u29, u30, u31, u32, u33, u34, u35] : Array Value).getD (k - 26) undef) rfl ?_ ?_ ?_
      ·exact ⟨(fun _ => G0), (fun h => by cases h), (fun h => by cases h), (fun h => by cases h), (fun h => by cases h), (fun h => by cases h), (fun h => by cases h), (fun h => by cases h), (fun h => by cases h), (fun h => by cases h), (fun h => by cases h), (fun h => by cases h)⟩
      ·refine ⟨?_, ?_, ?_, ?_, ?_, ?_, ?_, ?_, ?_, ?_, trivial⟩
       ·rintro L ⟨gh, s⟩ W hu hd hdn ⟨gJ, gY, f0, f1, f2, f3, f4, f5, f6, f7, f8, f9⟩ K Q hK
        try dsimp only at gJ gY f0 f1 f2 f3 f4 f5 f6 f7 f8 f9 ⊢
        have HF := Lib.hid (And.intro gJ (And.intro gY (And.intro f0 (And.intro f1 (And.intro f2 (And.intro f3 (And.intro f4 (And.intro f5 (And.intro f6 (And.intro f7 (And.intro f8 f9)))))))))))
        clear f9 f8 f7 f6 f5 f4 f3 f2 f1 f0 gY gJ hd
        try simp only
        gi_wp2
        obtain ⟨gJ, gY, f0, f1, f2, f3, f4, f5, f6, f7, f8, f9⟩ := HF.out
        exact hK (gh, (upd s 26 (.func (.yield l) #[] #[]))) _ ⟨gJ, gY, (fun _ => rfl), f1, f2, f3, f4, f5, f6, f7, f8, f9⟩
       ·rintro L ⟨gh, s⟩ W hu hd hdn ⟨gJ, gY, f0, f1, f2, f3, f4, f5, f6, f7, f8, f9⟩ K Q hK
        try dsimp only at gJ gY f0 f1 f2 f3 f4 f5 f6 f7 f8 f9 ⊢
        have h8 : L 8 = false := by
         cases hc : L 8 with
         | false => rfl
         | true => exact hdn.no 8 1 hc rfl hu
        have G := (gJ h8).2.2.1
        have c0 : W.cell? ⟨wr.heap.size, 0, none⟩ = some (.int .i64 x.id) := G.cell 0
        have c1 : W.cell? ⟨wr.heap.size, 1, none⟩ = some (.int .i64 x.fr) := G.cell 1
        have c2 : W.cell? ⟨wr.heap.size, 2, none⟩ = some (.int .i64 x.to) := G.cell 2
        have c3 : W.cell? ⟨wr.heap.size, 3, none⟩ = some (.int .i64 x.steps) := G.cell 3
        have c4 : W.cell? ⟨wr.heap.size, 4, none⟩ = some (.int .i64 x.paces) := G.cell 4
        clear G
        have HF := Lib.hid (And.intro gJ (And.intro gY (And.intro f0 (And.intro f1 (And.intro f2 (And.intro f3 (And.intro f4 (And.intro f5 (And.intro f6 (And.intro f7 (And.intro f8 f9)))))))))))
        clear f9 f8 f7 f6 f5 f4 f3 f2 f1 f0 gY gJ hd
        try simp only
        gi_wp2
        obtain ⟨gJ, gY, f0, f1, f2, f3, f4, f5, f6, f7, f8, f9⟩ := HF.out
        exact hK (gh, (upd s 27 (.agg #[.int .i64 x.id, .int .i64 x.fr, .int .i64 x.to, .int .i64 x.steps, .int .i64 x.paces]))) _ ⟨gJ, gY, f0, (fun _ => rfl), f2, f3, f4, f5, f6, f7, f8, f9⟩
       ·rintro L ⟨gh, s⟩ W hu hd hdn ⟨gJ, gY, f0, f1, f2, f3, f4, f5, f6, f7, f8, f9⟩ K Q hK
        try dsimp only at gJ gY f0 f1 f2 f3 f4 f5 f6 f7 f8 f9 ⊢
        have HF := Lib.hid (And.intro gJ (And.intro gY (And.intro f0 (And.intro f1 (And.intro f2 (And.intro f3 (And.intro f4 (And.intro f5 (And.intro f6 (And.intro f7 (And.intro f8 f9)))))))))))
        clear f9 f8 f7 f6 f5 f4 f3 f2 f1 f0 gY gJ hd
        try simp only
        gi_wp2
        obtain ⟨gJ, gY, f0, f1, f2, f3, f4, f5, f6, f7, f8, f9⟩ := HF.out
        exact hK (gh, (upd s 28 (.pointer (some ⟨wr.heap.size, 2, none⟩)))) _ ⟨gJ, gY, f0, f1, (fun _ => rfl), f3, f4, f5, f6, f7, f8, f9⟩
       ·rintro L ⟨gh, s⟩ W hu hd hdn ⟨gJ, gY, f0, f1, f2, f3, f4, f5, f6, f7, f8, f9⟩ K Q hK
        try dsimp only at gJ gY f0 f1 f2 f3 f4 f5 f6 f7 f8 f9 ⊢
        have e2 := f2 (hd.at_ 2 rfl)
        have h8 : L 8 = false := by
         cases hc : L 8 with
         | false => rfl
         | true => exact hdn.no 7 3 (hdn.at_ 8 7 hc rfl) rfl hu
        have G := (gJ h8).2.2.1
        have c0 : W.cell? ⟨wr.heap.size, 0, none⟩ = some (.int .i64 x.id) := G.cell 0
        have c1 : W.cell? ⟨wr.heap.size, 1, none⟩ = some (.int .i64 x.fr) := G.cell 1
        have c2 : W.cell? ⟨wr.heap.size, 2, none⟩ = some (.int .i64 x.to) := G.cell 2
        have c3 : W.cell? ⟨wr.heap.size, 3, none⟩ = some (.int .i64 x.steps) := G.cell 3
        have c4 : W.cell? ⟨wr.heap.size, 4, none⟩ = some (.int .i64 x.paces) := G.cell 4
        clear G
        have HF := Lib.hid (And.intro gJ (And.intro gY (And.intro f0 (And.intro f1 (And.intro f2 (And.intro f3 (And.intro f4 (And.intro f5 (And.intro f6 (And.intro f7 (And.intro f8 f9)))))))))))
        clear f9 f8 f7 f6 f5 f4 f3 f2 f1 f0 gY gJ hd
        try simp only at e2 ⊢
        gi_wp2
        obtain ⟨gJ, gY, f0, f1, f2, f3, f4, f5, f6, f7, f8, f9⟩ := HF.out
        exact hK (gh, (upd (upd s 28 (.pointer (some ⟨wr.heap.size, 2, none⟩))) 29 (.int .i64 x.to))) _ ⟨gJ, gY, f0, f1, (fun _ => rfl), (fun _ => rfl), f4, f5, f6, f7, f8, f9⟩
       ·rintro L ⟨gh, s⟩ W hu hd hdn ⟨gJ, gY, f0, f1, f2, f3, f4, f5, f6, f7, f8, f9⟩ K Q hK
        try dsimp only at gJ gY f0 f1 f2 f3 f4 f5 f6 f7 f8 f9 ⊢
        have h8 : L 8 = false := by
         cases hc : L 8 with
         | false => rfl
         | true => exact hdn.no 6 4 (hdn.at_ 8 6 hc rfl) rfl hu
        have G := (gJ h8).2.1.chart
        have c0 : W.cell? ⟨g1, 0, none⟩ = some (.slice A nn c) := G.cell 0
        have c1 : W.cell? ⟨g1, 1, none⟩ = some (.slice (some ⟨b, off, none⟩) m d) := G.cell 1
        have c2 : W.cell? ⟨g1, 2, none⟩ = some (.bool false) := G.cell 2
        have c3 : W.cell? ⟨g1, 3, none⟩ = some (.func (.func F) #[] C) := G.cell 3
        clear G
        have HF := Lib.hid (And.intro gJ (And.intro gY (And.intro f0 (And.intro f1 (And.intro f2 (And.intro f3 (And.intro f4 (And.intro f5 (And.intro f6 (And.intro f7 (And.intro f8 f9)))))))))))
        clear f9 f8 f7 f6 f5 f4 f3 f2 f1 f0 gY gJ hd
        try simp only
        gi_wp2
        obtain ⟨gJ, gY, f0, f1, f2, f3, f4, f5, f6, f7, f8, f9⟩ := HF.out
        exact hK (gh, (upd s 30 (.agg #[.slice A nn c, .slice (some ⟨b, off, none⟩) m d, .bool false, .func (.func F) #[] C]))) _ ⟨gJ, gY, f0, f1, f2, f3, (fun _ => rfl), f5, f6, f7, f8, f9⟩
       ·rintro L ⟨gh, s⟩ W hu hd hdn ⟨gJ, gY, f0, f1, f2, f3, f4, f5, f6, f7, f8, f9⟩ K Q hK
        try dsimp only at gJ gY f0 f1 f2 f3 f4 f5 f6 f7 f8 f9 ⊢
        have h8 : L 8 = false := by
         cases hc : L 8 with
         | false => rfl
         | true => exact hdn.no 6 5 (hdn.at_ 8 6 hc rfl) rfl hu
        have G := (gJ h8).2.2.1
        have c0 : W.cell? ⟨wr.heap.size, 0, none⟩ = some (.int .i64 x.id) := G.cell 0
        have c1 : W.cell? ⟨wr.heap.size, 1, none⟩ = some (.int .i64 x.fr) := G.cell 1
        have c2 : W.cell? ⟨wr.heap.size, 2, none⟩ = some (.int .i64 x.to) := G.cell 2
        have c3 : W.cell? ⟨wr.heap.size, 3, none⟩ = some (.int .i64 x.steps) := G.cell 3
        have c4 : W.cell? ⟨wr.heap.size, 4, none⟩ = some (.int .i64 x.paces) := G.cell 4
        clear G
        have HF := Lib.hid (And.intro gJ (And.intro gY (And.intro f0 (And.intro f1 (And.intro f2 (And.intro f3 (And.intro f4 (And.intro f5 (And.intro f6 (And.intro f7 (And.intro f8 f9)))))))))))
        clear f9 f8 f7 f6 f5 f4 f3 f2 f1 f0 gY gJ hd
        try simp only
        gi_wp2
        obtain ⟨gJ, gY, f0, f1, f2, f3, f4, f5, f6, f7, f8, f9⟩ := HF.out
        exact hK (gh, (upd s 31 (.agg #[.int .i64 x.id, .int .i64 x.fr, .int .i64 x.to, .int .i64 x.steps, .int .i64 x.paces]))) _ ⟨gJ, gY, f0, f1, f2, f3, f4, (fun _ => rfl), f6, f7, f8, f9⟩
       ·rintro L ⟨gh, s⟩ W hu hd hdn ⟨gJ, gY, f0, f1, f2, f3, f4, f5, f6, f7, f8, f9⟩ K Q hK
        try dsimp only at gJ gY f0 f1 f2 f3 f4 f5 f6 f7 f8 f9 ⊢
        have e4 := f4 (hd.at_ 4 rfl)
        have e5 := f5 (hd.at_ 5 rfl)
        have h8 : L 8 = false := by
         cases hc : L 8 with
         | false => rfl
         | true => exact hdn.no 8 6 hc rfl hu
        have GJ := Lib.hid (gJ h8)
        have HF := Lib.hid (And.intro gJ (And.intro gY (And.intro f0 (And.intro f1 (And.intro f2 (And.intro f3 (And.intro f4 (And.intro f5 (And.intro f6 (And.intro f7 (And.intro f8 f9)))))))))))
        clear f9 f8 f7 f6 f5 f4 f3 f2 f1 f0 gY gJ hd
        try simp only at e4 e5 ⊢
        gi_wp2
        refine ⟨trivial, fun _ => by omega, (callsIn_wide.2 (cost_any A nn c (some ⟨b, off, none⟩) m d false F C p x true W (HP.out.below GJ.out.2.1.below) HFX.out)).mono ?_⟩
        rintro e W2 ⟨rfl, hb⟩
        gi_wp2
        obtain ⟨gJ, gY, f0, f1, f2, f3, f4, f5, f6, f7, f8, f9⟩ := HF.out
        exact hK (gh, (upd (upd (upd s 30 (.agg #[.slice A nn c, .slice (some ⟨b, off, none⟩) m d, .bool false, .func (.func F) #[] C])) 31 (.agg #[.int .i64 x.id, .int .i64 x.fr, .int .i64 x.to, .int .i64 x.steps, .int .i64 x.paces])) 32 (.agg #[.int .i64 (costOf p x true).a, .int .i64 (costOf p x true).b, .int .i64 (costOf p x true).c, .int .i64 (costOf p x true).d]))) _ ⟨(fun _ => ⟨HJ.out _ _ _ none GJ.out.1 (grown_of_below hb none) (fun r e => by cases e), GJ.out.2.1.grow hb, GJ.out.2.2.1.below hb GJ.out.2.2.1.lt, Nat.le_trans GJ.out.2.2.2 hb.size⟩), (fun h => hdn.no 8 6 h rfl hu), f0, f1, f2, f3, (fun _ => rfl), (fun _ => rfl), (fun _ => rfl), f7, f8, f9⟩
       ·rintro L ⟨gh, s⟩ W hu hd hdn ⟨gJ, gY, f0, f1, f2, f3, f4, f5, f6, f7, f8, f9⟩ K Q hK
        try dsimp only at gJ gY f0 f1 f2 f3 f4 f5 f6 f7 f8 f9 ⊢
        have e3 := f3 (hd.at_ 3 rfl)
        have e6 := f6 (hd.at_ 6 rfl)
        have HF := Lib.hid (And.intro gJ (And.intro gY (And.intro f0 (And.intro f1 (And.intro f2 (And.intro f3 (And.intro f4 (And.intro f5 (And.intro f6 (And.intro f7 (And.intro f8 f9)))))))))))
        clear f9 f8 f7 f6 f5 f4 f3 f2 f1 f0 gY gJ hd
        try simp only at e3 e6 ⊢
        gi_wp2
        obtain ⟨gJ, gY, f0, f1, f2, f3, f4, f5, f6, f7, f8, f9⟩ := HF.out
        exact hK (gh, (upd (upd (upd s 29 (.int .i64 x.to)) 32 (.agg #[.int .i64 (costOf p x true).a, .int .i64 (costOf p x true).b, .int .i64 (costOf p x true).c, .int .i64 (costOf p x true).d])) 33 (.agg #[.int .i64 x.to, .int .i64 (costOf p x true).a, .int .i64 (costOf p x true).b, .int .i64 (costOf p x true).c, .int .i64 (costOf p x true).d, .slice none 0 0]))) _ ⟨gJ, gY, f0, f1, f2, (fun _ => rfl), f4, f5, (fun _ => rfl), (fun _ => rfl), f8, f9⟩
       ·rintro L ⟨gh, s⟩ W hu hd hdn ⟨gJ, gY, f0, f1, f2, f3, f4, f5, f6, f7, f8, f9⟩ K Q hK
        try dsimp only at gJ gY f0 f1 f2 f3 f4 f5 f6 f7 f8 f9 ⊢
        have e0 := f0 (hd.at_ 0 rfl)
        have e1 := f1 (hd.at_ 1 rfl)
        have e7 := f7 (hd.at_ 7 rfl)
        have h8 : L 8 = false := hu
        have GJ := Lib.hid (gJ h8)
        obtain ⟨fn, tmps, assign, body, hy, hR⟩ := HYY.out W GJ.out.1
        have HF := Lib.hid (And.intro gJ (And.intro gY (And.intro f0 (And.intro f1 (And.intro f2 (And.intro f3 (And.intro f4 (And.intro f5 (And.intro f6 (And.intro f7 (And.intro f8 f9)))))))))))
        clear f9 f8 f7 f6 f5 f4 f3 f2 f1 f0 gY gJ hd
        try simp only at e0 e1 e7 ⊢
        gi_wp2
        refine ⟨fun _ => by omega, hR.mono ?_⟩
        rintro e W3 hor
        obtain ⟨bb, rfl, hor2⟩ := yieldedB hor
        clear hor
        gi_wp2
        obtain ⟨gJ, gY, f0, f1, f2, f3, f4, f5, f6, f7, f8, f9⟩ := HF.out
        exact hK ((⟨bb⟩ : YGh), (upd (upd (upd (upd s 26 (.func (.yield l) #[] #[])) 27 (.agg #[.int .i64 x.id, .int .i64 x.fr, .int .i64 x.to, .int .i64 x.steps, .int .i64 x.paces])) 33 (.agg #[.int .i64 x.to, .int .i64 (costOf p x true).a, .int .i64 (costOf p x true).b, .int .i64 (costOf p x true).c, .int .i64 (costOf p x true).d, .slice none 0 0])) 34 (.bool bb))) _ ⟨(fun h => by cases h), (fun _ => by
      rcases hor2 with ⟨h1, h2, h3⟩ | ⟨h1, h2⟩
      ·exact .inl ⟨h1, h2, GJ.out.2.1.kept h3, Nat.le_trans GJ.out.2.2.2 h3.1.size⟩
      ·exact .inr ⟨h1, h2⟩), (fun _ => rfl), (fun _ => rfl), f2, f3, f4, f5, f6, (fun _ => rfl), (fun _ => rfl), (fun h => hdn.no 9 8 h rfl hu)⟩
       ·rintro L ⟨gh, s⟩ W hu hd hdn ⟨gJ, gY, f0, f1, f2, f3, f4, f5, f6, f7, f8, f9⟩ K Q hK
        try dsimp only at gJ gY f0 f1 f2 f3 f4 f5 f6 f7 f8 f9 ⊢
        have e8 := f8 (hd.at_ 8 rfl)
        have HF := Lib.hid (And.intro gJ (And.intro gY (And.intro f0 (And.intro f1 (And.intro f2 (And.intro f3 (And.intro f4 (And.intro f5 (And.intro f6 (And.intro f7 (And.intro f8 f9)))))))))))
        clear f9 f8 f7 f6 f5 f4 f3 f2 f1 f0 gY gJ hd
        try simp only at e8 ⊢
        gi_wp2
        obtain ⟨gJ, gY, f0, f1, f2, f3, f4, f5, f6, f7, f8, f9⟩ := HF.out
        exact hK (gh, (upd (upd s 34 (.bool gh.b)) 35 (.bool (!gh.b)))) _ ⟨gJ, gY, f0, f1, f2, f3, f4, f5, f6, f7, (fun _ => rfl), (fun _ => rfl)⟩
      ·rintro L ⟨gh, s⟩ W hall ⟨gJ, gY, f0, f1, f2, f3, f4, f5, f6, f7, f8, f9⟩
       have e9 := f9 (hall 9 (by decide))
       have GY := gY (hall 8 (by decide))
       clear hall gJ gY f0 f1 f2 f3 f4 f5 f6 f7 f8 f9
       rcases GY with ⟨hb, hj, hi, hsz'⟩ | ⟨hb, hjx⟩
       ·rw [hb] at e9
        have HJ3 := Lib.hid hj
        have HI3 := Lib.hid hi
        clear hj hi hb
        replace e9 : s 35 = .bool false := e9
        simp only
        rw [e9]
        gi_wp2
        go_roundw
        case rel => exact ⟨k + 1, by omega, by go_num, HJ3.out, HI3.out, by omega⟩
        case measure => simp [intOf]; omega
       ·rw [hb] at e9
        have HJ3 := Lib.hid hjx
        clear hjx hb
        replace e9 : s 35 = .bool true := e9
        simp only
        rw [e9]
        gi_wp2
        unfold Exit.noGoto
        refine bodyPost_ret (results_none rfl _ _ _) rfl ?_
        exact ⟨⟨_, rfl⟩, .inr ⟨_, upto_pre _ _ _ _ _, HJ3.out⟩⟩
     ·clear hskip
      have hL : leads true p x place = some (x.to, (costOf p x true)) := by rw [HLD.out]; rw [if_pos HFR.out.symm]; simp [costOf, priceOf]
      obtain ⟨y, hy1, hy2, hy3⟩ := upto_some HX.out hL
      have HYY : Hid (∀ W, J (upto true p place t.links k) W → YieldAt Fence.wide (n - 1) Tryd.prog l #[.agg #[.int .i64 x.id, .int .i64 x.fr, .int .i64 x.to, .int .i64 x.steps, .int .i64 x.paces], .agg #[.int .i64 x.to, .int .i64 (costOf p x true).a, .int .i64 (costOf p x true).b, .int .i64 (costOf p x true).c, .int .i64 (costOf p x true).d, .slice none 0 0]] W fun e W' =>
        (e = .returned (.bool true) ∧ J (upto true p place t.links (k + 1)) W' ∧ FromK w1.heap.size g1 g2 W W') ∨ (e = .returned (.bool false) ∧ Jx (upto true p place t.links (k + 1)) W')) := Lib.hid (fun W hj => by
       have := HY.out _ y W hj hy3
       unfold Out.enc at this
       rw [hy1] at this
       rw [hy2]
       exact this)
      clear hL hy1 hy2 hy3
      have B0 : Below wr.heap.size wr (wr.alloc (.cells #[.int .i64 x.id, .int .i64 x.fr, .int .i64 x.to, .int .i64 x.steps, .int .i64 x.paces] 58)).drew := below_drewN ((Below.refl _ _).alloc (Nat.le_refl _) _) 1
      have G0 : J (upto true p place t.links k) (wr.alloc (.cells #[.int .i64 x.id, .int .i64 x.fr, .int .i64 x.to, .int .i64 x.steps, .int .i64 x.paces] 58)).drew ∧ FromIn w1 g1 g2 #[.slice A nn c, .slice (some ⟨b, off, none⟩) m d, .bool true, .func (.func F) #[] C] place (wr.alloc (.cells #[.int .i64 x.id, .int .i64 x.fr, .int .i64 x.to, .int .i64 x.steps, .int .i64 x.paces] 58)).drew ∧ Blk (wr.alloc (.cells #[.int .i64 x.id, .int .i64 x.fr, .int .i64 x.to, .int .i64 x.steps, .int .i64 x.paces] 58)).drew wr.heap.size 58 #[.int .i64 x.id, .int .i64 x.fr, .int .i64 x.to, .int .i64 x.steps, .int .i64 x.paces] ∧ W0.heap.size ≤ (wr.alloc (.cells #[.int .i64 x.id, .int .i64 x.fr, .int .i64 x.to, .int .i64 x.steps, .int .i64 x.paces] 58)).drew.heap.size :=
       ⟨HJ.out _ _ _ none HJs.out (grown_of_below B0 none) (fun r e => by cases e), HI.out.grow B0, Blk.new wr _ _, Nat.le_trans hsz B0.size⟩
      clear B0
      gi_wp2
      refine wpIn_region_stepsD (by kernel_rfl) (by kernel_rfl) (fun σ : YGh × (Nat → Value) => { tmps := #[.func (.yield l) #[] #[], .pointer (some ⟨g1, 0, none⟩), .pointer (some ⟨g2, 0, none⟩), undef, undef, .pointer (some ⟨wr.heap.size, 0, none⟩), .pointer (some ⟨g1, 0, none⟩), .pointer (some ⟨g1, 1, none⟩), .slice (some ⟨b, off, none⟩) m d, .int .i64 (m : Int), .int .i64 (k : Int), .bool true, .pointer (some ⟨b, off + k * 5, none⟩), .agg #[.int .i64 x.id, .int .i64 x.fr, .int .i64 x.to, .int .i64 x.steps, .int .i64 x.paces], .pointer (some ⟨g1, 2, none⟩), .bool true, .bool true, .pointer (some ⟨wr.heap.size, 3, none⟩), .int .i64 x.steps, .bool false, .bool false, .int .i64 place, .bool true, .pointer (some ⟨wr.heap.size, 1, none⟩), .int .i64 x.fr, .bool true, σ.2 26, σ.2 27, σ.2 28, σ.2 29, σ.2 30, σ.2 31, σ.2 32, σ.2 33, σ.2 34, σ.2 35, u36, u37, u38, u39, u40, u41, u42, u43, u44, u45, u46, u47, u48, u49, u50], defers := [] })
       (fun L σ W => (L 8 = false → J (upto true p place t.links k) W ∧ FromIn w1 g1 g2 #[.slice A nn c, .slice (some ⟨b, off, none⟩) m d, .bool true, .func (.func F) #[] C] place W ∧ Blk W wr.heap.size 58 #[.int .i64 x.id, .int .i64 x.fr, .int .i64 x.to, .int .i64 x.steps, .int .i64 x.paces] ∧ W0.heap.size ≤ W.heap.size) ∧ (L 8 = true → (σ.1.b = true ∧ J (upto true p place t.links (k + 1)) W ∧ FromIn w1 g1 g2 #[.slice A nn c, .slice (some ⟨b, off, none⟩) m d, .bool true, .func (.func F) #[] C] place W ∧ W0.heap.size ≤ W.heap.size) ∨ (σ.1.b = false ∧ Jx (upto true p place t.links (k + 1)) W)) ∧ (L 0 = true → σ.2 26 = .func (.yield l) #[] #[]) ∧ (L 1 = true → σ.2 27 = .agg #[.int .i64 x.id, .int .i64 x.fr, .int .i64 x.to, .int .i64 x.steps, .int .i64 x.paces]) ∧ (L 2 = true → σ.2 28 = .pointer (some ⟨wr.heap.size, 2, none⟩)) ∧ (L 3 = true → σ.2 29 = .int .i64 x.to) ∧ (L 4 = true → σ.2 30 = .agg #[.slice A nn c, .slice (some ⟨b, off, none⟩) m d, .bool true, .func (.func F) #[] C]) ∧ (L 5 = true → σ.2 31 = .agg #[.int .i64 x.id, .int .i64 x.fr, .int .i64 x.to, .int .i64 x.steps, .int .i64 x.paces]) ∧ (L 6 = true → σ.2 32 = .agg #[.int .i64 (costOf p x true).a, .int .i64 (costOf p x true).b, .int .i64 (costOf p x true).c, .int .i64 (costOf p x true).d]) ∧ (L 7 = true → σ.2 33 = .agg #[.int .i64 x.to, .int .i64 (costOf p x true).a, .int .i64 (costOf p x true).b, .int .i64 (costOf p x true).c, .int .i64 (costOf p x true).d, .slice none 0 0]) ∧ (L 8 = true → σ.2 34 = .bool σ.1.b) ∧ (L 9 = true → σ.2 35 = .bool (!σ.1.b)))
       (⟨false⟩, fun k => (#[u26, u27, u28, u29, u30, u31, u32, u33, u34, u35] : Array Value).getD (k - 26) undef) rfl ?_ ?_ ?_
      ·exact ⟨(fun _ => G0), (fun h => by cases h), (fun h => by cases h), (fun h => by cases h), (fun h => by cases h), (fun h => by cases h), (fun h => by cases h), (fun h => by cases h), (fun h => by cases h), (fun h => by cases h), (fun h => by cases h), (fun h => by cases h)⟩
      ·refine ⟨?_, ?_, ?_, ?_, ?_, ?_, ?_, ?_, ?_, ?_, trivial⟩
       ·rintro L ⟨gh, s⟩ W hu hd hdn ⟨gJ, gY, f0, f1, f2, f3, f4, f5, f6, f7, f8, f9⟩ K Q hK
        try dsimp only at gJ gY f0 f1 f2 f3 f4 f5 f6 f7 f8 f9 ⊢
        have HF := Lib.hid (And.intro gJ (And.intro gY (And.intro f0 (And.intro f1 (And.intro f2 (And.intro f3 (And.intro f4 (And.intro f5 (And.intro f6 (And.intro f7 (And.intro f8 f9)))))))))))
        clear f9 f8 f7 f6 f5 f4 f3 f2 f1 f0 gY gJ hd
        try simp only
        gi_wp2
        obtain ⟨gJ, gY, f0, f1, f2, f3, f4, f5, f6, f7, f8, f9⟩ := HF.out
        exact hK (gh, (upd s 26 (.func (.yield l) #[] #[]))) _ ⟨gJ, gY, (fun _ => rfl), f1, f2, f3, f4, f5, f6, f7, f8, f9⟩
       ·rintro L ⟨gh, s⟩ W hu hd hdn ⟨gJ, gY, f0, f1, f2, f3, f4, f5, f6, f7, f8, f9⟩ K Q hK
        try dsimp only at gJ gY f0 f1 f2 f3 f4 f5 f6 f7 f8 f9 ⊢
        have h8 : L 8 = false := by
         cases hc : L 8 with
         | false => rfl
         | true => exact hdn.no 8 1 hc rfl hu
        have G := (gJ h8).2.2.1
        have c0 : W.cell? ⟨wr.heap.size, 0, none⟩ = some (.int .i64 x.id) := G.cell 0
        have c1 : W.cell? ⟨wr.heap.size, 1, none⟩ = some (.int .i64 x.fr) := G.cell 1
        have c2 : W.cell? ⟨wr.heap.size, 2, none⟩ = some (.int .i64 x.to) := G.cell 2
        have c3 : W.cell? ⟨wr.heap.size, 3, none⟩ = some (.int .i64 x.steps) := G.cell 3
        have c4 : W.cell? ⟨wr.heap.size, 4, none⟩ = some (.int .i64 x.paces) := G.cell 4
        clear G
        have HF := Lib.hid (And.intro gJ (And.intro gY (And.intro f0 (And.intro f1 (And.intro f2 (And.intro f3 (And.intro f4 (And.intro f5 (And.intro f6 (And.intro f7 (And.intro f8 f9)))))))))))
        clear f9 f8 f7 f6 f5 f4 f3 f2 f1 f0 gY gJ hd
        try simp only
        gi_wp2
        obtain ⟨gJ, gY, f0, f1, f2, f3, f4, f5, f6, f7, f8, f9⟩ := HF.out
        exact hK (gh, (upd s 27 (.agg #[.int .i64 x.id, .int .i64 x.fr, .int .i64 x.to, .int .i64 x.steps, .int .i64 x.paces]))) _ ⟨gJ, gY, f0, (fun _ => rfl), f2, f3, f4, f5, f6, f7, f8, f9⟩
       ·rintro L ⟨gh, s⟩ W hu hd hdn ⟨gJ, gY, f0, f1, f2, f3, f4, f5, f6, f7, f8, f9⟩ K Q hK
        try dsimp only at gJ gY f0 f1 f2 f3 f4 f5 f6 f7 f8 f9 ⊢
        have HF := Lib.hid (And.intro gJ (And.intro gY (And.intro f0 (And.intro f1 (And.intro f2 (And.intro f3 (And.intro f4 (And.intro f5 (And.intro f6 (And.intro f7 (And.intro f8 f9)))))))))))
        clear f9 f8 f7 f6 f5 f4 f3 f2 f1 f0 gY gJ hd
        try simp only
        gi_wp2
        obtain ⟨gJ, gY, f0, f1, f2, f3, f4, f5, f6, f7, f8, f9⟩ := HF.out
        exact hK (gh, (upd s 28 (.pointer (some ⟨wr.heap.size, 2, none⟩)))) _ ⟨gJ, gY, f0, f1, (fun _ => rfl), f3, f4, f5, f6, f7, f8, f9⟩
       ·rintro L ⟨gh, s⟩ W hu hd hdn ⟨gJ, gY, f0, f1, f2, f3, f4, f5, f6, f7, f8, f9⟩ K Q hK
        try dsimp only at gJ gY f0 f1 f2 f3 f4 f5 f6 f7 f8 f9 ⊢
        have e2 := f2 (hd.at_ 2 rfl)
        have h8 : L 8 = false := by
         cases hc : L 8 with
         | false => rfl
         | true => exact hdn.no 7 3 (hdn.at_ 8 7 hc rfl) rfl hu
        have G := (gJ h8).2.2.1
        have c0 : W.cell? ⟨wr.heap.size, 0, none⟩ = some (.int .i64 x.id) := G.cell 0
        have c1 : W.cell? ⟨wr.heap.size, 1, none⟩ = some (.int .i64 x.fr) := G.cell 1
        have c2 : W.cell? ⟨wr.heap.size, 2, none⟩ = some (.int .i64 x.to) := G.cell 2
        have c3 : W.cell? ⟨wr.heap.size, 3, none⟩ = some (.int .i64 x.steps) := G.cell 3
        have c4 : W.cell? ⟨wr.heap.size, 4, none⟩ = some (.int .i64 x.paces) := G.cell 4
        clear G
        have HF := Lib.hid (And.intro gJ (And.intro gY (And.intro f0 (And.intro f1 (And.intro f2 (And.intro f3 (And.intro f4 (And.intro f5 (And.intro f6 (And.intro f7 (And.intro f8 f9)))))))))))
        clear f9 f8 f7 f6 f5 f4 f3 f2 f1 f0 gY gJ hd
        try simp only at e2 ⊢
        gi_wp2
        obtain ⟨gJ, gY, f0, f1, f2, f3, f4, f5, f6, f7, f8, f9⟩ := HF.out
        exact hK (gh, (upd (upd s 28 (.pointer (some ⟨wr.heap.size, 2, none⟩))) 29 (.int .i64 x.to))) _ ⟨gJ, gY, f0, f1, (fun _ => rfl), (fun _ => rfl), f4, f5, f6, f7, f8, f9⟩
       ·rintro L ⟨gh, s⟩ W hu hd hdn ⟨gJ, gY, f0, f1, f2, f3, f4, f5, f6, f7, f8, f9⟩ K Q hK
        try dsimp only at gJ gY f0 f1 f2 f3 f4 f5 f6 f7 f8 f9 ⊢
        have h8 : L 8 = false := by
         cases hc : L 8 with
         | false => rfl
         | true => exact hdn.no 6 4 (hdn.at_ 8 6 hc rfl) rfl hu
        have G := (gJ h8).2.1.chart
        have c0 : W.cell? ⟨g1, 0, none⟩ = some (.slice A nn c) := G.cell 0
        have c1 : W.cell? ⟨g1, 1, none⟩ = some (.slice (some ⟨b, off, none⟩) m d) := G.cell 1
        have c2 : W.cell? ⟨g1, 2, none⟩ = some (.bool true) := G.cell 2
        have c3 : W.cell? ⟨g1, 3, none⟩ = some (.func (.func F) #[] C) := G.cell 3
        clear G
        have HF := Lib.hid (And.intro gJ (And.intro gY (And.intro f0 (And.intro f1 (And.intro f2 (And.intro f3 (And.intro f4 (And.intro f5 (And.intro f6 (And.intro f7 (And.intro f8 f9)))))))))))
        clear f9 f8 f7 f6 f5 f4 f3 f2 f1 f0 gY gJ hd
        try simp only
        gi_wp2
        obtain ⟨gJ, gY, f0, f1, f2, f3, f4, f5, f6, f7, f8, f9⟩ := HF.out
        exact hK (gh, (upd s 30 (.agg #[.slice A nn c, .slice (some ⟨b, off, none⟩) m d, .bool true, .func (.func F) #[] C]))) _ ⟨gJ, gY, f0, f1, f2, f3, (fun _ => rfl), f5, f6, f7, f8, f9⟩
       ·rintro L ⟨gh, s⟩ W hu hd hdn ⟨gJ, gY, f0, f1, f2, f3, f4, f5, f6, f7, f8, f9⟩ K Q hK
        try dsimp only at gJ gY f0 f1 f2 f3 f4 f5 f6 f7 f8 f9 ⊢
        have h8 : L 8 = false := by
         cases hc : L 8 with
         | false => rfl
         | true => exact hdn.no 6 5 (hdn.at_ 8 6 hc rfl) rfl hu
        have G := (gJ h8).2.2.1
        have c0 : W.cell? ⟨wr.heap.size, 0, none⟩ = some (.int .i64 x.id) := G.cell 0
        have c1 : W.cell? ⟨wr.heap.size, 1, none⟩ = some (.int .i64 x.fr) := G.cell 1
        have c2 : W.cell? ⟨wr.heap.size, 2, none⟩ = some (.int .i64 x.to) := G.cell 2
        have c3 : W.cell? ⟨wr.heap.size, 3, none⟩ = some (.int .i64 x.steps) := G.cell 3
        have c4 : W.cell? ⟨wr.heap.size, 4, none⟩ = some (.int .i64 x.paces) := G.cell 4
        clear G
        have HF := Lib.hid (And.intro gJ (And.intro gY (And.intro f0 (And.intro f1 (And.intro f2 (And.intro f3 (And.intro f4 (And.intro f5 (And.intro f6 (And.intro f7 (And.intro f8 f9)))))))))))
        clear f9 f8 f7 f6 f5 f4 f3 f2 f1 f0 gY gJ hd
        try simp only
        gi_wp2
        obtain ⟨gJ, gY, f0, f1, f2, f3, f4, f5, f6, f7, f8, f9⟩ := HF.out
        exact hK (gh, (upd s 31 (.agg #[.int .i64 x.id, .int .i64 x.fr, .int .i64 x.to, .int .i64 x.steps, .int .i64 x.paces]))) _ ⟨gJ, gY, f0, f1, f2, f3, f4, (fun _ => rfl), f6, f7, f8, f9⟩
       ·rintro L ⟨gh, s⟩ W hu hd hdn ⟨gJ, gY, f0, f1, f2, f3, f4, f5, f6, f7, f8, f9⟩ K Q hK
        try dsimp only at gJ gY f0 f1 f2 f3 f4 f5 f6 f7 f8 f9 ⊢
        have e4 := f4 (hd.at_ 4 rfl)
        have e5 := f5 (hd.at_ 5 rfl)
        have h8 : L 8 = false := by
         cases hc : L 8 with
         | false => rfl
         | true => exact hdn.no 8 6 hc rfl hu
        have GJ := Lib.hid (gJ h8)
        have HF := Lib.hid (And.intro gJ (And.intro gY (And.intro f0 (And.intro f1 (And.intro f2 (And.intro f3 (And.intro f4 (And.intro f5 (And.intro f6 (And.intro f7 (And.intro f8 f9)))))))))))
        clear f9 f8 f7 f6 f5 f4 f3 f2 f1 f0 gY gJ hd
        try simp only at e4 e5 ⊢
        gi_wp2
        refine ⟨trivial, fun _ => by omega, (callsIn_wide.2 (cost_any A nn c (some ⟨b, off, none⟩) m d true F C p x true W (HP.out.below GJ.out.2.1.below) HFX.out)).mono ?_⟩
        rintro e W2 ⟨rfl, hb⟩
        gi_wp2
        obtain ⟨gJ, gY, f0, f1, f2, f3, f4, f5, f6, f7, f8, f9⟩ := HF.out
        exact hK (gh, (upd (upd (upd s 30 (.agg #[.slice A nn c, .slice (some ⟨b, off, none⟩) m d, .bool true, .func (.func F) #[] C])) 31 (.agg #[.int .i64 x.id, .int .i64 x.fr, .int .i64 x.to, .int .i64 x.steps, .int .i64 x.paces])) 32 (.agg #[.int .i64 (costOf p x true).a, .int .i64 (costOf p x true).b, .int .i64 (costOf p x true).c, .int .i64 (costOf p x true).d]))) _ ⟨(fun _ => ⟨HJ.out _ _ _ none GJ.out.1 (grown_of_below hb none) (fun r e => by cases e), GJ.out.2.1.grow hb, GJ.out.2.2.1.below hb GJ.out.2.2.1.lt, Nat.le_trans GJ.out.2.2.2 hb.size⟩), (fun h => hdn.no 8 6 h rfl hu), f0, f1, f2, f3, (fun _ => rfl), (fun _ => rfl), (fun _ => rfl), f7, f8, f9⟩
       ·rintro L ⟨gh, s⟩ W hu hd hdn ⟨gJ, gY, f0, f1, f2, f3, f4, f5, f6, f7, f8, f9⟩ K Q hK
        try dsimp only at gJ gY f0 f1 f2 f3 f4 f5 f6 f7 f8 f9 ⊢
        have e3 := f3 (hd.at_ 3 rfl)
        have e6 := f6 (hd.at_ 6 rfl)
        have HF := Lib.hid (And.intro gJ (And.intro gY (And.intro f0 (And.intro f1 (And.intro f2 (And.intro f3 (And.intro f4 (And.intro f5 (And.intro f6 (And.intro f7 (And.intro f8 f9)))))))))))
        clear f9 f8 f7 f6 f5 f4 f3 f2 f1 f0 gY gJ hd
        try simp only at e3 e6 ⊢
        gi_wp2
        obtain ⟨gJ, gY, f0, f1, f2, f3, f4, f5, f6, f7, f8, f9⟩ := HF.out
        exact hK (gh, (upd (upd (upd s 29 (.int .i64 x.to)) 32 (.agg #[.int .i64 (costOf p x true).a, .int .i64 (costOf p x true).b, .int .i64 (costOf p x true).c, .int .i64 (costOf p x true).d])) 33 (.agg #[.int .i64 x.to, .int .i64 (costOf p x true).a, .int .i64 (costOf p x true).b, .int .i64 (costOf p x true).c, .int .i64 (costOf p x true).d, .slice none 0 0]))) _ ⟨gJ, gY, f0, f1, f2, (fun _ => rfl), f4, f5, (fun _ => rfl), (fun _ => rfl), f8, f9⟩
       ·rintro L ⟨gh, s⟩ W hu hd hdn ⟨gJ, gY, f0, f1, f2, f3, f4, f5, f6, f7, f8, f9⟩ K Q hK
        try dsimp only at gJ gY f0 f1 f2 f3 f4 f5 f6 f7 f8 f9 ⊢
        have e0 := f0 (hd.at_ 0 rfl)
        have e1 := f1 (hd.at_ 1 rfl)
        have e7 := f7 (hd.at_ 7 rfl)
        have h8 : L 8 = false := hu
        have GJ := Lib.hid (gJ h8)
        obtain ⟨fn, tmps, assign, body, hy, hR⟩ := HYY.out W GJ.out.1
        have HF := Lib.hid (And.intro gJ (And.intro gY (And.intro f0 (And.intro f1 (And.intro f2 (And.intro f3 (And.intro f4 (And.intro f5 (And.intro f6 (And.intro f7 (And.intro f8 f9)))))))))))
        clear f9 f8 f7 f6 f5 f4 f3 f2 f1 f0 gY gJ hd
        try simp only at e0 e1 e7 ⊢
        gi_wp2
        refine ⟨fun _ => by omega, hR.mono ?_⟩
        rintro e W3 hor
        obtain ⟨bb, rfl, hor2⟩ := yieldedB hor
        clear hor
        gi_wp2
        obtain ⟨gJ, gY, f0, f1, f2, f3, f4, f5, f6, f7, f8, f9⟩ := HF.out
        exact hK ((⟨bb⟩ : YGh), (upd (upd (upd (upd s 26 (.func (.yield l) #[] #[])) 27 (.agg #[.int .i64 x.id, .int .i64 x.fr, .int .i64 x.to, .int .i64 x.steps, .int .i64 x.paces])) 33 (.agg #[.int .i64 x.to, .int .i64 (costOf p x true).a, .int .i64 (costOf p x true).b, .int .i64 (costOf p x true).c, .int .i64 (costOf p x true).d, .slice none 0 0])) 34 (.bool bb))) _ ⟨(fun h => by cases h), (fun _ => by
      rcases hor2 with ⟨h1, h2, h3⟩ | ⟨h1, h2⟩
      ·exact .inl ⟨h1, h2, GJ.out.2.1.kept h3, Nat.le_trans GJ.out.2.2.2 h3.1.size⟩
      ·exact .inr ⟨h1, h2⟩), (fun _ => rfl), (fun _ => rfl), f2, f3, f4, f5, f6, (fun _ => rfl), (fun _ => rfl), (fun h => hdn.no 9 8 h rfl hu)⟩
       ·rintro L ⟨gh, s⟩ W hu hd hdn ⟨gJ, gY, f0, f1, f2, f3, f4, f5, f6, f7, f8, f9⟩ K Q hK
        try dsimp only at gJ gY f0 f1 f2 f3 f4 f5 f6 f7 f8 f9 ⊢
        have e8 := f8 (hd.at_ 8 rfl)
        have HF := Lib.hid (And.intro gJ (And.intro gY (And.intro f0 (And.intro f1 (And.intro f2 (And.intro f3 (And.intro f4 (And.intro f5 (And.intro f6 (And.intro f7 (And.intro f8 f9)))))))))))
        clear f9 f8 f7 f6 f5 f4 f3 f2 f1 f0 gY gJ hd
        try simp only at e8 ⊢
        gi_wp2
        obtain ⟨gJ, gY, f0, f1, f2, f3, f4, f5, f6, f7, f8, f9⟩ := HF.out
        exact hK (gh, (upd (upd s 34 (.bool gh.b)) 35 (.bool (!gh.b)))) _ ⟨gJ, gY, f0, f1, f2, f3, f4, f5, f6, f7, (fun _ => rfl), (fun _ => rfl)⟩
      ·rintro L ⟨gh, s⟩ W hall ⟨gJ, gY, f0, f1, f2, f3, f4, f5, f6, f7, f8, f9⟩
       have e9 := f9 (hall 9 (by decide))
       have GY := gY (hall 8 (by decide))
       clear hall gJ gY f0 f1 f2 f3 f4 f5 f6 f7 f8 f9
       rcases GY with ⟨hb, hj, hi, hsz'⟩ | ⟨hb, hjx⟩
       ·rw [hb] at e9
        have HJ3 := Lib.hid hj
        have HI3 := Lib.hid hi
        clear hj hi hb
        replace e9 : s 35 = .bool false := e9
        simp only
        rw [e9]
        gi_wp2
        go_roundw
        case rel => exact ⟨k + 1, by omega, by go_num, HJ3.out, HI3.out, by omega⟩
        case measure => simp [intOf]; omega
       ·rw [hb] at e9
        have HJ3 := Lib.hid hjx
        clear hjx hb
        replace e9 : s 35 = .bool true := e9
        simp only
        rw [e9]
        gi_wp2
        unfold Exit.noGoto
        refine bodyPost_ret (results_none rfl _ _ _) rfl ?_
        exact ⟨⟨_, rfl⟩, .inr ⟨_, upto_pre _ _ _ _ _, HJ3.out⟩⟩
    ·have hfr' : (place == x.fr) = false := by simpa using hfr
     have HFR := Lib.hid hfr
     clear hfr
     by_cases hto : place = x.to
     ·have hto' : (place == x.to) = true := by simpa using hto
      have HTO := Lib.hid hto
      clear hto
      rcases (show dk = false ∨ dk = true ∧ ¬ 0 < x.steps by cases dk <;> simp_all) with rfl | ⟨rfl, hst⟩
      ·clear hskip
       have hL : leads false p x place = some (x.fr, (costOf p x false)) := by rw [HLD.out]; rw [if_neg (fun e => HFR.out e.symm), if_pos HTO.out.symm]; simp [costOf, priceOf]
       obtain ⟨y, hy1, hy2, hy3⟩ := upto_some HX.out hL
       have HYY : Hid (∀ W, J (upto false p place t.links k) W → YieldAt Fence.wide (n - 1) Tryd.prog l #[.agg #[.int .i64 x.id, .int .i64 x.fr, .int .i64 x.to, .int .i64 x.steps, .int .i64 x.paces], .agg #[.int .i64 x.fr, .int .i64 (costOf p x false).a, .int .i64 (costOf p x false).b, .int .i64 (costOf p x false).c, .int .i64 (costOf p x false).d, .slice none 0 0]] W fun e W' =>
         (e = .returned (.bool true) ∧ J (upto false p place t.links (k + 1)) W' ∧ FromK w1.heap.size g1 g2 W W') ∨ (e = .returned (.bool false) ∧ Jx (upto false p place t.links (k + 1)) W')) := Lib.hid (fun W hj => by
        have := HY.out _ y W hj hy3
        unfold Out.enc at this
        rw [hy1] at this
        rw [hy2]
        exact this)
       clear hL hy1 hy2 hy3
       have B0 : Below wr.heap.size wr (wr.alloc (.cells #[.int .i64 x.id, .int .i64 x.fr, .int .i64 x.to, .int .i64 x.steps, .int .i64 x.paces] 58)).drew := below_drewN ((Below.refl _ _).alloc (Nat.le_refl _) _) 1
       have G0 : J (upto false p place t.links k) (wr.alloc (.cells #[.int .i64 x.id, .int .i64 x.fr, .int .i64 x.to, .int .i64 x.steps, .int .i64 x.paces] 58)).drew ∧ FromIn w1 g1 g2 #[.slice A nn c, .slice (some ⟨b, off, none⟩) m d, .bool false, .func (.func F) #[] C] place (wr.alloc (.cells #[.int .i64 x.id, .int .i64 x.fr, .int .i64 x.to, .int .i64 x.steps, .int .i64 x.paces] 58)).drew ∧ Blk (wr.alloc (.cells #[.int .i64 x.id, .int .i64 x.fr, .int .i64 x.to, .int .i64 x.steps, .int .i64 x.paces] 58)).drew wr.heap.size 58 #[.int .i64 x.id, .int .i64 x.fr, .int .i64 x.to, .int .i64 x.steps, .int .i64 x.paces] ∧ W0.heap.size ≤ (wr.alloc (.cells #[.int .i64 x.id, .int .i64 x.fr, .int .i64 x.to, .int .i64 x.steps, .int .i64 x.paces] 58)).drew.heap.size :=
        ⟨HJ.out _ _ _ none HJs.out (grown_of_below B0 none) (fun r e => by cases e), HI.out.grow B0, Blk.new wr _ _, Nat.le_trans hsz B0.size⟩
       clear B0
       gi_wp2
       refine wpIn_region_stepsD (by kernel_rfl) (by kernel_rfl) (fun σ : YGh × (Nat → Value) => { tmps := #[.func (.yield l) #[] #[], .pointer (some ⟨g1, 0, none⟩), .pointer (some ⟨g2, 0, none⟩), undef, undef, .pointer (some ⟨wr.heap.size, 0, none⟩), .pointer (some ⟨g1, 0, none⟩), .pointer (some ⟨g1, 1, none⟩), .slice (some ⟨b, off, none⟩) m d, .int .i64 (m : Int), .int .i64 (k : Int), .bool true, .pointer (some ⟨b, off + k * 5, none⟩), .agg #[.int .i64 x.id, .int .i64 x.fr, .int .i64 x.to, .int .i64 x.steps, .int .i64 x.paces], .pointer (some ⟨g1, 2, none⟩), .bool false, .bool false, undef, undef, undef, .bool false, .int .i64 place, .bool false, .pointer (some ⟨wr.heap.size, 1, none⟩), .int .i64 x.fr, .bool false, u26, u27, u28, u29, u30, u31, u32, u33, u34, u35, .bool true, .pointer (some ⟨wr.heap.size, 2, none⟩), .int .i64 x.to, .bool true, σ.2 40, σ.2 41, σ.2 42, σ.2 43, σ.2 44, σ.2 45, σ.2 46, σ.2 47, σ.2 48, σ.2 49, u50], defers := [] })
        (fun L σ W => (L 8 = false → J (upto false p place t.links k) W ∧ FromIn w1 g1 g2 #[.slice A nn c, .slice (some ⟨b, off, none⟩) m d, .bool false, .func (.func F) #[] C] place W ∧ Blk W wr.heap.size 58 #[.int .i64 x.id, .int .i64 x.fr, .int .i64 x.to, .int .i64 x.steps, .int .i64 x.paces] ∧ W0.heap.size ≤ W.heap.size) ∧ (L 8 = true → (σ.1.b = true ∧ J (upto false p place t.links (k + 1)) W ∧ FromIn w1 g1 g2 #[.slice A nn c, .slice (some ⟨b, off, none⟩) m d, .bool false, .func (.func F) #[] C] place W ∧ W0.heap.size ≤ W.heap.size) ∨ (σ.1.b = false ∧ Jx (upto false p place t.links (k + 1)) W)) ∧ (L 0 = true → σ.2 40 = .func (.yield l) #[] #[]) ∧ (L 1 = true → σ.2 41 = .agg #[.int .i64 x.id, .int .i64 x.fr, .int .i64 x.to, .int .i64 x.steps, .int .i64 x.paces]) ∧ (L 2 = true → σ.2 42 = .pointer (some ⟨wr.heap.size, 1, none⟩)) ∧ (L 3 = true → σ.2 43 = .int .i64 x.fr) ∧ (L 4 = true → σ.2 44 = .agg #[.slice A nn c, .slice (some ⟨b, off, none⟩) m d, .bool false, .func (.func F) #[] C]) ∧ (L 5 = true → σ.2 45 = .agg #[.int .i64 x.id, .int .i64 x.fr, .int .i64 x.to, .int .i64 x.steps, .int .i64 x.paces]) ∧ (L 6 = true → σ.2 46 = .agg #[.int .i64 (costOf p x false).a, .int .i64 (costOf p x false).b, .int .i64 (costOf p x false).c, .int .i64 (costOf p x false).d]) ∧ (L 7 = true → σ.2 47 = .agg #[.int .i64 x.fr, .int .i64 (costOf p x false).a, .int .i64 (costOf p x false).b, .int .i64 (costOf p x false).c, .int .i64 (costOf p x false).d, .slice none 0 0]) ∧ (L 8 = true → σ.2 48 = .bool σ.1.b) ∧ (L 9 = true → σ.2 49 = .bool (!σ.1.b)))
        (⟨false⟩, fun k => (#[u40, u41, u42, u43, u44, u45, u46, u47, u48, u49] : Array Value).getD (k - 40) undef) rfl ?_ ?_ ?_
       ·exact ⟨(fun _ => G0), (fun h => by cases h), (fun h => by cases h), (fun h => by cases h), (fun h => by cases h), (fun h => by cases h), (fun h => by cases h), (fun h => by cases h), (fun h => by cases h), (fun h => by cases h), (fun h => by cases h), (fun h => by cases h)⟩
       ·refine ⟨?_, ?_, ?_, ?_, ?_, ?_, ?_, ?_, ?_, ?_, trivial⟩
        ·rintro L ⟨gh, s⟩ W hu hd hdn ⟨gJ, gY, f0, f1, f2, f3, f4, f5, f6, f7, f8, f9⟩ K Q hK
         try dsimp only at gJ gY f0 f1 f2 f3 f4 f5 f6 f7 f8 f9 ⊢
         have HF := Lib.hid (And.intro gJ (And.intro gY (And.intro f0 (And.intro f1 (And.intro f2 (And.intro f3 (And.intro f4 (And.intro f5 (And.intro f6 (And.intro f7 (And.intro f8 f9)))))))))))
         clear f9 f8 f7 f6 f5 f4 f3 f2 f1 f0 gY gJ hd
         try simp only
         gi_wp2
         obtain ⟨gJ, gY, f0, f1, f2, f3, f4, f5, f6, f7, f8, f9⟩ := HF.out
         exact hK (gh, (upd s 40 (.func (.yield l) #[] #[]))) _ ⟨gJ, gY, (fun _ => rfl), f1, f2, f3, f4, f5, f6, f7, f8, f9⟩
        ·rintro L ⟨gh, s⟩ W hu hd hdn ⟨gJ, gY, f0, f1, f2, f3, f4, f5, f6, f7, f8, f9⟩ K Q hK
         try dsimp only at gJ gY f0 f1 f2 f3 f4 f5 f6 f7 f8 f9 ⊢
         have h8 : L 8 = false := by
          cases hc : L 8 with
          | false => rfl
          | true => exact hdn.no 8 1 hc rfl hu
         have G := (gJ h8).2.2.1
         have c0 : W.cell? ⟨wr.heap.size, 0, none⟩ = some (.int .i64 x.id) := G.cell 0
         have c1 : W.cell? ⟨wr.heap.size, 1, none⟩ = some (.int .i64 x.fr) := G.cell 1
         have c2 : W.cell? ⟨wr.heap.size, 2, none⟩ = some (.int .i64 x.to) := G.cell 2
         have c3 : W.cell? ⟨wr.heap.size, 3, none⟩ = some (.int .i64 x.steps) := G.cell 3
         have c4 : W.cell? ⟨wr.heap.size, 4, none⟩ = some (.int .i64 x.paces) := G.cell 4
         clear G
         have HF := Lib.hid (And.intro gJ (And.intro gY (And.intro f0 (And.intro f1 (And.intro f2 (And.intro f3 (And.intro f4 (And.intro f5 (And.intro f6 (And.intro f7 (And.intro f8 f9)))))))))))
         clear f9 f8 f7 f6 f5 f4 f3 f2 f1 f0 gY gJ hd
         try simp only
         gi_wp2
         obtain ⟨gJ, gY, f0, f1, f2, f3, f4, f5, f6, f7, f8, f9⟩ := HF.out
         exact hK (gh, (upd s 41 (.agg #[.int .i64 x.id, .int .i64 x.fr, .int .i64 x.to, .int .i64 x.steps, .int .i64 x.paces]))) _ ⟨gJ, gY, f0, (fun _ => rfl), f2, f3, f4, f5, f6, f7, f8, f9⟩
        ·rintro L ⟨gh, s⟩ W hu hd hdn ⟨gJ, gY, f0, f1, f2, f3, f4, f5, f6, f7, f8, f9⟩ K Q hK
         try dsimp only at gJ gY f0 f1 f2 f3 f4 f5 f6 f7 f8 f9 ⊢
         have HF := Lib.hid (And.intro gJ (And.intro gY (And.intro f0 (And.intro f1 (And.intro f2 (And.intro f3 (And.intro f4 (And.intro f5 (And.intro f6 (And.intro f7 (And.intro f8 f9)))))))))))
         clear f9 f8 f7 f6 f5 f4 f3 f2 f1 f0 gY gJ hd
         try simp only
         gi_wp2
         obtain ⟨gJ, gY, f0, f1, f2, f3, f4, f5, f6, f7, f8, f9⟩ := HF.out
         exact hK (gh, (upd s 42 (.pointer (some ⟨wr.heap.size, 1, none⟩)))) _ ⟨gJ, gY, f0, f1, (fun _ => rfl), f3, f4, f5, f6, f7, f8, f9⟩
        ·rintro L ⟨gh, s⟩ W hu hd hdn ⟨gJ, gY, f0, f1, f2, f3, f4, f5, f6, f7, f8, f9⟩ K Q hK
         try dsimp only at gJ gY f0 f1 f2 f3 f4 f5 f6 f7 f8 f9 ⊢
         have e2 := f2 (hd.at_ 2 rfl)
         have h8 : L 8 = false := by
          cases hc : L 8 with
          | false => rfl
          | true => exact hdn.no 7 3 (hdn.at_ 8 7 hc rfl) rfl hu
         have G := (gJ h8).2.2.1
         have c0 : W.cell? ⟨wr.heap.size, 0, none⟩ = some (.int .i64 x.id) := G.cell 0
         have c1 : W.cell? ⟨wr.heap.size, 1, none⟩ = some (.int .i64 x.fr) := G.cell 1
         have c2 : W.cell? ⟨wr.heap.size, 2, none⟩ = some (.int .i64 x.to) := G.cell 2
         have c3 : W.cell? ⟨wr.heap.size, 3, none⟩ = some (.int .i64 x.steps) := G.cell 3
         have c4 : W.cell? ⟨wr.heap.size, 4, none⟩ = some (.int .i64 x.paces) := G.cell 4
         clear G
         have HF := Lib.hid (And.intro gJ (And.intro gY (And.intro f0 (And.intro f1 (And.intro f2 (And.intro f3 (And.intro f4 (And.intro f5 (And.intro f6 (And.intro f7 (And.intro f8 f9)))))))))))
         clear f9 f8 f7 f6 f5 f4 f3 f2 f1 f0 gY gJ hd
         try simp only at e2 ⊢
         gi_wp2
         obtain ⟨gJ, gY, f0, f1, f2, f3, f4, f5, f6, f7, f8, f9⟩ := HF.out
         exact hK (gh, (upd (upd s 42 (.pointer (some ⟨wr.heap.size, 1, none⟩))) 43 (.int .i64 x.fr))) _ ⟨gJ, gY, f0, f1, (fun _ => rfl), (fun _ => rfl), f4, f5, f6, f7, f8, f9⟩
        ·rintro L ⟨gh, s⟩ W hu hd hdn ⟨gJ, gY, f0, f1, f2, f3, f4, f5, f6, f7, f8, f9⟩ K Q hK
         try dsimp only at gJ gY f0 f1 f2 f3 f4 f5 f6 f7 f8 f9 ⊢
         have h8 : L 8 = false := by
          cases hc : L 8 with
          | false => rfl
          | true => exact hdn.no 6 4 (hdn.at_ 8 6 hc rfl) rfl hu
         have G := (gJ h8).2.1.chart
         have c0 : W.cell? ⟨g1, 0, none⟩ = some (.slice A nn c) := G.cell 0
         have c1 : W.cell? ⟨g1, 1, none⟩ = some (.slice (some ⟨b, off, none⟩) m d) := G.cell 1
         have c2 : W.cell? ⟨g1, 2, none⟩ = some (.bool false) := G.cell 2
         have c3 : W.cell? ⟨g1, 3, none⟩ = some (.func (.func F) #[] C) := G.cell 3
         clear G
         have HF := Lib.hid (And.intro gJ (And.intro gY (And.intro f0 (And.intro f1 (And.intro f2 (And.intro f3 (And.intro f4 (And.intro f5 (And.intro f6 (And.intro f7 (And.intro f8 f9)))))))))))
         clear f9 f8 f7 f6 f5 f4 f3 f2 f1 f0 gY gJ hd
         try simp only
         gi_wp2
         obtain ⟨gJ, gY, f0, f1, f2, f3, f4, f5, f6, f7, f8, f9⟩ := HF.out
         exact hK (gh, (upd s 44 (.agg #[.slice A nn c, .slice (some ⟨b, off, none⟩) m d, .bool false, .func (.func F) #[] C]))) _ ⟨gJ, gY, f0, f1, f2, f3, (fun _ => rfl), f5, f6, f7, f8, f9⟩
        ·rintro L ⟨gh, s⟩ W hu hd hdn ⟨gJ, gY, f0, f1, f2, f3, f4, f5, f6, f7, f8, f9⟩ K Q hK
         try dsimp only at gJ gY f0 f1 f2 f3 f4 f5 f6 f7 f8 f9 ⊢
         have h8 : L 8 = false := by
          cases hc : L 8 with
          | false => rfl
          | true => exact hdn.no 6 5 (hdn.at_ 8 6 hc rfl) rfl hu
         have G := (gJ h8).2.2.1
         have c0 : W.cell? ⟨wr.heap.size, 0, none⟩ = some (.int .i64 x.id) := G.cell 0
         have c1 : W.cell? ⟨wr.heap.size, 1, none⟩ = some (.int .i64 x.fr) := G.cell 1
         have c2 : W.cell? ⟨wr.heap.size, 2, none⟩ = some (.int .i64 x.to) := G.cell 2
         have c3 : W.cell? ⟨wr.heap.size, 3, none⟩ = some (.int .i64 x.steps) := G.cell 3
         have c4 : W.cell? ⟨wr.heap.size, 4, none⟩ = some (.int .i64 x.paces) := G.cell 4
         clear G
         have HF := Lib.hid (And.intro gJ (And.intro gY (And.intro f0 (And.intro f1 (And.intro f2 (And.intro f3 (And.intro f4 (And.intro f5 (And.intro f6 (And.intro f7 (And.intro f8 f9)))))))))))
         clear f9 f8 f7 f6 f5 f4 f3 f2 f1 f0 gY gJ hd
         try simp only
         gi_wp2
         obtain ⟨gJ, gY, f0, f1, f2, f3, f4, f5, f6, f7, f8, f9⟩ := HF.out
         exact hK (gh, (upd s 45 (.agg #[.int .i64 x.id, .int .i64 x.fr, .int .i64 x.to, .int .i64 x.steps, .int .i64 x.paces]))) _ ⟨gJ, gY, f0, f1, f2, f3, f4, (fun _ => rfl), f6, f7, f8, f9⟩
        ·rintro L ⟨gh, s⟩ W hu hd hdn ⟨gJ, gY, f0, f1, f2, f3, f4, f5, f6, f7, f8, f9⟩ K Q hK
         try dsimp only at gJ gY f0 f1 f2 f3 f4 f5 f6 f7 f8 f9 ⊢
         have e4 := f4 (hd.at_ 4 rfl)
         have e5 := f5 (hd.at_ 5 rfl)
         have h8 : L 8 = false := by
          cases hc : L 8 with
          | false => rfl
          | true => exact hdn.no 8 6 hc rfl hu
         have GJ := Lib.hid (gJ h8)
         have HF := Lib.hid (And.intro gJ (And.intro gY (And.intro f0 (And.intro f1 (And.intro f2 (And.intro f3 (And.intro f4 (And.intro f5 (And.intro f6 (And.intro f7 (And.intro f8 f9)))))))))))
         clear f9 f8 f7 f6 f5 f4 f3 f2 f1 f0 gY gJ hd
         try simp only at e4 e5 ⊢
         gi_wp2
         refine ⟨trivial, fun _ => by omega, (callsIn_wide.2 (cost_any A nn c (some ⟨b, off, none⟩) m d false F C p x false W (HP.out.below GJ.out.2.1.below) HFX.out)).mono ?_⟩
         rintro e W2 ⟨rfl, hb⟩
         gi_wp2
         obtain ⟨gJ, gY, f0, f1, f2, f3, f4, f5, f6, f7, f8, f9⟩ := HF.out
         exact hK (gh, (upd (upd (upd s 44 (.agg #[.slice A nn c, .slice (some ⟨b, off, none⟩) m d, .bool false, .func (.func F) #[] C])) 45 (.agg #[.int .i64 x.id, .int .i64 x.fr, .int .i64 x.to, .int .i64 x.steps, .int .i64 x.paces])) 46 (.agg #[.int .i64 (costOf p x false).a, .int .i64 (costOf p x false).b, .int .i64 (costOf p x false).c, .int .i64 (costOf p x false).d]))) _ ⟨(fun _ => ⟨HJ.out _ _ _ none GJ.out.1 (grown_of_below hb none) (fun r e => by cases e), GJ.out.2.1.grow hb, GJ.out.2.2.1.below hb GJ.out.2.2.1.lt, Nat.le_trans GJ.out.2.2.2 hb.size⟩), (fun h => hdn.no 8 6 h rfl hu), f0, f1, f2, f3, (fun _ => rfl), (fun _ => rfl), (fun _ => rfl), f7, f8, f9⟩
        ·rintro L ⟨gh, s⟩ W hu hd hdn ⟨gJ, gY, f0, f1, f2, f3, f4, f5, f6, f7, f8, f9⟩ K Q hK
         try dsimp only at gJ gY f0 f1 f2 f3 f4 f5 f6 f7 f8 f9 ⊢
         have e3 := f3 (hd.at_ 3 rfl)
         have e6 := f6 (hd.at_ 6 rfl)
         have HF := Lib.hid (And.intro gJ (And.intro gY (And.intro f0 (And.intro f1 (And.intro f2 (And.intro f3 (And.intro f4 (And.intro f5 (And.intro f6 (And.intro f7 (And.intro f8 f9)))))))))))
         clear f9 f8 f7 f6 f5 f4 f3 f2 f1 f0 gY gJ hd
         try simp only at e3 e6 ⊢
         gi_wp2
         obtain ⟨gJ, gY, f0, f1, f2, f3, f4, f5, f6, f7, f8, f9⟩ := HF.out
         exact hK (gh, (upd (upd (upd s 43 (.int .i64 x.fr)) 46 (.agg #[.int .i64 (costOf p x false).a, .int .i64 (costOf p x false).b, .int .i64 (costOf p x false).c, .int .i64 (costOf p x false).d])) 47 (.agg #[.int .i64 x.fr, .int .i64 (costOf p x false).a, .int .i64 (costOf p x false).b, .int .i64 (costOf p x false).c, .int .i64 (costOf p x false).d, .slice none 0 0]))) _ ⟨gJ, gY, f0, f1, f2, (fun _ => rfl), f4, f5, (fun _ => rfl), (fun _ => rfl), f8, f9⟩
        ·rintro L ⟨gh, s⟩ W hu hd hdn ⟨gJ, gY, f0, f1, f2, f3, f4, f5, f6, f7, f8, f9⟩ K Q hK
         try dsimp only at gJ gY f0 f1 f2 f3 f4 f5 f6 f7 f8 f9 ⊢
         have e0 := f0 (hd.at_ 0 rfl)
         have e1 := f1 (hd.at_ 1 rfl)
         have e7 := f7 (hd.at_ 7 rfl)
         have h8 : L 8 = false := hu
         have GJ := Lib.hid (gJ h8)
         obtain ⟨fn, tmps, assign, body, hy, hR⟩ := HYY.out W GJ.out.1
         have HF := Lib.hid (And.intro gJ (And.intro gY (And.intro f0 (And.intro f1 (And.intro f2 (And.intro f3 (And.intro f4 (And.intro f5 (And.intro f6 (And.intro f7 (And.intro f8 f9)))))))))))
         clear f9 f8 f7 f6 f5 f4 f3 f2 f1 f0 gY gJ hd
         try simp only at e0 e1 e7 ⊢
         gi_wp2
         refine ⟨fun _ => by omega, hR.mono ?_⟩
         rintro e W3 hor
         obtain ⟨bb, rfl, hor2⟩ := yieldedB hor
         clear hor
         gi_wp2
         obtain ⟨gJ, gY, f0, f1, f2, f3, f4, f5, f6, f7, f8, f9⟩ := HF.out
         exact hK ((⟨bb⟩ : YGh), (upd (upd (upd (upd s 40 (.func (.yield l) #[] #[])) 41 (.agg #[.int .i64 x.id, .int .i64 x.fr, .int .i64 x.to, .int .i64 x.steps, .int .i64 x.paces])) 47 (.agg #[.int .i64 x.fr, .int .i64 (costOf p x false).a, .int .i64 (costOf p x false).b, .int .i64 (costOf p x false).c, .int .i64 (costOf p x false).d, .slice none 0 0])) 48 (.bool bb))) _ ⟨(fun h => by cases h), (fun _ => by
      rcases hor2 with ⟨h1, h2, h3⟩ | ⟨h1, h2⟩
      ·exact .inl ⟨h1, h2, GJ.out.2.1.kept h3, Nat.le_trans GJ.out.2.2.2 h3.1.size⟩
      ·exact .inr ⟨h1, h2⟩), (fun _ => rfl), (fun _ => rfl), f2, f3, f4, f5, f6, (fun _ => rfl), (fun _ => rfl), (fun h => hdn.no 9 8 h rfl hu)⟩
        ·rintro L ⟨gh, s⟩ W hu hd hdn ⟨gJ, gY, f0, f1, f2, f3, f4, f5, f6, f7, f8, f9⟩ K Q hK
         try dsimp only at gJ gY f0 f1 f2 f3 f4 f5 f6 f7 f8 f9 ⊢
         have e8 := f8 (hd.at_ 8 rfl)
         have HF := Lib.hid (And.intro gJ (And.intro gY (And.intro f0 (And.intro f1 (And.intro f2 (And.intro f3 (And.intro f4 (And.intro f5 (And.intro f6 (And.intro f7 (And.intro f8 f9)))))))))))
         clear f9 f8 f7 f6 f5 f4 f3 f2 f1 f0 gY gJ hd
         try simp only at e8 ⊢
         gi_wp2
         obtain ⟨gJ, gY, f0, f1, f2, f3, f4, f5, f6, f7, f8, f9⟩ := HF.out
         exact hK (gh, (upd (upd s 48 (.bool gh.b)) 49 (.bool (!gh.b)))) _ ⟨gJ, gY, f0, f1, f2, f3, f4, f5, f6, f7, (fun _ => rfl), (fun _ => rfl)⟩
       ·rintro L ⟨gh, s⟩ W hall ⟨gJ, gY, f0, f1, f2, f3, f4, f5, f6, f7, f8, f9⟩
        have e9 := f9 (hall 9 (by decide))
        have GY := gY (hall 8 (by decide))
        clear hall gJ gY f0 f1 f2 f3 f4 f5 f6 f7 f8 f9
        rcases GY with ⟨hb, hj, hi, hsz'⟩ | ⟨hb, hjx⟩
        ·rw [hb] at e9
         have HJ3 := Lib.hid hj
         have HI3 := Lib.hid hi
         clear hj hi hb
         replace e9 : s 49 = .bool false := e9
         simp only
         rw [e9]
         gi_wp2
         go_roundw
         case rel => exact ⟨k + 1, by omega, by go_num, HJ3.out, HI3.out, by omega⟩
         case measure => simp [intOf]; omega
        ·rw [hb] at e9
         have HJ3 := Lib.hid hjx
         clear hjx hb
         replace e9 : s 49 = .bool true := e9
         simp only
         rw [e9]
         gi_wp2
         unfold Exit.noGoto
         refine bodyPost_ret (results_none rfl _ _ _) rfl ?_
         exact ⟨⟨_, rfl⟩, .inr ⟨_, upto_pre _ _ _ _ _, HJ3.out⟩⟩
      ·clear hskip
       have hL : leads true p x place = some (x.fr, (costOf p x false)) := by rw [HLD.out]; rw [if_neg (fun e => HFR.out e.symm), if_pos HTO.out.symm]; simp [costOf, priceOf]
       obtain ⟨y, hy1, hy2, hy3⟩ := upto_some HX.out hL
       have HYY : Hid (∀ W, J (upto true p place t.links k) W → YieldAt Fence.wide (n - 1) Tryd.prog l #[.agg #[.int .i64 x.id, .int .i64 x.fr, .int .i64 x.to, .int .i64 x.steps, .int .i64 x.paces], .agg #[.int .i64 x.fr, .int .i64 (costOf p x false).a, .int .i64 (costOf p x false).b, .int .i64 (costOf p x false).c, .int .i64 (costOf p x false).d, .slice none 0 0]] W fun e W' =>
         (e = .returned (.bool true) ∧ J (upto true p place t.links (k + 1)) W' ∧ FromK w1.heap.size g1 g2 W W') ∨ (e = .returned (.bool false) ∧ Jx (upto true p place t.links (k + 1)) W')) := Lib.hid (fun W hj => by
        have := HY.out _ y W hj hy3
        unfold Out.enc at this
        rw [hy1] at this
        rw [hy2]
        exact this)
       clear hL hy1 hy2 hy3
       have B0 : Below wr.heap.size wr (wr.alloc (.cells #[.int .i64 x.id, .int .i64 x.fr, .int .i64 x.to, .int .i64 x.steps, .int .i64 x.paces] 58)).drew := below_drewN ((Below.refl _ _).alloc (Nat.le_refl _) _) 1
       have G0 : J (upto true p place t.links k) (wr.alloc (.cells #[.int .i64 x.id, .int .i64 x.fr, .int .i64 x.to, .int .i64 x.steps, .int .i64 x.paces] 58)).drew ∧ FromIn w1 g1 g2 #[.slice A nn c, .slice (some ⟨b, off, none⟩) m d, .bool true, .func (.func F) #[] C] place (wr.alloc (.cells #[.int .i64 x.id, .int .i64 x.fr, .int .i64 x.to, .int .i64 x.steps, .int .i64 x.paces] 58)).drew ∧ Blk (wr.alloc (.cells #[.int .i64 x.id, .int .i64 x.fr, .int .i64 x.to, .int .i64 x.steps, .int .i64 x.paces] 58)).drew wr.heap.size 58 #[.int .i64 x.id, .int .i64 x.fr, .int .i64 x.to, .int .i64 x.steps, .int .i64 x.paces] ∧ W0.heap.size ≤ (wr.alloc (.cells #[.int .i64 x.id, .int .i64 x.fr, .int .i64 x.to, .int .i64 x.steps, .int .i64 x.paces] 58)).drew.heap.size :=
        ⟨HJ.out _ _ _ none HJs.out (grown_of_below B0 none) (fun r e => by cases e), HI.out.grow B0, Blk.new wr _ _, Nat.le_trans hsz B0.size⟩
       clear B0
       gi_wp2
       refine wpIn_region_stepsD (by kernel_rfl) (by kernel_rfl) (fun σ : YGh × (Nat → Value) => { tmps := #[.func (.yield l) #[] #[], .pointer (some ⟨g1, 0, none⟩), .pointer (some ⟨g2, 0, none⟩), undef, undef, .pointer (some ⟨wr.heap.size, 0, none⟩), .pointer (some ⟨g1, 0, none⟩), .pointer (some ⟨g1, 1, none⟩), .slice (some ⟨b, off, none⟩) m d, .int .i64 (m : Int), .int .i64 (k : Int), .bool true, .pointer (some ⟨b, off + k * 5, none⟩), .agg #[.int .i64 x.id, .int .i64 x.fr, .int .i64 x.to, .int .i64 x.steps, .int .i64 x.paces], .pointer (some ⟨g1, 2, none⟩), .bool true, .bool true, .pointer (some ⟨wr.heap.size, 3, none⟩), .int .i64 x.steps, .bool false, .bool false, .int .i64 place, .bool false, .pointer (some ⟨wr.heap.size, 1, none⟩), .int .i64 x.fr, .bool false, u26, u27, u28, u29, u30, u31, u32, u33, u34, u35, .bool true, .pointer (some ⟨wr.heap.size, 2, none⟩), .int .i64 x.to, .bool true, σ.2 40, σ.2 41, σ.2 42, σ.2 43, σ.2 44, σ.2 45, σ.2 46, σ.2 47, σ.2 48, σ.2 49, u50], defers := [] })
        (fun L σ W => (L 8 = false → J (upto true p place t.links k) W ∧ FromIn w1 g1 g2 #[.slice A nn c, .slice (some ⟨b, off, none⟩) m d, .bool true, .func (.func F) #[] C] place W ∧ Blk W wr.heap.size 58 #[.int .i64 x.id, .int .i64 x.fr, .int .i64 x.to, .int .i64 x.steps, .int .i64 x.paces] ∧ W0.heap.size ≤ W.heap.size) ∧ (L 8 = true → (σ.1.b = true ∧ J (upto true p place t.links (k + 1)) W ∧ FromIn w1 g1 g2 #[.slice A nn c, .slice (some ⟨b, off, none⟩) m d, .bool true, .func (.func F) #[] C] place W ∧ W0.heap.size ≤ W.heap.size) ∨ (σ.1.b = false ∧ Jx (upto true p place t.links (k + 1)) W)) ∧ (L 0 = true → σ.2 40 = .func (.yield l) #[] #[]) ∧ (L 1 = true → σ.2 41 = .agg #[.int .i64 x.id, .int .i64 x.fr, .int .i64 x.to, .int .i64 x.steps, .int .i64 x.paces]) ∧ (L 2 = true → σ.2 42 = .pointer (some ⟨wr.heap.size, 1, none⟩)) ∧ (L 3 = true → σ.2 43 = .int .i64 x.fr) ∧ (L 4 = true → σ.2 44 = .agg #[.slice A nn c, .slice (some ⟨b, off, none⟩) m d, .bool true, .func (.func F) #[] C]) ∧ (L 5 = true → σ.2 45 = .agg #[.int .i64 x.id, .int .i64 x.fr, .int .i64 x.to, .int .i64 x.steps, .int .i64 x.paces]) ∧ (L 6 = true → σ.2 46 = .agg #[.int .i64 (costOf p x false).a, .int .i64 (costOf p x false).b, .int .i64 (costOf p x false).c, .int .i64 (costOf p x false).d]) ∧ (L 7 = true → σ.2 47 = .agg #[.int .i64 x.fr, .int .i64 (costOf p x false).a, .int .i64 (costOf p x false).b, .int .i64 (costOf p x false).c, .int .i64 (costOf p x false).d, .slice none 0 0]) ∧ (L 8 = true → σ.2 48 = .bool σ.1.b) ∧ (L 9 = true → σ.2 49 = .bool (!σ.1.b)))
        (⟨false⟩, fun k => (#[u40, u41, u42, u43, u44, u45, u46, u47, u48, u49] : Array Value).getD (k - 40) undef) rfl ?_ ?_ ?_
       ·exact ⟨(fun _ => G0), (fun h => by cases h), (fun h => by cases h), (fun h => by cases h), (fun h => by cases h), (fun h => by cases h), (fun h => by cases h), (fun h => by cases h), (fun h => by cases h), (fun h => by cases h), (fun h => by cases h), (fun h => by cases h)⟩
       ·refine ⟨?_, ?_, ?_, ?_, ?_, ?_, ?_, ?_, ?_, ?_, trivial⟩
        ·rintro L ⟨gh, s⟩ W hu hd hdn ⟨gJ, gY, f0, f1, f2, f3, f4, f5, f6, f7, f8, f9⟩ K Q hK
         try dsimp only at gJ gY f0 f1 f2 f3 f4 f5 f6 f7 f8 f9 ⊢
         have HF := Lib.hid (And.intro gJ (And.intro gY (And.intro f0 (And.intro f1 (And.intro f2 (And.intro f3 (And.intro f4 (And.intro f5 (And.intro f6 (And.intro f7 (And.intro f8 f9)))))))))))
         clear f9 f8 f7 f6 f5 f4 f3 f2 f1 f0 gY gJ hd
         try simp only
         gi_wp2
         obtain ⟨gJ, gY, f0, f1, f2, f3, f4, f5, f6, f7, f8, f9⟩ := HF.out
         exact hK (gh, (upd s 40 (.func (.yield l) #[] #[]))) _ ⟨gJ, gY, (fun _ => rfl), f1, f2, f3, f4, f5, f6, f7, f8, f9⟩
        ·rintro L ⟨gh, s⟩ W hu hd hdn ⟨gJ, gY, f0, f1, f2, f3, f4, f5, f6, f7, f8, f9⟩ K Q hK
         try dsimp only at gJ gY f0 f1 f2 f3 f4 f5 f6 f7 f8 f9 ⊢
         have h8 : L 8 = false := by
          cases hc : L 8 with
          | false => rfl
          | true => exact hdn.no 8 1 hc rfl hu
         have G := (gJ h8).2.2.1
         have c0 : W.cell? ⟨wr.heap.size, 0, none⟩ = some (.int .i64 x.id) := G.cell 0
         have c1 : W.cell? ⟨wr.heap.size, 1, none⟩ = some (.int .i64 x.fr) := G.cell 1
         have c2 : W.cell? ⟨wr.heap.size, 2, none⟩ = some (.int .i64 x.to) := G.cell 2
         have c3 : W.cell? ⟨wr.heap.size, 3, none⟩ = some (.int .i64 x.steps) := G.cell 3
         have c4 : W.cell? ⟨wr.heap.size, 4, none⟩ = some (.int .i64 x.paces) := G.cell 4
         clear G
         have HF := Lib.hid (And.intro gJ (And.intro gY (And.intro f0 (And.intro f1 (And.intro f2 (And.intro f3 (And.intro f4 (And.intro f5 (And.intro f6 (And.intro f7 (And.intro f8 f9)))))))))))
         clear f9 f8 f7 f6 f5 f4 f3 f2 f1 f0 gY gJ hd
         try simp only
         gi_wp2
         obtain ⟨gJ, gY, f0, f1, f2, f3, f4, f5, f6, f7, f8, f9⟩ := HF.out
         exact hK (gh, (upd s 41 (.agg #[.int .i64 x.id, .int .i64 x.fr, .int .i64 x.to, .int .i64 x.steps, .int .i64 x.paces]))) _ ⟨gJ, gY, f0, (fun _ => rfl), f2, f3, f4, f5, f6, f7, f8, f9⟩
        ·rintro L ⟨gh, s⟩ W hu hd hdn ⟨gJ, gY, f0, f1, f2, f3, f4, f5, f6, f7, f8, f9⟩ K Q hK
         try dsimp only at gJ gY f0 f1 f2 f3 f4 f5 f6 f7 f8 f9 ⊢
         have HF := Lib.hid (And.intro gJ (And.intro gY (And.intro f0 (And.intro f1 (And.intro f2 (And.intro f3 (And.intro f4 (And.intro f5 (And.intro f6 (And.intro f7 (And.intro f8 f9)))))))))))
         clear f9 f8 f7 f6 f5 f4 f3 f2 f1 f0 gY gJ hd
         try simp only
         gi_wp2
         obtain ⟨gJ, gY, f0, f1, f2, f3, f4, f5, f6, f7, f8, f9⟩ := HF.out
         exact hK (gh, (upd s 42 (.pointer (some ⟨wr.heap.size, 1, none⟩)))) _ ⟨gJ, gY, f0, f1, (fun _ => rfl), f3, f4, f5, f6, f7, f8, f9⟩
        ·rintro L ⟨gh, s⟩ W hu hd hdn ⟨gJ, gY, f0, f1, f2, f3, f4, f5, f6, f7, f8, f9⟩ K Q hK
         try dsimp only at gJ gY f0 f1 f2 f3 f4 f5 f6 f7 f8 f9 ⊢
         have e2 := f2 (hd.at_ 2 rfl)
         have h8 : L 8 = false := by
          cases hc : L 8 with
          | false => rfl
          | true => exact hdn.no 7 3 (hdn.at_ 8 7 hc rfl) rfl hu
         have G := (gJ h8).2.2.1
         have c0 : W.cell? ⟨wr.heap.size, 0, none⟩ = some (.int .i64 x.id) := G.cell 0
         have c1 : W.cell? ⟨wr.heap.size, 1, none⟩ = some (.int .i64 x.fr) := G.cell 1
         have c2 : W.cell? ⟨wr.heap.size, 2, none⟩ = some (.int .i64 x.to) := G.cell 2
         have c3 : W.cell? ⟨wr.heap.size, 3, none⟩ = some (.int .i64 x.steps) := G.cell 3
         have c4 : W.cell? ⟨wr.heap.size, 4, none⟩ = some (.int .i64 x.paces) := G.cell 4
         clear G
         have HF := Lib.hid (And.intro gJ (And.intro gY (And.intro f0 (And.intro f1 (And.intro f2 (And.intro f3 (And.intro f4 (And.intro f5 (And.intro f6 (And.intro f7 (And.intro f8 f9)))))))))))
         clear f9 f8 f7 f6 f5 f4 f3 f2 f1 f0 gY gJ hd
         try simp only at e2 ⊢
         gi_wp2
         obtain ⟨gJ, gY, f0, f1, f2, f3, f4, f5, f6, f7, f8, f9⟩ := HF.out
         exact hK (gh, (upd (upd s 42 (.pointer (some ⟨wr.heap.size, 1, none⟩))) 43 (.int .i64 x.fr))) _ ⟨gJ, gY, f0, f1, (fun _ => rfl), (fun _ => rfl), f4, f5, f6, f7, f8, f9⟩
        ·rintro L ⟨gh, s⟩ W hu hd hdn ⟨gJ, gY, f0, f1, f2, f3, f4, f5, f6, f7, f8, f9⟩ K Q hK
         try dsimp only at gJ gY f0 f1 f2 f3 f4 f5 f6 f7 f8 f9 ⊢
         have h8 : L 8 = false := by
          cases hc : L 8 with
          | false => rfl
          | true => exact hdn.no 6 4 (hdn.at_ 8 6 hc rfl) rfl hu
         have G := (gJ h8).2.1.chart
         have c0 : W.cell? ⟨g1, 0, none⟩ = some (.slice A nn c) := G.cell 0
         have c1 : W.cell? ⟨g1, 1, none⟩ = some (.slice (some ⟨b, off, none⟩) m d) := G.cell 1
         have c2 : W.cell? ⟨g1, 2, none⟩ = some (.bool true) := G.cell 2
         have c3 : W.cell? ⟨g1, 3, none⟩ = some (.func (.func F) #[] C) := G.cell 3
         clear G
         have HF := Lib.hid (And.intro gJ (And.intro gY (And.intro f0 (And.intro f1 (And.intro f2 (And.intro f3 (And.intro f4 (And.intro f5 (And.intro f6 (And.intro f7 (And.intro f8 f9)))))))))))
         clear f9 f8 f7 f6 f5 f4 f3 f2 f1 f0 gY gJ hd
         try simp only
         gi_wp2
         obtain ⟨gJ, gY, f0, f1, f2, f3, f4, f5, f6, f7, f8, f9⟩ := HF.out
         exact hK (gh, (upd s 44 (.agg #[.slice A nn c, .slice (some ⟨b, off, none⟩) m d, .bool true, .func (.func F) #[] C]))) _ ⟨gJ, gY, f0, f1, f2, f3, (fun _ => rfl), f5, f6, f7, f8, f9⟩
        ·rintro L ⟨gh, s⟩ W hu hd hdn ⟨gJ, gY, f0, f1, f2, f3, f4, f5, f6, f7, f8, f9⟩ K Q hK
         try dsimp only at gJ gY f0 f1 f2 f3 f4 f5 f6 f7 f8 f9 ⊢
         have h8 : L 8 = false := by
          cases hc : L 8 with
          | false => rfl
          | true => exact hdn.no 6 5 (hdn.at_ 8 6 hc rfl) rfl hu
         have G := (gJ h8).2.2.1
         have c0 : W.cell? ⟨wr.heap.size, 0, none⟩ = some (.int .i64 x.id) := G.cell 0
         have c1 : W.cell? ⟨wr.heap.size, 1, none⟩ = some (.int .i64 x.fr) := G.cell 1
         have c2 : W.cell? ⟨wr.heap.size, 2, none⟩ = some (.int .i64 x.to) := G.cell 2
         have c3 : W.cell? ⟨wr.heap.size, 3, none⟩ = some (.int .i64 x.steps) := G.cell 3
         have c4 : W.cell? ⟨wr.heap.size, 4, none⟩ = some (.int .i64 x.paces) := G.cell 4
         clear G
         have HF := Lib.hid (And.intro gJ (And.intro gY (And.intro f0 (And.intro f1 (And.intro f2 (And.intro f3 (And.intro f4 (And.intro f5 (And.intro f6 (And.intro f7 (And.intro f8 f9)))))))))))
         clear f9 f8 f7 f6 f5 f4 f3 f2 f1 f0 gY gJ hd
         try simp only
         gi_wp2
         obtain ⟨gJ, gY, f0, f1, f2, f3, f4, f5, f6, f7, f8, f9⟩ := HF.out
         exact hK (gh, (upd s 45 (.agg #[.int .i64 x.id, .int .i64 x.fr, .int .i64 x.to, .int .i64 x.steps, .int .i64 x.paces]))) _ ⟨gJ, gY, f0, f1, f2, f3, f4, (fun _ => rfl), f6, f7, f8, f9⟩
        ·rintro L ⟨gh, s⟩ W hu hd hdn ⟨gJ, gY, f0, f1, f2, f3, f4, f5, f6, f7, f8, f9⟩ K Q hK
         try dsimp only at gJ gY f0 f1 f2 f3 f4 f5 f6 f7 f8 f9 ⊢
         have e4 := f4 (hd.at_ 4 rfl)
         have e5 := f5 (hd.at_ 5 rfl)
         have h8 : L 8 = false := by
          cases hc : L 8 with
          | false => rfl
          | true => exact hdn.no 8 6 hc rfl hu
         have GJ := Lib.hid (gJ h8)
         have HF := Lib.hid (And.intro gJ (And.intro gY (And.intro f0 (And.intro f1 (And.intro f2 (And.intro f3 (And.intro f4 (And.intro f5 (And.intro f6 (And.intro f7 (And.intro f8 f9)))))))))))
         clear f9 f8 f7 f6 f5 f4 f3 f2 f1 f0 gY gJ hd
         try simp only at e4 e5 ⊢
         gi_wp2
         refine ⟨trivial, fun _ => by omega, (callsIn_wide.2 (cost_any A nn c (some ⟨b, off, none⟩) m d true F C p x false W (HP.out.below GJ.out.2.1.below) HFX.out)).mono ?_⟩
         rintro e W2 ⟨rfl, hb⟩
         gi_wp2
         obtain ⟨gJ, gY, f0, f1, f2, f3, f4, f5, f6, f7, f8, f9⟩ := HF.out
         exact hK (gh, (upd (upd (upd s 44 (.agg #[.slice A nn c, .slice (some ⟨b, off, none⟩) m d, .bool true, .func (.func F) #[] C])) 45 (.agg #[.int .i64 x.id, .int .i64 x.fr, .int .i64 x.to, .int .i64 x.steps, .int .i64 x.paces])) 46 (.agg #[.int .i64 (costOf p x false).a, .int .i64 (costOf p x false).b, .int .i64 (costOf p x false).c, .int .i64 (costOf p x false).d]))) _ ⟨(fun _ => ⟨HJ.out _ _ _ none GJ.out.1 (grown_of_below hb none) (fun r e => by cases e), GJ.out.2.1.grow hb, GJ.out.2.2.1.below hb GJ.out.2.2.1.lt, Nat.le_trans GJ.out.2.2.2 hb.size⟩), (fun h => hdn.no 8 6 h rfl hu), f0, f1, f2, f3, (fun _ => rfl), (fun _ => rfl), (fun _ => rfl), f7, f8, f9⟩
        ·rintro L ⟨gh, s⟩ W hu hd hdn ⟨gJ, gY, f0, f1, f2, f3, f4, f5, f6, f7, f8, f9⟩ K Q hK
         try dsimp only at gJ gY f0 f1 f2 f3 f4 f5 f6 f7 f8 f9 ⊢
         have e3 := f3 (hd.at_ 3 rfl)
         have e6 := f6 (hd.at_ 6 rfl)
         have HF := Lib.hid (And.intro gJ (And.intro gY (And.intro f0 (And.intro f1 (And.intro f2 (And.intro f3 (And.intro f4 (And.intro f5 (And.intro f6 (And.intro f7 (And.intro f8 f9)))))))))))
         clear f9 f8 f7 f6 f5 f4 f3 f2 f1 f0 gY gJ hd
         try simp only at e3 e6 ⊢
         gi_wp2
         obtain ⟨gJ, gY, f0, f1, f2, f3, f4, f5, f6, f7, f8, f9⟩ := HF.out
         exact hK (gh, (upd (upd (upd s 43 (.int .i64 x.fr)) 46 (.agg #[.int .i64 (costOf p x false).a, .int .i64 (costOf p x false).b, .int .i64 (costOf p x false).c, .int .i64 (costOf p x false).d])) 47 (.agg #[.int .i64 x.fr, .int .i64 (costOf p x false).a, .int .i64 (costOf p x false).b, .int .i64 (costOf p x false).c, .int .i64 (costOf p x false).d, .slice none 0 0]))) _ ⟨gJ, gY, f0, f1, f2, (fun _ => rfl), f4, f5, (fun _ => rfl), (fun _ => rfl), f8, f9⟩
        ·rintro L ⟨gh, s⟩ W hu hd hdn ⟨gJ, gY, f0, f1, f2, f3, f4, f5, f6, f7, f8, f9⟩ K Q hK
         try dsimp only at gJ gY f0 f1 f2 f3 f4 f5 f6 f7 f8 f9 ⊢
         have e0 := f0 (hd.at_ 0 rfl)
         have e1 := f1 (hd.at_ 1 rfl)
         have e7 := f7 (hd.at_ 7 rfl)
         have h8 : L 8 = false := hu
         have GJ := Lib.hid (gJ h8)
         obtain ⟨fn, tmps, assign, body, hy, hR⟩ := HYY.out W GJ.out.1
         have HF := Lib.hid (And.intro gJ (And.intro gY (And.intro f0 (And.intro f1 (And.intro f2 (And.intro f3 (And.intro f4 (And.intro f5 (And.intro f6 (And.intro f7 (And.intro f8 f9)))))))))))
         clear f9 f8 f7 f6 f5 f4 f3 f2 f1 f0 gY gJ hd
         try simp only at e0 e1 e7 ⊢
         gi_wp2
         refine ⟨fun _ => by omega, hR.mono ?_⟩
         rintro e W3 hor
         obtain ⟨bb, rfl, hor2⟩ := yieldedB hor
         clear hor
         gi_wp2
         obtain ⟨gJ, gY, f0, f1, f2, f3, f4, f5, f6, f7, f8, f9⟩ := HF.out
         exact hK ((⟨bb⟩ : YGh), (upd (upd (upd (upd s 40 (.func (.yield l) #[] #[])) 41 (.agg #[.int .i64 x.id, .int .i64 x.fr, .int .i64 x.to, .int .i64 x.steps, .int .i64 x.paces])) 47 (.agg #[.int .i64 x.fr, .int .i64 (costOf p x false).a, .int .i64 (costOf p x false).b, .int .i64 (costOf p x false).c, .int .i64 (costOf p x false).d, .slice none 0 0])) 48 (.bool bb))) _ ⟨(fun h => by cases h), (fun _ => by
      rcases hor2 with ⟨h1, h2, h3⟩ | ⟨h1, h2⟩
      ·exact .inl ⟨h1, h2, GJ.out.2.1.kept h3, Nat.le_trans GJ.out.2.2.2 h3.1.size⟩
      ·exact .inr ⟨h1, h2⟩), (fun _ => rfl), (fun _ => rfl), f2, f3, f4, f5, f6, (fun _ => rfl), (fun _ => rfl), (fun h => hdn.no 9 8 h rfl hu)⟩
        ·rintro L ⟨gh, s⟩ W hu hd hdn ⟨gJ, gY, f0, f1, f2, f3, f4, f5, f6, f7, f8, f9⟩ K Q hK
         try dsimp only at gJ gY f0 f1 f2 f3 f4 f5 f6 f7 f8 f9 ⊢
         have e8 := f8 (hd.at_ 8 rfl)
         have HF := Lib.hid (And.intro gJ (And.intro gY (And.intro f0 (And.intro f1 (And.intro f2 (And.intro f3 (And.intro f4 (And.intro f5 (And.intro f6 (And.intro f7 (And.intro f8 f9)))))))))))
         clear f9 f8 f7 f6 f5 f4 f3 f2 f1 f0 gY gJ hd
         try simp only at e8 ⊢
         gi_wp2
         obtain ⟨gJ, gY, f0, f1, f2, f3, f4, f5, f6, f7, f8, f9⟩ := HF.out
         exact hK (gh, (upd (upd s 48 (.bool gh.b)) 49 (.bool (!gh.b)))) _ ⟨gJ, gY, f0, f1, f2, f3, f4, f5, f6, f7, (fun _ => rfl), (fun _ => rfl)⟩
       ·rintro L ⟨gh, s⟩ W hall ⟨gJ, gY, f0, f1, f2, f3, f4, f5, f6, f7, f8, f9⟩
        have e9 := f9 (hall 9 (by decide))
        have GY := gY (hall 8 (by decide))
        clear hall gJ gY f0 f1 f2 f3 f4 f5 f6 f7 f8 f9
        rcases GY with ⟨hb, hj, hi, hsz'⟩ | ⟨hb, hjx⟩
        ·rw [hb] at e9
         have HJ3 := Lib.hid hj
         have HI3 := Lib.hid hi
         clear hj hi hb
         replace e9 : s 49 = .bool false := e9
         simp only
         rw [e9]
         gi_wp2
         go_roundw
         case rel => exact ⟨k + 1, by omega, by go_num, HJ3.out, HI3.out, by omega⟩
         case measure => simp [intOf]; omega
        ·rw [hb] at e9
         have HJ3 := Lib.hid hjx
         clear hjx hb
         replace e9 : s 49 = .bool true := e9
         simp only
         rw [e9]
         gi_wp2
         unfold Exit.noGoto
         refine bodyPost_ret (results_none rfl _ _ _) rfl ?_
         exact ⟨⟨_, rfl⟩, .inr ⟨_, upto_pre _ _ _ _ _, HJ3.out⟩⟩
     ·have hto' : (place == x.to) = false := by simpa using hto
      have HTO := Lib.hid hto
      clear hto
      rcases (show dk = false ∨ dk = true ∧ ¬ 0 < x.steps by cases dk <;> simp_all) with rfl | ⟨rfl, hst⟩
      all_goals
       clear hskip
       gi_wp2
       go_roundw
       case rel => exact ⟨k + 1, by omega, by go_num, by rw [upto_none HX.out (by rw [HLD.out, if_neg (fun e => HFR.out e.symm), if_neg (fun e => HTO.out e.symm)])]; exact HJ.out _ _ _ none HJs.out (World.grownBy_alloc _ _ none) (fun r e => by cases e), HI.out.grow ((Below.refl _ _).alloc (Nat.le_refl _) _), by simp; omega⟩
       case measure => simp [intOf]; omega
  ·obtain rfl : k = m := by omega
   gi_wp2
   unfold Exit.noGoto
   go_end0
   exact ⟨⟨_, rfl⟩, .inl ⟨_, upto_all _ _ _ _ (by have := HLm.out; omega), HJs.out⟩⟩
end Go.Proofs.YtjdgdeiedkickaaDoor
/- climb.chart.from hands back its iterator. -/
namespace Go.Proofs.YtjdgdeiedkickaaDoor
open Go.RowKit Go.Shelf

set_option maxRecDepth 100000 in
set_option maxHeartbeats 2000000 in
/-- The iterator's value, and its two boxes. -/
theorem from_any (T : Array Value) (v0 v1 v2 v3 : Value) (hT : T = #[v0, v1, v2, v3]) (place : Int) (w : World) :
  Calls Tryd.prog 57 #[.agg T, .int .i64 place] w fun e w' =>
   e = .returned (.func (.func 78) #[] #[.pointer (some ⟨w.heap.size, 0, none⟩), .pointer (some ⟨w.heap.size + 1, 0, none⟩)]) ∧ w' = (w.alloc (.cells T 111)).alloc (.cells #[.int .i64 place] 3) := by
 subst hT
 go_enter Tryd.func57, Tryd.ntmps57
 go_wp2_with fail
 go_ret
 exact ⟨rfl, rfl⟩

theorem from_in (w : World) (T : Array Value) (place : Int) : FromIn w w.heap.size (w.heap.size + 1) T place ((w.alloc (.cells T 111)).alloc (.cells #[.int .i64 place] 3)) := by
 have Y := Blk.new (w.alloc (.cells T 111)) 3 #[.int .i64 place]
 rw [World.size_alloc] at Y
 exact ⟨(Blk.new w _ _).alloc _, Y, ((Below.refl _ _).alloc (Nat.le_refl _) _).alloc (by simp) _⟩
theorem FromIn.base {w w1 W : World} {g1 g2 : Nat} {T : Array Value} {place : Int} (h : FromIn w g1 g2 T place W) (hb : Below w1.heap.size w1 w) : FromIn w1 g1 g2 T place W := ⟨h.chart, h.place, hb.trans (h.below.mono hb.size)⟩
end Go.Proofs.YtjdgdeiedkickaaDoor
/- A list of links followed from a place: plain Lean. -/
namespace Go.Proofs.YtjdgdeiedkickaaDoor

/-- By which link of an Id, where to, and what it costs. -/
def stepF (t : Town) (p : Price) (u : Int) (id : Int) : Option (Int × Cost) := t.links.findSome? fun x => if x.id = id then leads false p x u else none
/-- A list followed. -/
def walkS (t : Town) (p : Price) : Int × Cost → List Int → Option (Int × Cost)
 | s, [] => some s
 | s, i :: r => match stepF t p s.1 i with
  | none => none
  | some (m, c) => walkS t p (m, addC s.2 c) r
/-- The same, up to 40 links. -/
def walkedF (t : Town) (p : Price) (u : Int) (l : List Int) : Option (Int × Cost) := if 40 < l.length then none else walkS t p (u, zeroC) l

section
variable {t : Town} {p : Price} {u m : Int} {c d : Cost} {i : Int} {l r : List Int}
theorem stepF_leads {x : Link} (hi : t.links.Pairwise fun x y => x.id < y.id) (hx : x ∈ t.links) : stepF t p u x.id = leads false p x u := by
 unfold stepF
 generalize t.links = ls at hi hx
 induction ls with
 | nil => cases hx
 | cons y ys ih =>
  rw [List.pairwise_cons] at hi
  rw [List.findSome?_cons]
  rcases List.mem_cons.1 hx with rfl | hx
  ·rw [if_pos rfl]
   cases h : leads false p x u with
   | some r => rfl
   | none =>
    simp only
    rw [List.findSome?_eq_none_iff]
    intro z hz
    have := hi.1 z hz
    rw [if_neg (by omega)]
  ·have := hi.1 x hx
   rw [if_neg (by omega)]
   exact ih hi.2 hx
theorem stepF_some (h : stepF t p u i = some (m, c)) : ∃ x ∈ t.links, x.id = i ∧ leads false p x u = some (m, c) := by
 unfold stepF at h
 obtain ⟨x, hx, h1⟩ := List.exists_of_findSome?_eq_some h
 split at h1
 ·rename_i e; exact ⟨x, hx, e, h1⟩
 ·cases h1
end
end Go.Proofs.YtjdgdeiedkickaaDoor
/- climb.chart.walked: a list of links followed. -/
namespace Go.Proofs.YtjdgdeiedkickaaDoor
open Go.RowKit Go.Shelf
attribute [local go_sem] Oper.semAt_some

theorem fromK_t {n₀ g1 g2 : Nat} {A B C : World} (h : FromK n₀ g1 g2 A B) (k : FromK n₀ g1 g2 B C) : FromK n₀ g1 g2 A C := ⟨h.1.trans k.1, k.2.1.trans h.2.1, k.2.2.trans h.2.2⟩
theorem fromK_b {n₀ g1 g2 : Nat} {w : World} (h1 : g1 < w.heap.size) (h2 : g2 < w.heap.size) (h0 : n₀ ≤ w.heap.size) (W : World) (l : Nat) (o o' : Obj) (hl : w.heap.size ≤ l) (h : W.heap[l]? = some o) (hc : o.isCells = false) (hw : o.isWalk = false) : FromK n₀ g1 g2 W (W.putObj l o') :=
 ⟨belowK_b h0 W l o o' hl h hc hw, World.putObj_heap_other (by omega), World.putObj_heap_other (by omega)⟩
theorem fromK_below {n₀ g1 g2 : Nat} {W W' : World} (hb : Below W.heap.size W W') (h1 : g1 < W.heap.size) (h2 : g2 < W.heap.size) (h0 : n₀ ≤ W.heap.size) : FromK n₀ g1 g2 W W' := ⟨hb.mono h0, hb.block _ h1, hb.block _ h2⟩

/-- What comes out of a place by a link of an Id. -/
theorem stepF_none {t : Town} {p : Price} {u i : Int} (h : ∀ y ∈ outs false p u t.links, y.1.id ≠ i) : stepF t p u i = none := by
 unfold stepF
 rw [List.findSome?_eq_none_iff]
 intro x hx
 by_cases e : x.id = i
 ·rw [if_pos e]
  cases hl : leads false p x u with
  | none => rfl
  | some r => exact absurd e (h (x, r.1, r.2) (by unfold outs; rw [List.mem_filterMap]; exact ⟨x, hx, by rw [hl]; rfl⟩))
 ·rw [if_neg e]
theorem outs_leads {dk : Bool} {p : Price} {u : Int} {l : List Link} {y : Link × Int × Cost} (h : y ∈ outs dk p u l) : y.1 ∈ l ∧ leads dk p y.1 u = some (y.2.1, y.2.2) := by
 unfold outs at h
 rw [List.mem_filterMap] at h
 obtain ⟨x, hx, h1⟩ := h
 cases hl : leads dk p x u with
 | none => rw [hl] at h1; cases h1
 | some r => rw [hl] at h1; cases h1; exact ⟨hx, hl⟩

/-- At work: so many links are over. -/
structure WalkSt (w : World) (T : Array Value) (t : Town) (p : Price) (place : Int) (l : List Int) (k : Nat) (at_ : Int) (co : Cost) (W : World) : Prop where
 bel : Below w.heap.size w W
 ch : Blk W w.heap.size 111 T
 rs : Blk W (w.heap.size + 1) 108 #[.int .i64 0, .int .i64 0, .int .i64 0, .int .i64 0, .int .i64 0, .slice none 0 0]
 wk : Blk W (w.heap.size + 1 + 1) 108 #[.int .i64 at_, .int .i64 co.a, .int .i64 co.b, .int .i64 co.c, .int .i64 co.d, .slice none 0 0]
theorem WalkSt.below {w W W' : World} {T : Array Value} {t : Town} {p : Price} {place : Int} {l : List Int} {k : Nat} {at_ : Int} {co : Cost} (h : WalkSt w T t p place l k at_ co W) (hb : Below W.heap.size W W') : WalkSt w T t p place l k at_ co W' :=
 ⟨h.bel.trans (hb.mono h.bel.size), h.ch.below hb h.ch.lt, h.rs.below hb h.rs.lt, h.wk.below hb h.wk.lt⟩
theorem WalkSt.shut {w W W' : World} {S : Nat} {T : Array Value} {t : Town} {p : Price} {place : Int} {l : List Int} {k : Nat} {at_ : Int} {co : Cost} (h : WalkSt w T t p place l k at_ co W) (hs : Shut S W W') (hS : w.heap.size ≤ S) : WalkSt w T t p place l k at_ co W' :=
 ⟨h.bel.trans (hs.below.mono hS), hs.blk h.ch, hs.blk h.rs, hs.blk h.wk⟩


theorem Marks.setCell {B : Nat} {W : World} {ds : List Deferred} (h : Marks B W ds) {g : Nat} {t : TypeId} {cs : Array Value} (hb : Blk W g t cs) (i : Nat) (v : Value) : Marks B (W.setCell ⟨g, i, none⟩ v) ds :=
 h.keep fun d hd r hr h0 => (Below.heap_setCell W ⟨g, i, none⟩ v r (by
  intro e
  have e' : r = g := e
  subst e'
  unfold Blk at hb
  rw [hb] at h0
  cases h0)).trans h0

/-- What walked hands back. -/
def WalkedOut (w : World) (r : Option (Int × Cost)) (e : Ending) (w' : World) : Prop :=
 ∃ (x : Int) (co : Cost), e = .returned (.tuple #[.agg #[.int .i64 x, .int .i64 co.a, .int .i64 co.b, .int .i64 co.c, .int .i64 co.d, .slice none 0 0], .bool r.isSome]) ∧ (∀ q, r = some q → q = (x, co)) ∧ Below w.heap.size w w'

/-- Within a round of the list. -/
structure WalkIn (w : World) (T : Array Value) (t : Town) (p : Price) (place : Int) (l : List Int) (k : Nat) (at_ : Int) (co : Cost) (id : Int) (ds : List Deferred) (B10 : Nat) (found : Bool) (S : Nat) (W : World) : Prop where
 st : WalkSt w T t p place l k at_ co W
 b10 : Blk W B10 3 #[.int .i64 id]
 b11 : Blk W (B10 + 1) 4 #[.bool found]
 marks : Marks w.heap.size W ds
 sz : S ≤ W.heap.size
section
variable {w W W' : World} {T : Array Value} {t : Town} {p : Price} {place : Int} {l : List Int} {k : Nat} {at_ : Int} {co : Cost} {id : Int} {ds : List Deferred} {B10 : Nat} {found : Bool} {S : Nat}
theorem WalkIn.below (h : WalkIn w T t p place l k at_ co id ds B10 found S W) (hb : Below W.heap.size W W') : WalkIn w T t p place l k at_ co id ds B10 found S W' :=
 ⟨h.st.below hb, h.b10.below hb h.b10.lt, h.b11.below hb h.b11.lt, h.marks.below hb, Nat.le_trans h.sz hb.size⟩
theorem WalkIn.shut (h : WalkIn w T t p place l k at_ co id ds B10 found S W) (hs : Shut S W W') (hS : w.heap.size ≤ S) (hd : ∀ d ∈ ds, ∀ r, d.target = .collected r → r < S) : WalkIn w T t p place l k at_ co id ds B10 found S W' :=
 ⟨h.st.shut hs hS, hs.blk h.b10, hs.blk h.b11, h.marks.shut hs hd, Nat.le_trans h.sz hs.below.size⟩
/-- Another place and cost laid down. -/
theorem WalkSt.put (h : WalkSt w T t p place l k at_ co W) (v : Int) (c : Cost) : WalkSt w T t p place l k v c (((((W.setCell ⟨w.heap.size + 1 + 1, 0, none⟩ (.int .i64 v)).setCell ⟨w.heap.size + 1 + 1, 1, none⟩ (.int .i64 c.a)).setCell ⟨w.heap.size + 1 + 1, 2, none⟩ (.int .i64 c.b)).setCell ⟨w.heap.size + 1 + 1, 3, none⟩ (.int .i64 c.c)).setCell ⟨w.heap.size + 1 + 1, 4, none⟩ (.int .i64 c.d)) := by
 have f : ∀ {g : Nat} {ty : TypeId} {cs : Array Value}, Blk W g ty cs → g ≠ w.heap.size + 1 + 1 → Blk (((((W.setCell ⟨w.heap.size + 1 + 1, 0, none⟩ (.int .i64 v)).setCell ⟨w.heap.size + 1 + 1, 1, none⟩ (.int .i64 c.a)).setCell ⟨w.heap.size + 1 + 1, 2, none⟩ (.int .i64 c.b)).setCell ⟨w.heap.size + 1 + 1, 3, none⟩ (.int .i64 c.c)).setCell ⟨w.heap.size + 1 + 1, 4, none⟩ (.int .i64 c.d)) g ty cs :=
  fun b hne => ((((b.far (p := ⟨w.heap.size + 1 + 1, 0, none⟩) hne _).far (p := ⟨w.heap.size + 1 + 1, 1, none⟩) hne _).far (p := ⟨w.heap.size + 1 + 1, 2, none⟩) hne _).far (p := ⟨w.heap.size + 1 + 1, 3, none⟩) hne _).far (p := ⟨w.heap.size + 1 + 1, 4, none⟩) hne _
 exact ⟨((((h.bel.setCell (p := ⟨w.heap.size + 1 + 1, 0, none⟩) (by simp; omega) _).setCell (p := ⟨w.heap.size + 1 + 1, 1, none⟩) (by simp; omega) _).setCell (p := ⟨w.heap.size + 1 + 1, 2, none⟩) (by simp; omega) _).setCell (p := ⟨w.heap.size + 1 + 1, 3, none⟩) (by simp; omega) _).setCell (p := ⟨w.heap.size + 1 + 1, 4, none⟩) (by simp; omega) _,
  f h.ch (by omega), f h.rs (by omega), ((((h.wk.set_ 0 _).set_ 1 _).set_ 2 _).set_ 3 _).set_ 4 _⟩
theorem WalkIn.put (h : WalkIn w T t p place l k at_ co id ds B10 found S W) (hB : w.heap.size + 1 + 1 < B10) (v : Int) (c : Cost) : WalkIn w T t p place l k v c id ds B10 true S ((((((W.setCell ⟨w.heap.size + 1 + 1, 0, none⟩ (.int .i64 v)).setCell ⟨w.heap.size + 1 + 1, 1, none⟩ (.int .i64 c.a)).setCell ⟨w.heap.size + 1 + 1, 2, none⟩ (.int .i64 c.b)).setCell ⟨w.heap.size + 1 + 1, 3, none⟩ (.int .i64 c.c)).setCell ⟨w.heap.size + 1 + 1, 4, none⟩ (.int .i64 c.d)).setCell ⟨B10 + 1, 0, none⟩ (.bool true)) ∧ KeepsFrom S W ((((((W.setCell ⟨w.heap.size + 1 + 1, 0, none⟩ (.int .i64 v)).setCell ⟨w.heap.size + 1 + 1, 1, none⟩ (.int .i64 c.a)).setCell ⟨w.heap.size + 1 + 1, 2, none⟩ (.int .i64 c.b)).setCell ⟨w.heap.size + 1 + 1, 3, none⟩ (.int .i64 c.c)).setCell ⟨w.heap.size + 1 + 1, 4, none⟩ (.int .i64 c.d)).setCell ⟨B10 + 1, 0, none⟩ (.bool true)) := by
 have s5 := h.st.put v c
 have f : ∀ {g : Nat} {ty : TypeId} {cs : Array Value}, Blk W g ty cs → g ≠ w.heap.size + 1 + 1 → Blk (((((W.setCell ⟨w.heap.size + 1 + 1, 0, none⟩ (.int .i64 v)).setCell ⟨w.heap.size + 1 + 1, 1, none⟩ (.int .i64 c.a)).setCell ⟨w.heap.size + 1 + 1, 2, none⟩ (.int .i64 c.b)).setCell ⟨w.heap.size + 1 + 1, 3, none⟩ (.int .i64 c.c)).setCell ⟨w.heap.size + 1 + 1, 4, none⟩ (.int .i64 c.d)) g ty cs :=
  fun b hne => ((((b.far (p := ⟨w.heap.size + 1 + 1, 0, none⟩) hne _).far (p := ⟨w.heap.size + 1 + 1, 1, none⟩) hne _).far (p := ⟨w.heap.size + 1 + 1, 2, none⟩) hne _).far (p := ⟨w.heap.size + 1 + 1, 3, none⟩) hne _).far (p := ⟨w.heap.size + 1 + 1, 4, none⟩) hne _
 have b0 := f h.b10 (by omega)
 have b1 := f h.b11 (by omega)
 have far : ∀ {g : Nat} {ty : TypeId} {cs : Array Value}, Blk (((((W.setCell ⟨w.heap.size + 1 + 1, 0, none⟩ (.int .i64 v)).setCell ⟨w.heap.size + 1 + 1, 1, none⟩ (.int .i64 c.a)).setCell ⟨w.heap.size + 1 + 1, 2, none⟩ (.int .i64 c.b)).setCell ⟨w.heap.size + 1 + 1, 3, none⟩ (.int .i64 c.c)).setCell ⟨w.heap.size + 1 + 1, 4, none⟩ (.int .i64 c.d)) g ty cs → g ≠ B10 + 1 → Blk ((((((W.setCell ⟨w.heap.size + 1 + 1, 0, none⟩ (.int .i64 v)).setCell ⟨w.heap.size + 1 + 1, 1, none⟩ (.int .i64 c.a)).setCell ⟨w.heap.size + 1 + 1, 2, none⟩ (.int .i64 c.b)).setCell ⟨w.heap.size + 1 + 1, 3, none⟩ (.int .i64 c.c)).setCell ⟨w.heap.size + 1 + 1, 4, none⟩ (.int .i64 c.d)).setCell ⟨B10 + 1, 0, none⟩ (.bool true)) g ty cs := fun b hne => b.far (p := ⟨B10 + 1, 0, none⟩) hne _
 have W1 := h.st.wk.set_ 0 (.int .i64 v)
 have W2 := W1.set_ 1 (.int .i64 c.a)
 have W3 := W2.set_ 2 (.int .i64 c.b)
 have W4 := W3.set_ 3 (.int .i64 c.c)
 have m5 := ((((h.marks.setCell h.st.wk 0 (.int .i64 v)).setCell W1 1 (.int .i64 c.a)).setCell W2 2 (.int .i64 c.b)).setCell W3 3 (.int .i64 c.c)).setCell W4 4 (.int .i64 c.d)
 refine ⟨⟨⟨s5.bel.setCell (p := ⟨B10 + 1, 0, none⟩) (by simp; omega) _, far s5.ch (by omega), far s5.rs (by omega), far s5.wk (by omega)⟩, far b0 (by omega), b1.set_ 0 _, m5.setCell b1 0 _, ?_⟩, ?_⟩
 ·have := h.sz
  simpa [World.setCell] using this
 ·exact (((((keepsFrom_setCell S W _ _).trans (keepsFrom_setCell S _ _ _)).trans (keepsFrom_setCell S _ _ _)).trans (keepsFrom_setCell S _ _ _)).trans (keepsFrom_setCell S _ _ _)).trans (keepsFrom_setCell S _ _ _)
theorem Small.walk (h : Walk t false p place at_ co l) (ht : Fine t) (hp : Fair p) (hl : l.length ≤ 40) : Small co := by
 have := h.bound ht hp
 exact ⟨by omega, by omega, by omega, by omega⟩
end

/-- A block of six cells written anew. -/
theorem ret6 {w W : World} {B g : Nat} {t : TypeId} {ds : List Deferred} {z0 z1 z2 z3 z4 z5 : Value} (R : Blk W g t #[z0, z1, z2, z3, z4, z5]) (M : Marks B W ds) (L : Below B w W) (hg : B ≤ g) (v0 v1 v2 v3 v4 v5 : Value) :
  Blk ((((((W.setCell ⟨g, 0, none⟩ v0).setCell ⟨g, 1, none⟩ v1).setCell ⟨g, 2, none⟩ v2).setCell ⟨g, 3, none⟩ v3).setCell ⟨g, 4, none⟩ v4).setCell ⟨g, 5, none⟩ v5) g t #[v0, v1, v2, v3, v4, v5] ∧
  Marks B ((((((W.setCell ⟨g, 0, none⟩ v0).setCell ⟨g, 1, none⟩ v1).setCell ⟨g, 2, none⟩ v2).setCell ⟨g, 3, none⟩ v3).setCell ⟨g, 4, none⟩ v4).setCell ⟨g, 5, none⟩ v5) ds ∧
  Below B w ((((((W.setCell ⟨g, 0, none⟩ v0).setCell ⟨g, 1, none⟩ v1).setCell ⟨g, 2, none⟩ v2).setCell ⟨g, 3, none⟩ v3).setCell ⟨g, 4, none⟩ v4).setCell ⟨g, 5, none⟩ v5) := by
 have R1 := R.set_ 0 v0
 have R2 := R1.set_ 1 v1
 have R3 := R2.set_ 2 v2
 have R4 := R3.set_ 3 v3
 have R5 := R4.set_ 4 v4
 exact ⟨R5.set_ 5 v5, (((((M.setCell R 0 v0).setCell R1 1 v1).setCell R2 2 v2).setCell R3 3 v3).setCell R4 4 v4).setCell R5 5 v5,
  (((((L.setCell (p := ⟨g, 0, none⟩) hg _).setCell (p := ⟨g, 1, none⟩) hg _).setCell (p := ⟨g, 2, none⟩) hg _).setCell (p := ⟨g, 3, none⟩) hg _).setCell (p := ⟨g, 4, none⟩) hg _).setCell (p := ⟨g, 5, none⟩) hg _⟩
theorem drop_at {α : Type} {l : List α} {k : Nat} {x : α} (h : l[k]? = some x) : l.drop k = x :: l.drop (k + 1) := by
 obtain ⟨hk, e⟩ := List.getElem?_eq_some_iff.1 h
 rw [List.drop_eq_getElem_cons hk, e]
theorem plus_cls {W : World} {l' n : Nat} (x y : Cost) (hx : Small x) (hy : Small y) {σ : Type} {of : σ → World} (h1 : ∀ z, Below W.heap.size W (of z)) (h2 : ∀ V, Below W.heap.size W V → Cls of V) (z : σ) :
  CallsIn (Fence.wide.inRound l') n Tryd.prog 58 #[.agg #[.int .i64 x.a, .int .i64 x.b, .int .i64 x.c, .int .i64 x.d], .agg #[.int .i64 y.a, .int .i64 y.b, .int .i64 y.c, .int .i64 y.d]] (of z) fun e w'' => e = .returned (.agg #[.int .i64 (addC x y).a, .int .i64 (addC x y).b, .int .i64 (addC x y).c, .int .i64 (addC x y).d]) ∧ Cls of w'' :=
 (CallsIn.inRound l' (callsIn_wide.2 (plus_any x y (of z) hx hy))).mono fun e w'' ⟨he, hb⟩ => ⟨he, h2 _ ((h1 z).trans (hb.mono (h1 z).size))⟩
theorem Small.leads {t : Town} {p : Price} {u v : Int} {x : Link} {c : Cost} (hx : x ∈ t.links) (ht : Fine t) (hp : Fair p) (h : leads false p x u = some (v, c)) : Small c := by
 have := leads_cost hx ht hp h
 exact ⟨by omega, by omega, by omega, by omega⟩

set_option maxRecDepth 100000 in
set_option maxHeartbeats 16000000 in
theorem walked_in (A : Option Addr) (nn c : Nat) (A' : Option Addr) (m d : Nat) (F : FuncId) (C : Array Value) (p : Price) (t : Town) (place : Int) (A2 : Option Addr) (k2 c2 : Nat) (l : List Int) (w : World)
  (hm : m ≤ 20) (hk2 : k2 ≤ 40) (ht : LinksAt w w.heap.size A' m t.links) (hp : PriceAt w p F C) (hfine : Fine t) (hfair : Fair p) (hr : IntsAt w w.heap.size A2 k2 l) :
  CallsIn Fence.wide 9 Tryd.prog 38 #[.agg #[.slice A nn c, .slice A' m d, .bool false, .func (.func F) #[] C], .int .i64 place, .slice A2 k2 c2] w (WalkedOut w (walkS t p (place, zeroC) l)) := by
 have HT := Lib.hid ht
 have HP := Lib.hid hp
 have HR := Lib.hid hr
 have HLl := Lib.hid hr.len
 have HFI := Lib.hid hfine
 have HFA := Lib.hid hfair
 have HF : Hid (∀ x ∈ t.links, Fit x) := Lib.hid fun x hx => ⟨hfine.steps x hx, hfine.paces x hx⟩
 have h40 : decide ((40 : Int) < (k2 : Int)) = false := by simp; omega
 clear ht hp hr hfine hfair
 refine callsIn_of_wp_marks Tryd.func38 rfl trivial ?_ rfl
 simp only [Tryd.ntmps38, List.size_toArray, List.length_cons, List.length_nil, Nat.reduceAdd, Nat.reduceSub, Array.replicate_succ, Array.replicate_zero, List.push_toArray, List.append_toArray, List.nil_append, List.cons_append]
 gi_wp2
 have S0 : WalkSt w #[.slice A nn c, .slice A' m d, .bool false, .func (.func F) #[] C] t p place l 0 place zeroC (((w.alloc (.cells #[.slice A nn c, .slice A' m d, .bool false, .func (.func F) #[] C] 111)).alloc (.cells #[.int .i64 0, .int .i64 0, .int .i64 0, .int .i64 0, .int .i64 0, .slice none 0 0] 108)).alloc (.cells #[.int .i64 place, .int .i64 0, .int .i64 0, .int .i64 0, .int .i64 0, .slice none 0 0] 108)) := by
  have Y := (Blk.new (w.alloc (.cells #[.slice A nn c, .slice A' m d, .bool false, .func (.func F) #[] C] 111)) 108 #[.int .i64 0, .int .i64 0, .int .i64 0, .int .i64 0, .int .i64 0, .slice none 0 0]).alloc (.cells #[.int .i64 place, .int .i64 0, .int .i64 0, .int .i64 0, .int .i64 0, .slice none 0 0] 108)
  have Z := Blk.new ((w.alloc (.cells #[.slice A nn c, .slice A' m d, .bool false, .func (.func F) #[] C] 111)).alloc (.cells #[.int .i64 0, .int .i64 0, .int .i64 0, .int .i64 0, .int .i64 0, .slice none 0 0] 108)) 108 #[.int .i64 place, .int .i64 0, .int .i64 0, .int .i64 0, .int .i64 0, .slice none 0 0]
  rw [World.size_alloc] at Y
  rw [World.size_alloc, World.size_alloc] at Z
  exact ⟨(((Below.refl _ _).alloc (Nat.le_refl _) _).alloc (by simp) _).alloc (by simp; omega) _, ((Blk.new w _ _).alloc _).alloc _, Y, Z⟩
 generalize (((w.alloc (.cells #[.slice A nn c, .slice A' m d, .bool false, .func (.func F) #[] C] 111)).alloc (.cells #[.int .i64 0, .int .i64 0, .int .i64 0, .int .i64 0, .int .i64 0, .slice none 0 0] 108)).alloc (.cells #[.int .i64 place, .int .i64 0, .int .i64 0, .int .i64 0, .int .i64 0, .slice none 0 0] 108)) = w0 at *
 have S0' := Lib.hid S0
 clear S0
 refine wpIn_loop (fun a W => ∃ (k : Nat) (at_ : Int) (co : Cost) (ds : List Deferred) (u10 u11 u23 u24 u25 u26 u27 u28 u29 u45 u46 u47 u48 u49 : Value), k ≤ k2 ∧ Hid (WalkSt w #[.slice A nn c, .slice A' m d, .bool false, .func (.func F) #[] C] t p place l k at_ co W ∧ Marks w.heap.size W ds ∧ Walk t false p place at_ co (l.take k) ∧ walkS t p (at_, co) (l.drop k) = walkS t p (place, zeroC) l) ∧
   a = { tmps := #[.agg #[.slice A nn c, .slice A' m d, .bool false, .func (.func F) #[] C], .int .i64 place, .slice A2 k2 c2, .pointer (some ⟨w.heap.size, 0, none⟩), undef, undef, .pointer (some ⟨w.heap.size + 1, 0, none⟩), .bool false, .pointer (some ⟨w.heap.size + 1 + 1, 0, none⟩), undef, u10, u11, undef, undef, .int .i64 place, .agg #[.int .i64 place, .int .i64 0, .int .i64 0, .int .i64 0, .int .i64 0, .slice none 0 0], .slice A2 k2 c2, .int .i64 k2, .bool false, undef, .slice A2 k2 c2, .int .i64 k2, .int .i64 k, u23, u24, u25, u26, u27, u28, u29, undef, undef, undef, undef, undef, undef, undef, undef, undef, undef, undef, undef, undef, undef, undef, u45, u46, u47, u48, u49], defers := ds })
  (fun a _ => k2 - (intOf (a.tmps.getD 22 undef)).toNat) ?_ ?_
 ·refine ⟨0, place, zeroC, [], undef, undef, undef, undef, undef, undef, undef, undef, undef, undef, undef, undef, undef, undef, Nat.zero_le _, Lib.hid ⟨S0'.out, trivial, .nil _, rfl⟩, ?_⟩
  rfl
 ·rintro a W ⟨k, at_, co, ds, u10, u11, u23, u24, u25, u26, u27, u28, u29, u45, u46, u47, u48, u49, hk, HS, rfl⟩
  have X := HS.out.1.wk
  have R := HS.out.1.rs
  have x0 := X.cell 0
  have x1 := X.cell 1
  have x2 := X.cell 2
  have x3 := X.cell 3
  have x4 := X.cell 4
  have x5 := X.cell 5
  have r0 := R.cell 0
  have r1 := R.cell 1
  have r2 := R.cell 2
  have r3 := R.cell 3
  have r4 := R.cell 4
  have r5 := R.cell 5
  have q0 := R.frozen 0
  have q1 := R.frozen 1
  have q2 := R.frozen 2
  have q3 := R.frozen 3
  have q4 := R.frozen 4
  have q5 := R.frozen 5
  by_cases hlt : k < k2
  ·obtain ⟨b, off, id, rfl, hb, hid, hcell⟩ := (HR.out.below HS.out.1.bel).cell hlt
   have hbl : b < W.heap.size := Nat.lt_of_lt_of_le hb HS.out.1.bel.size
   have c0 := HS.out.1.ch.cell 0
   have c1 := HS.out.1.ch.cell 1
   have c2' := HS.out.1.ch.cell 2
   have c3 := HS.out.1.ch.cell 3
   have lw := HS.out.1.wk.lt
   have lw0 : w.heap.size < W.heap.size := by omega
   have lw1 : w.heap.size + 1 < W.heap.size := by omega
   have HID := Lib.hid hid
   have HB := Lib.hid hb
   clear hid hb X R r0 r1 r2 r3 r4 r5 q0 q1 q2 q3 q4 q5
   gi_wp2
   refine ⟨trivial, (callsIn_wide.2 (from_any _ _ _ _ _ rfl at_ _)).mono ?_⟩
   rintro e w1 ⟨rfl, rfl⟩
   have W2B : Below w.heap.size w ((W.alloc (.cells #[.int .i64 id] 3)).alloc (.cells #[.bool false] 4)) := (HS.out.1.bel.alloc HS.out.1.bel.size _).alloc (by simp; have := HS.out.1.bel.size; omega) _
   have FI := (from_in ((W.alloc (.cells #[.int .i64 id] 3)).alloc (.cells #[.bool false] 4)) #[.slice A nn c, .slice A' m d, .bool false, .func (.func F) #[] C] at_).base W2B
   have WI : WalkIn w #[.slice A nn c, .slice A' m d, .bool false, .func (.func F) #[] C] t p place l k at_ co id ds W.heap.size false ((((W.alloc (.cells #[.int .i64 id] 3)).alloc (.cells #[.bool false] 4)).alloc (.cells #[.slice A nn c, .slice A' m d, .bool false, .func (.func F) #[] C] 111)).alloc (.cells #[.int .i64 at_] 3)).heap.size ((((W.alloc (.cells #[.int .i64 id] 3)).alloc (.cells #[.bool false] 4)).alloc (.cells #[.slice A nn c, .slice A' m d, .bool false, .func (.func F) #[] C] 111)).alloc (.cells #[.int .i64 at_] 3)) := by
    have b1 : Below W.heap.size W ((((W.alloc (.cells #[.int .i64 id] 3)).alloc (.cells #[.bool false] 4)).alloc (.cells #[.slice A nn c, .slice A' m d, .bool false, .func (.func F) #[] C] 111)).alloc (.cells #[.int .i64 at_] 3)) := ((((Below.refl _ _).alloc (Nat.le_refl _) _).alloc (by simp) _).alloc (by simp; omega) _).alloc (by simp; omega) _
    have Y := ((Blk.new (W.alloc (.cells #[.int .i64 id] 3)) 4 #[.bool false]).alloc (.cells #[.slice A nn c, .slice A' m d, .bool false, .func (.func F) #[] C] 111)).alloc (.cells #[.int .i64 at_] 3)
    rw [World.size_alloc] at Y
    exact ⟨HS.out.1.below b1, (((Blk.new W _ _).alloc _).alloc _).alloc _, Y, HS.out.2.1.below b1, Nat.le_refl _⟩
   have g1l := FI.chart.lt
   have g2l := FI.place.lt
   have hdl : ∀ dd ∈ ds, ∀ r, dd.target = .collected r → r < ((((W.alloc (.cells #[.int .i64 id] 3)).alloc (.cells #[.bool false] 4)).alloc (.cells #[.slice A nn c, .slice A' m d, .bool false, .func (.func F) #[] C] 111)).alloc (.cells #[.int .i64 at_] 3)).heap.size := fun dd hd r hr => by
    have := HS.out.2.1.lt dd hd r hr
    simp
    omega
   rw [World.size_alloc, World.size_alloc] at FI g1l g2l
   have HSZ : Hid (w.heap.size ≤ W.heap.size ∧ ((((W.alloc (.cells #[.int .i64 id] 3)).alloc (.cells #[.bool false] 4)).alloc (.cells #[.slice A nn c, .slice A' m d, .bool false, .func (.func F) #[] C] 111)).alloc (.cells #[.int .i64 at_] 3)).heap.size = W.heap.size + 4) := Lib.hid ⟨HS.out.1.bel.size, by simp⟩
   gi_wp2
   generalize ((((W.alloc (.cells #[.int .i64 id] 3)).alloc (.cells #[.bool false] 4)).alloc (.cells #[.slice A nn c, .slice A' m d, .bool false, .func (.func F) #[] C] 111)).alloc (.cells #[.int .i64 at_] 3)) = W4 at *
   have hws : w.heap.size ≤ W4.heap.size := FI.below.size
   refine wpIn_rangeFunc_ownH rfl (by omega) (gf := 78) (lb := #[.pointer (some ⟨W.heap.size + 1 + 1, 0, none⟩), .pointer (some ⟨W.heap.size + 1 + 1 + 1, 0, none⟩)]) rfl trivial (enters_of Tryd.func78 (by kernel_rfl) rfl)
    (from1_stops 8 (by omega) A nn c A' m d false F C p t at_ (W.heap.size + 1 + 1) (W.heap.size + 1 + 1 + 1) w W4 hm HT.out HP.out HF.out FI) (fun h k => fromK_t h k) (fromK_b g1l g2l hws) (Below.refl _ _) (fun _ => rfl)
    (fun pre Wr => WalkIn w #[.slice A nn c, .slice A' m d, .bool false, .func (.func F) #[] C] t p place l k at_ co id ds W.heap.size false W4.heap.size Wr ∧ ∀ y ∈ pre, y.1.1.id ≠ id)
    (fun cd pre Wr => cd = .exit 2 ∧ ∃ y : Out false p at_ t.links, y.1.1.id = id ∧ WalkIn w #[.slice A nn c, .slice A' m d, .bool false, .func (.func F) #[] C] t p place l k y.1.2.1 (addC co y.1.2.2) id ds W.heap.size true W4.heap.size Wr)
    (ownFrom_shut (fun s Wr h => h.1.sz) (fun s Wr Wr' h hs => ⟨h.1.shut hs hws hdl, h.2⟩))
    (fun cd => ownFrom_shut (fun s Wr h => by obtain ⟨_, y, _, h⟩ := h; exact h.sz) (fun s Wr Wr' h hs => by obtain ⟨h0, y, h1, h⟩ := h; exact ⟨h0, y, h1, h.shut hs hws hdl⟩))
    ⟨WI, by simp⟩
    (fun y a' Wr => ∃ Bx, W4.heap.size ≤ Bx ∧ Blk Wr Bx 58 #[.int .i64 y.1.1.id, .int .i64 y.1.1.fr, .int .i64 y.1.1.to, .int .i64 y.1.1.steps, .int .i64 y.1.1.paces] ∧ Blk Wr (Bx + 1) 108 #[.int .i64 y.1.2.1, .int .i64 y.1.2.2.a, .int .i64 y.1.2.2.b, .int .i64 y.1.2.2.c, .int .i64 y.1.2.2.d, .slice none 0 0] ∧
     a' = { tmps := #[.agg #[.slice A nn c, .slice A' m d, .bool false, .func (.func F) #[] C], .int .i64 place, .slice (some ⟨b, off, none⟩) k2 c2, .pointer (some ⟨w.heap.size, 0, none⟩), undef, undef, .pointer (some ⟨w.heap.size + 1, 0, none⟩), .bool false, .pointer (some ⟨w.heap.size + 1 + 1, 0, none⟩), undef, .pointer (some ⟨W.heap.size, 0, none⟩), .pointer (some ⟨W.heap.size + 1, 0, none⟩), .pointer (some ⟨Bx, 0, none⟩), .pointer (some ⟨Bx + 1, 0, none⟩), .int .i64 place, .agg #[.int .i64 place, .int .i64 0, .int .i64 0, .int .i64 0, .int .i64 0, .slice none 0 0], .slice (some ⟨b, off, none⟩) k2 c2, .int .i64 k2, .bool false, undef, .slice (some ⟨b, off, none⟩) k2 c2, .int .i64 k2, .int .i64 k, .bool true, .pointer (some ⟨b, off + k, none⟩), .int .i64 id, .agg #[.slice A nn c, .slice A' m d, .bool false, .func (.func F) #[] C], .pointer (some ⟨w.heap.size + 1 + 1, 0, none⟩), .int .i64 at_, .func (.func 78) #[] #[.pointer (some ⟨W.heap.size + 1 + 1, 0, none⟩), .pointer (some ⟨W.heap.size + 1 + 1 + 1, 0, none⟩)], linkV y.1.1, .agg #[.int .i64 y.1.2.1, .int .i64 y.1.2.2.a, .int .i64 y.1.2.2.b, .int .i64 y.1.2.2.c, .int .i64 y.1.2.2.d, .slice none 0 0], undef, undef, undef, undef, undef, undef, undef, undef, undef, undef, undef, undef, undef, u45, u46, u47, u48, u49], defers := [] })
    (fun y a' => ownFrom_shut (fun _ Wr h => by obtain ⟨Bx, h1, h2, _⟩ := h; exact Nat.le_trans h1 (Nat.le_of_lt h2.lt)) (fun _ Wr Wr' h hs => by obtain ⟨Bx, h1, h2, h3, h4⟩ := h; exact ⟨Bx, h1, hs.blk h2, hs.blk h3, h4⟩)) ?assign ?body ?done ?stop
   case assign =>
    rintro l' pre ⟨⟨x, v, cx⟩, hy⟩ Wr K hI hK
    unfold Out.enc
    gi_wp2
    have hb : Below Wr.heap.size Wr ((Wr.alloc (.cells #[.int .i64 x.id, .int .i64 x.fr, .int .i64 x.to, .int .i64 x.steps, .int .i64 x.paces] 58)).alloc (.cells #[.int .i64 v, .int .i64 cx.a, .int .i64 cx.b, .int .i64 cx.c, .int .i64 cx.d, .slice none 0 0] 108)) := ((Below.refl _ _).alloc (Nat.le_refl _) _).alloc (by simp) _
    have Y := Blk.new (Wr.alloc (.cells #[.int .i64 x.id, .int .i64 x.fr, .int .i64 x.to, .int .i64 x.steps, .int .i64 x.paces] 58)) 108 #[.int .i64 v, .int .i64 cx.a, .int .i64 cx.b, .int .i64 cx.c, .int .i64 cx.d, .slice none 0 0]
    rw [World.size_alloc] at Y
    have hsz := hI.1.sz
    exact hK _ _ (keepsFrom_below hb) (fromK_below hb (by omega) (by omega) (by omega)) ⟨hI.1.below hb, hI.2⟩ ⟨Wr.heap.size, hsz, (Blk.new Wr _ _).alloc _, Y, rfl⟩
   case body =>
    rintro l' pre ⟨⟨x, v, cx⟩, hy⟩ a' Wr hl ⟨r, hrr⟩ ⟨hI, hno⟩ ⟨Bx, hBx, bX, bY, rfl⟩ hlen
    dsimp only at bX bY ⊢
    have HN := Lib.hid hno
    have HY := Lib.hid hy
    have HI := Lib.hid hI
    have HBX := Lib.hid bX
    have HBY := Lib.hid bY
    have i0 := bX.cell 0
    have i1 := hI.b10.cell 0
    have sz := hI.sz
    have szx := bX.lt
    have szy := bY.lt
    clear hno hI bX bY hrr
    by_cases hxi : x.id = id
    ·have hxi' : (x.id == id) = true := by simpa using hxi
     have HXI := Lib.hid hxi
     clear hxi
     gi_wp2
     have HSM : Hid (Small co ∧ Small cx) := Lib.hid ⟨Small.walk HS.out.2.2.1 HFI.out HFA.out (by rw [List.length_take]; omega), Small.leads (outs_leads hy).1 HFI.out HFA.out (outs_leads hy).2⟩
     refine cls_open (C := fun V => Below Wr.heap.size Wr V) (Below.refl _ Wr) fun σ hσ of hof hcls => ?_
     have HOF := Lib.hid hof
     have HCL := Lib.hid hcls
     clear hof hcls
     have y0 : ∀ z, (of z).cell? ⟨Bx + 1, 0, none⟩ = some (.int .i64 v) := fun z => (HBY.out.below (HOF.out z) szy).cell 0
     have y1 : ∀ z, (of z).cell? ⟨Bx + 1, 1, none⟩ = some (.int .i64 cx.a) := fun z => (HBY.out.below (HOF.out z) szy).cell 1
     have y2 : ∀ z, (of z).cell? ⟨Bx + 1, 2, none⟩ = some (.int .i64 cx.b) := fun z => (HBY.out.below (HOF.out z) szy).cell 2
     have y3 : ∀ z, (of z).cell? ⟨Bx + 1, 3, none⟩ = some (.int .i64 cx.c) := fun z => (HBY.out.below (HOF.out z) szy).cell 3
     have y4 : ∀ z, (of z).cell? ⟨Bx + 1, 4, none⟩ = some (.int .i64 cx.d) := fun z => (HBY.out.below (HOF.out z) szy).cell 4
     have u0 : ∀ z, (of z).cell? ⟨w.heap.size + 1 + 1, 0, none⟩ = some (.int .i64 at_) := fun z => (HI.out.st.wk.below (HOF.out z) HI.out.st.wk.lt).cell 0
     have u1 : ∀ z, (of z).cell? ⟨w.heap.size + 1 + 1, 1, none⟩ = some (.int .i64 co.a) := fun z => (HI.out.st.wk.below (HOF.out z) HI.out.st.wk.lt).cell 1
     have u2 : ∀ z, (of z).cell? ⟨w.heap.size + 1 + 1, 2, none⟩ = some (.int .i64 co.b) := fun z => (HI.out.st.wk.below (HOF.out z) HI.out.st.wk.lt).cell 2
     have u3 : ∀ z, (of z).cell? ⟨w.heap.size + 1 + 1, 3, none⟩ = some (.int .i64 co.c) := fun z => (HI.out.st.wk.below (HOF.out z) HI.out.st.wk.lt).cell 3
     have u4 : ∀ z, (of z).cell? ⟨w.heap.size + 1 + 1, 4, none⟩ = some (.int .i64 co.d) := fun z => (HI.out.st.wk.below (HOF.out z) HI.out.st.wk.lt).cell 4
     have hfw : ∀ f, Fence.wide.fn f := fun _ => trivial
     refine wpIn_region_tail (Cls of) 8 (by kernel_rfl) (by kernel_rfl) (by kernel_rfl) (HCL.out _ (below_drewN (Below.refl _ _) 1)) ?_
     simp only [List.take_succ_cons, List.take_zero, List.drop_succ_cons, List.drop_zero]
     repeat (gi_big_quiet_step (exact plus_cls co cx HSM.out.1 HSM.out.2 HOF.out HCL.out _))
     refine wpQuietIn_nil ?_
     rintro _ ⟨z, rfl⟩
     have hz := HOF.out z
     clear y0 y1 y2 y3 y4 u0 u1 u2 u3 u4
     have HIz := Lib.hid (HI.out.below hz)
     have HZ := Lib.hid hz
     clear hz
     generalize of z = Wz at *
     have X := HIz.out.st.wk
     have u0 := X.cell 0
     have u1 := X.cell 1
     have u2 := X.cell 2
     have u3 := X.cell 3
     have u4 := X.cell 4
     have v0 := X.frozen 0
     have v1 := X.frozen 1
     have v2 := X.frozen 2
     have v3 := X.frozen 3
     have v4 := X.frozen 4
     have b0 := HIz.out.b11.cell 0
     have b1 := HIz.out.b11.frozen 0
     have hne : ¬ (W.heap.size + 1 = w.heap.size + 1 + 1) := by omega
     have hne' : ¬ (w.heap.size + 1 + 1 = W.heap.size + 1) := by omega
     have hne2 : ¬ (W.heap.size = w.heap.size + 1) := by omega
     have hne3 : ¬ (w.heap.size + 1 = W.heap.size) := by omega
     clear X
     gi_wp2
     have hput := HIz.out.put lw v (addC co cx)
     exact ⟨(keepsFrom_below HZ.out).trans hput.2, rfl, ⟨(x, v, cx), hy⟩, HXI.out, hput.1⟩
    ·have hxi' : (x.id == id) = false := by simpa using hxi
     have HXI := Lib.hid hxi
     clear hxi
     gi_wp2
     exact ⟨KeepsFrom.refl _ _, ⟨Below.refl _ _, rfl, rfl⟩, HI.out, fun y hy' => by
      rcases List.mem_append.1 hy' with h | h
      ·exact HN.out y h
      ·rw [List.mem_singleton.1 h]; exact HXI.out⟩
   case done =>
    rintro D ys Wr hD rfl ⟨hI, hno⟩ hK
    have X := hI.st.wk
    have R := hI.st.rs
    have x0 := X.cell 0
    have x1 := X.cell 1
    have x2 := X.cell 2
    have x3 := X.cell 3
    have x4 := X.cell 4
    have x5 := X.cell 5
    have r0 := R.cell 0
    have r1 := R.cell 1
    have r2 := R.cell 2
    have r3 := R.cell 3
    have r4 := R.cell 4
    have r5 := R.cell 5
    have q0 := R.frozen 0
    have q1 := R.frozen 1
    have q2 := R.frozen 2
    have q3 := R.frozen 3
    have q4 := R.frozen 4
    have q5 := R.frozen 5
    have f0 := hI.b11.cell 0
    have HI := Lib.hid hI
    have HN := Lib.hid hno
    have HK := Lib.hid hK
    have HR6 := Lib.hid (ret6 R (hI.marks.more (Nat.le_trans hws hD) hK (fun dd hd r hr => Nat.lt_of_lt_of_le (hdl dd hd r hr) hD) #[]) hI.st.bel (by omega) (.int .i64 at_) (.int .i64 co.a) (.int .i64 co.b) (.int .i64 co.c) (.int .i64 co.d) (.slice none 0 0))
    clear X R hI hno hK
    gi_wp2
    refine leaves_marks _ _ HR6.out.2.1 ?_
    intro w' hs
    have RW := hs.blk HR6.out.1
    have y0 := RW.cell 0
    have y1 := RW.cell 1
    have y2 := RW.cell 2
    have y3 := RW.cell 3
    have y4 := RW.cell 4
    have y5 := RW.cell 5
    refine ⟨.tuple #[.agg #[.int .i64 at_, .int .i64 co.a, .int .i64 co.b, .int .i64 co.c, .int .i64 co.d, .slice none 0 0], .bool false], ?_, ?_⟩
    ·simp [results, Tryd.results38, go_sem, y0, y1, y2, y3, y4, y5]
    ·have hn : walkS t p (place, zeroC) l = none := by
      rw [← HS.out.2.2.2, drop_at HID.out]
      simp only [walkS]
      rw [stepF_none (fun y hy => HN.out ⟨y, hy⟩ (by unfold allOut; simp))]
     rw [hn]
     exact ⟨at_, co, rfl, (fun q hq => by cases hq), HR6.out.2.2.trans hs.below⟩
   case stop =>
    rintro D cd pre Wr hD _ ⟨rfl, ⟨⟨x, v, cx⟩, hy⟩, hxi, hI⟩ hK
    dsimp only at hxi hI
    have HI := Lib.hid hI
    have HXI := Lib.hid hxi
    have HK := Lib.hid hK
    have f0 := hI.b11.cell 0
    clear hxi hI hK
    gi_wp2
    have e1 : ((k + 1 : Nat) : Int) = (k : Int) + 1 := by omega
    have hxl := outs_leads hy
    dsimp only at hxl
    have hst : stepF t p at_ id = some (v, cx) := by rw [← HXI.out, stepF_leads HFI.out.ids hxl.1]; exact hxl.2
    have hkl : k < l.length := by rw [HLl.out]; exact hlt
    refine ⟨⟨k + 1, v, addC co cx, _, _, _, _, _, _, _, _, _, _, _, _, _, _, _, by omega, Lib.hid ⟨⟨HI.out.st.bel, HI.out.st.ch, HI.out.st.rs, HI.out.st.wk⟩, HI.out.marks.more (Nat.le_trans hws hD) HK.out (fun dd hd r hr => Nat.lt_of_lt_of_le (hdl dd hd r hr) hD) #[], ?_, ?_⟩, by rw [e1]⟩, ?_⟩
    ·have h := HS.out.2.2.1.snoc hxl.1 hxl.2
     rw [List.take_add_one, HID.out, ← HXI.out]
     exact h
    ·rw [← HS.out.2.2.2, drop_at HID.out]
     simp only [walkS, hst]
    ·simp [intOf]; omega
  ·obtain rfl : k = k2 := by omega
   have HR6 := Lib.hid (ret6 R HS.out.2.1 HS.out.1.bel (by omega) (.int .i64 at_) (.int .i64 co.a) (.int .i64 co.b) (.int .i64 co.c) (.int .i64 co.d) (.slice none 0 0))
   clear X R
   gi_wp2
   refine leaves_marks _ _ HR6.out.2.1 ?_
   intro w' hs
   have RW := hs.blk HR6.out.1
   have y0 := RW.cell 0
   have y1 := RW.cell 1
   have y2 := RW.cell 2
   have y3 := RW.cell 3
   have y4 := RW.cell 4
   have y5 := RW.cell 5
   refine ⟨.tuple #[.agg #[.int .i64 at_, .int .i64 co.a, .int .i64 co.b, .int .i64 co.c, .int .i64 co.d, .slice none 0 0], .bool true], ?_, ?_⟩
   ·simp [results, Tryd.results38, go_sem, y0, y1, y2, y3, y4, y5]
   ·have hd : l.drop k = [] := List.drop_of_length_le (by rw [HLl.out]; exact Nat.le_refl _)
    have hw := HS.out.2.2.2
    rw [hd] at hw
    exact ⟨at_, co, by rw [← hw]; rfl, fun q hq => by rw [← hw] at hq; exact (Option.some.inj hq).symm, HR6.out.2.2.trans hs.below⟩

theorem walked_any (A : Option Addr) (nn c : Nat) (A' : Option Addr) (m d : Nat) (F : FuncId) (C : Array Value) (p : Price) (t : Town) (place : Int) (A2 : Option Addr) (k2 c2 : Nat) (l : List Int) (w : World)
  (hm : m ≤ 20) (hk2 : k2 ≤ 40) (ht : LinksAt w w.heap.size A' m t.links) (hp : PriceAt w p F C) (hfine : Fine t) (hfair : Fair p) (hr : IntsAt w w.heap.size A2 k2 l) :
  Calls Tryd.prog 38 #[.agg #[.slice A nn c, .slice A' m d, .bool false, .func (.func F) #[] C], .int .i64 place, .slice A2 k2 c2] w (WalkedOut w (walkedF t p place l)) := by
 have := callsIn_wide.1 (walked_in A nn c A' m d F C p t place A2 k2 c2 l w hm hk2 ht hp hfine hfair hr)
 unfold walkedF
 rwa [if_neg (by rw [hr.len]; omega)]

set_option maxRecDepth 100000 in
set_option maxHeartbeats 4000000 in
theorem walked_long (A : Option Addr) (nn c : Nat) (A' : Option Addr) (m d : Nat) (F : FuncId) (C : Array Value) (p : Price) (t : Town) (place : Int) (A2 : Option Addr) (k2 c2 : Nat) (l : List Int) (w : World)
  (hk2 : 40 < k2) (hk : k2 ≤ 1000) (hr : IntsAt w w.heap.size A2 k2 l) :
  Calls Tryd.prog 38 #[.agg #[.slice A nn c, .slice A' m d, .bool false, .func (.func F) #[] C], .int .i64 place, .slice A2 k2 c2] w (WalkedOut w (walkedF t p place l)) := by
 have HL := Lib.hid hr.len
 have h40 : decide ((40 : Int) < (k2 : Int)) = true := by simp; omega
 clear hr
 go_enter Tryd.func38, Tryd.ntmps38
 go_wp2_with fail
 have hn : walkedF t p place l = none := by unfold walkedF; rw [if_pos (by rw [HL.out]; exact hk2)]
 rw [hn]
 refine bodyPost_ret (v := .tuple #[.agg #[.int .i64 place, .int .i64 0, .int .i64 0, .int .i64 0, .int .i64 0, .slice none 0 0], .bool false]) (by simp [results, Tryd.results38, go_sem]) rfl ⟨place, ⟨0, 0, 0, 0⟩, rfl, (fun q hq => by cases hq), (((Below.refl _ _).alloc (Nat.le_refl _) _).alloc (by simp) _).alloc (by simp; omega) _⟩
end Go.Proofs.YtjdgdeiedkickaaDoor
/- All walks of a map, one by one: the function handed to climb.first in climb.chart.all. -/
namespace Go.Proofs.YtjdgdeiedkickaaDoor
open Go.RowKit Go.Shelf
attribute [local go_sem] Oper.semAt_some

def okI (x : Int) : Prop := (Lit.int .i64 x).wf = true
abbrev WkMap (w : World) (r : Nat) (m : List (Int × Wk)) : Prop := MapIs (Value.int .i64) Wk.val okI w r m
abbrev zeroWk : Value := .agg #[.int .i64 0, .int .i64 0, .int .i64 0, .int .i64 0, .int .i64 0, .slice none 0 0]
abbrev WkOf (vs : List Wk) := { y : Wk // y ∈ vs }
def WkOf.enc {vs : List Wk} (y : WkOf vs) : Array Value := #[y.1.val]

end Go.Proofs.YtjdgdeiedkickaaDoor
/- climb.first over the walks of a map: the first one by climb.before. -/
namespace Go.Proofs.YtjdgdeiedkickaaDoor
open Go.RowKit Go.Shelf
attribute [local go_sem] Oper.semAt_some

/-- The first one so far. -/
def BestOf (pre : List Wk) (v : Value) (f : Bool) : Prop := (pre = [] ∧ v = zeroWk ∧ f = false) ∨ ∃ x ∈ pre, v = x.val ∧ f = true ∧ ∀ y ∈ pre, cmpW x.cost x.links y.cost y.links ≤ 0
theorem eqC_iff (x y : Cost) : eqC x y = true ↔ x = y := by
 obtain ⟨a, b, c, d⟩ := x
 obtain ⟨a', b', c', d'⟩ := y
 simp [eqC, and_assoc]
theorem cmpW_key (x : Cost) (l : List Int) (y : Cost) (m : List Int) : cmpW x l y m = cmpL (key x l) (key y m) := by
 unfold cmpW
 rw [cmp_key]
 by_cases h : eqC x y = true
 ·rw [if_pos h]
  have := (eqC_iff x y).1 h
  subst this
  rw [if_pos (cmpL_refl _)]
 ·rw [if_neg h, if_neg (fun h0 => h ((eqC_iff x y).2 (list_eq h0)))]
  rfl
theorem BestOf.keep {pre : List Wk} {x y : Wk} (hx : x ∈ pre) (h : ∀ z ∈ pre, cmpW x.cost x.links z.cost z.links ≤ 0) (hy : ¬ cmpW y.cost y.links x.cost x.links < 0) : BestOf (pre ++ [y]) x.val true := by
 refine .inr ⟨x, by simp [hx], rfl, rfl, fun z hz => ?_⟩
 rcases List.mem_append.1 hz with hz | hz
 ·exact h z hz
 ·rw [List.mem_singleton.1 hz]
  rw [cmpW_key] at hy ⊢
  have := cmpL_swap (key y.cost y.links) (key x.cost x.links)
  omega
theorem BestOf.take {pre : List Wk} {x y : Wk} (h : ∀ z ∈ pre, cmpW x.cost x.links z.cost z.links ≤ 0) (hy : cmpW y.cost y.links x.cost x.links < 0) : BestOf (pre ++ [y]) y.val true := by
 refine .inr ⟨y, by simp, rfl, rfl, fun z hz => ?_⟩
 rcases List.mem_append.1 hz with hz | hz
 ·have h1 := h z hz
  rw [cmpW_key] at h1 hy ⊢
  exact cmpL_trans (by omega) h1
 ·rw [List.mem_singleton.1 hz, cmpW_key, cmpL_refl]; omega
theorem BestOf.one (y : Wk) : BestOf [y] y.val true := .inr ⟨y, by simp, rfl, rfl, fun z hz => by rw [List.mem_singleton.1 hz, cmpW_key, cmpL_refl]; omega⟩

theorem Wk.at_.below {w w' : World} {B : Nat} {x : Wk} (h : x.at_ w B) (hb : Below B w w') (hB : B ≤ w'.heap.size) : x.at_ w' w'.heap.size := (IntsAt.below h hb).more hB

theorem Marks.drew {B : Nat} {w : World} {ds : List Deferred} (h : Marks B w ds) : Marks B w.drew ds := h.keep fun _ _ _ _ h0 => h0

section
variable {w W W' : World} {v : Value} {f : Bool} {S : Nat}
end

end Go.Proofs.YtjdgdeiedkickaaDoor
/- A round of the search, by the links that have come out: plain Lean. -/
namespace Go.Proofs.YtjdgdeiedkickaaDoor

/-- Within the round of place a: the links D are done. -/
structure DRound (t : Town) (dk : Bool) (p : Price) (s a : Int) (cw : Cost) (lw : List Int) (D : List (Link × Int × Cost)) (S O : Int → Option (Cost × List Int)) : Prop where
 disj : ∀ v, O v ≠ none → S v = none
 sFirst : ∀ v r, S v = some r → First t dk p s v (some r)
 oWalk : ∀ v c l, O v = some (c, l) → Walk t dk p s v c l
 cross : ∀ u c l, S u = some (c, l) → u ≠ a → ∀ x ∈ t.links, ∀ n d, leads dk p x u = some (n, d) → S n ≠ none ∨ ∃ c' l', O n = some (c', l') ∧ cmpL (key c' l') (key (addC c d) (l ++ [x.id])) ≤ 0
 now : ∀ y ∈ D, S y.2.1 ≠ none ∨ ∃ c' l', O y.2.1 = some (c', l') ∧ cmpL (key c' l') (key (addC cw y.2.2) (lw ++ [y.1.id])) ≤ 0
 start : S s ≠ none
 here : S a = some (cw, lw)

section
variable {t : Town} {dk : Bool} {p : Price} {s a : Int} {cw : Cost} {lw : List Int} {D : List (Link × Int × Cost)} {S O : Int → Option (Cost × List Int)}
theorem DRound.skip (h : DRound t dk p s a cw lw D S O) {y : Link × Int × Cost} (hno : S y.2.1 ≠ none ∨ ∃ c' l', O y.2.1 = some (c', l') ∧ cmpL (key c' l') (key (addC cw y.2.2) (lw ++ [y.1.id])) ≤ 0) : DRound t dk p s a cw lw (D ++ [y]) S O := by
 refine ⟨h.disj, h.sFirst, h.oWalk, h.cross, fun z hz => ?_, h.start, h.here⟩
 rcases List.mem_append.1 hz with hz | hz
 ·exact h.now z hz
 ·rw [List.mem_singleton.1 hz]; exact hno
theorem DRound.take (h : DRound t dk p s a cw lw D S O) {y : Link × Int × Cost} (hy : y ∈ outs dk p a t.links) (hn : S y.2.1 = none) (hbe : ∀ c' l', O y.2.1 = some (c', l') → cmpL (key (addC cw y.2.2) (lw ++ [y.1.id])) (key c' l') ≤ 0) :
  DRound t dk p s a cw lw (D ++ [y]) S (setF O y.2.1 (some (addC cw y.2.2, lw ++ [y.1.id]))) := by
 obtain ⟨hxm, hl⟩ := outs_leads hy
 have hw : Walk t dk p s y.2.1 (addC cw y.2.2) (lw ++ [y.1.id]) := (h.sFirst a _ h.here).1.snoc hxm hl
 have old : ∀ {m : Int} {K : List Int}, (S m ≠ none ∨ ∃ c' l', O m = some (c', l') ∧ cmpL (key c' l') K ≤ 0) → S m ≠ none ∨ ∃ c' l', setF O y.2.1 (some (addC cw y.2.2, lw ++ [y.1.id])) m = some (c', l') ∧ cmpL (key c' l') K ≤ 0 := by
  intro m K h1
  rcases h1 with h1 | ⟨c', l', h1, h2⟩
  ·exact .inl h1
  ·by_cases e : m = y.2.1
   ·subst e
    exact .inr ⟨_, _, setF_same _ _ _, cmpL_trans (hbe _ _ h1) h2⟩
   ·exact .inr ⟨c', l', by rw [setF_other _ _ e]; exact h1, h2⟩
 refine ⟨?_, h.sFirst, ?_, ?_, ?_, h.start, h.here⟩
 ·intro v hv
  by_cases e : v = y.2.1
  ·subst e; exact hn
  ·rw [setF_other _ _ e] at hv; exact h.disj v hv
 ·intro v c' l' hr
  by_cases e : v = y.2.1
  ·subst e; rw [setF_same] at hr; cases hr; exact hw
  ·rw [setF_other _ _ e] at hr; exact h.oWalk v _ _ hr
 ·intro u c' l' hu hne z hz m d hl'
  exact old (h.cross u c' l' hu hne z hz m d hl')
 ·intro z hz
  rcases List.mem_append.1 hz with hz | hz
  ·exact old (h.now z hz)
  ·rw [List.mem_singleton.1 hz]
   exact .inr ⟨_, _, setF_same _ _ _, by rw [cmpL_refl]; omega⟩
end
end Go.Proofs.YtjdgdeiedkickaaDoor
/- climb.ids, climb.less. -/
namespace Go.Proofs.YtjdgdeiedkickaaDoor
open Go.RowKit

theorem ints_of_own {w : World} {base n cap B : Nat} {e : TypeId} {A : Option Addr} {l : List Int} (h : Own w base e 1 A n cap (l.map (Value.int .i64))) (hB : w.heap.size ≤ B) : IntsAt w B A n l := h.reads hB
/-- One int in a new block. -/
theorem one_int {W : World} {g : Nat} {x : Int} {B : Nat} (hB : g < B) (h : W.cell? ⟨g, 0, none⟩ = some (.int .i64 x)) : Reads W B 1 (some ⟨g, 0, none⟩) 1 ([x].map (Value.int .i64)) :=
 ⟨rfl, fun _ => ⟨_, rfl, hB, fun j u hu => by
  match j, hu with
  | 0, hu => simp at hu; rw [← hu]; simpa [Addr.add] using h⟩⟩

end Go.Proofs.YtjdgdeiedkickaaDoor
/- climb.chart.all: the first walks from a place to all others. -/
namespace Go.Proofs.YtjdgdeiedkickaaDoor
open Go.RowKit Go.Shelf
attribute [local go_sem] Oper.semAt_some

/-- What is right about the walks of a map. -/
structure WkOk (W : World) (p : Int × Wk) : Prop where
 to : p.2.to = p.1
 ok : okI p.1
 len : p.2.n = p.2.links.length
 short : p.2.n ≤ 9
 at_ : p.2.at_ W W.heap.size
 typ : ∀ a, p.2.A = some a → ∃ cs, Blk W a.block 3 cs
 cap : p.2.n ≤ p.2.cap
theorem WkOk.below {W W' : World} {p : Int × Wk} (h : WkOk W p) (hb : Below W.heap.size W W') : WkOk W' p := ⟨h.to, h.ok, h.len, h.short, h.at_.below hb hb.size, fun a ha => by obtain ⟨cs, h1⟩ := h.typ a ha; exact ⟨cs, h1.below hb h1.lt⟩, h.cap⟩
/-- Blocks that lay stay but for some maps and one box: what reads ints, stays. -/
theorem ints_keep {W W' : World} {B n : Nat} {A : Option Addr} {l : List Int} (h : IntsAt W B A n l) (hk : ∀ (b : Nat) cs t fr, W.heap[b]? = some (.cells cs t fr) → b < B → W'.heap[b]? = some (.cells cs t fr)) : IntsAt W' B A n l := by
 refine ⟨h.1, fun hn => ?_⟩
 obtain ⟨ad, e, hb, hc⟩ := h.2 hn
 refine ⟨ad, e, hb, fun j u hu => ?_⟩
 have h1 := hc j u hu
 obtain ⟨o, ho, hcell⟩ := cells_of_cell h1
 rw [← h1]
 refine World.cell?_of_block ?_
 rw [ho]
 cases o <;> simp [Obj.isCells] at hcell
 exact hk _ _ _ _ ho (by rw [block_of_add]; exact hb)

structure AllSt (w : World) (BS : Nat) (T : Array Value) (ms mo : List (Int × Wk)) (W : World) : Prop where
 bel : Below w.heap.size w W
 ch : Blk W w.heap.size 111 T
 bs : Blk W BS 173 #[.map (some (w.heap.size + 1))]
 bo : Blk W (BS + 1) 173 #[.map (some (w.heap.size + 1 + 1))]
 mapS : WkMap W (w.heap.size + 1) ms
 mapO : WkMap W (w.heap.size + 1 + 1) mo
 oks : ∀ p ∈ ms, WkOk W p
 oko : ∀ p ∈ mo, WkOk W p
section
variable {w W W' : World} {BS : Nat} {T : Array Value} {ms mo : List (Int × Wk)}
theorem AllSt.below (h : AllSt w BS T ms mo W) (hb : Below W.heap.size W W') : AllSt w BS T ms mo W' :=
 ⟨h.bel.trans (hb.mono h.bel.size), h.ch.below hb h.ch.lt, h.bs.below hb h.bs.lt, h.bo.below hb h.bo.lt, h.mapS.below hb h.mapS.lt, h.mapO.below hb h.mapO.lt, fun p hp => (h.oks p hp).below hb, fun p hp => (h.oko p hp).below hb⟩
theorem Blk.grownMap {W W' : World} {g r : Nat} {t : TypeId} {cs : Array Value} (h : Blk W g t cs) (hg : W.grownBy W' (some r)) (hr : ∃ es cl, W.heap[r]? = some (.map es cl)) : Blk W' g t cs :=
 h.grown hg (fun e => by
  obtain ⟨es, cl, he⟩ := hr
  cases e
  unfold Blk at h
  rw [he] at h
  cases h)
/-- A turn of a box of another type. -/
theorem WkOk.grownBox {W W' : World} {p : Int × Wk} {g : Nat} {cs0 : Array Value} (h : WkOk W p) (hg : W.grownBy W' (some g)) (hb0 : Blk W g 108 cs0) : WkOk W' p := by
 have far : ∀ a, p.2.A = some a → a.block ≠ g := fun a ha e => by
  obtain ⟨cs, h1⟩ := h.typ a ha
  rw [e] at h1
  unfold Blk at h1 hb0
  rw [h1] at hb0
  simp at hb0
 exact ⟨h.to, h.ok, h.len, h.short, (Reads.grown h.at_ hg (Nat.le_refl _) (fun a ha e => far a ha (Option.some.inj e))).more hg.size, fun a ha => by
  obtain ⟨cs, h1⟩ := h.typ a ha
  exact ⟨cs, h1.grown hg (fun e => far a ha (Option.some.inj e))⟩, h.cap⟩
/-- A turn of a map: everything else lies as it lay. -/
theorem WkOk.grown {W W' : World} {p : Int × Wk} {r : Nat} (h : WkOk W p) (hg : W.grownBy W' (some r)) (hr : ∃ es cl, W.heap[r]? = some (.map es cl)) : WkOk W' p :=
 ⟨h.to, h.ok, h.len, h.short, (ints_keep h.at_ (fun b cs t fr hb _ => (hg.block b (Array.getElem?_eq_some_iff.1 hb).1 (fun e => by
  obtain ⟨es, cl, he⟩ := hr
  cases e
  rw [he] at hb
  cases hb)).trans hb)).more hg.size, fun a ha => by obtain ⟨cs, h1⟩ := h.typ a ha; exact ⟨cs, h1.grownMap hg hr⟩, h.cap⟩
theorem MapIs.form {w : World} {r : Nat} {m : List (Int × Wk)} (h : WkMap w r m) : ∃ es cl, w.heap[r]? = some (.map es cl) := by
 obtain ⟨es, cl, h, _⟩ := h
 exact ⟨es, cl, h⟩
theorem AllSt.shut {S : Nat} (h : AllSt w BS T ms mo W) (hs : Shut S W W') (h1 : w.heap.size + 1 + 1 < S) : AllSt w BS T ms mo W' :=
 have keep : ∀ p : Int × Wk, WkOk W p → WkOk W' p := fun p hp => ⟨hp.to, hp.ok, hp.len, hp.short, (ints_keep hp.at_ (fun b cs t fr hb _ => hs.cells b cs t fr hb)).more hs.below.size, fun a ha => by obtain ⟨cs, h1⟩ := hp.typ a ha; exact ⟨cs, hs.blk h1⟩, hp.cap⟩
 ⟨h.bel.trans (hs.below.mono (by omega)), hs.blk h.ch, hs.blk h.bs, hs.blk h.bo, h.mapS.below hs.below (by omega), h.mapO.below hs.below (by omega), fun p hp => keep p (h.oks p hp), fun p hp => keep p (h.oko p hp)⟩
end

/-- What a round must keep, both. -/
def KF (S n₀ g1 g2 : Nat) (W W' : World) : Prop := KeepsFrom S W W' ∧ FromK n₀ g1 g2 W W'
section
variable {S n₀ g1 g2 : Nat} {W W' W2 : World}
theorem KF.trans (h : KF S n₀ g1 g2 W W') (k : KF S n₀ g1 g2 W' W2) : KF S n₀ g1 g2 W W2 := ⟨h.1.trans k.1, fromK_t h.2 k.2⟩
theorem KF.below (hb : Below W.heap.size W W') (h1 : g1 < W.heap.size) (h2 : g2 < W.heap.size) (h0 : n₀ ≤ W.heap.size) : KF S n₀ g1 g2 W W' := ⟨keepsFrom_below hb, fromK_below hb h1 h2 h0⟩
theorem KF.box {g : Nat} {ty : TypeId} {cs0 : Array Value} (hg : W.grownBy W' (some g)) (hb0 : Blk W g ty cs0) (h0 : n₀ ≤ g) (h1 : g1 < g) (h2 : g2 < g) : KF S n₀ g1 g2 W W' := by
 have hlt := hb0.lt
 refine ⟨(KeepsOthers.of_grownBy hg (fun j o e ho => by cases e; unfold Blk at hb0; rw [hb0] at ho; cases ho; rfl)).from S, below_of_grown hg (fun k e => by cases e; exact h0) (by omega), ?_, ?_⟩
 ·exact hg.block g1 (by omega) (fun e => by cases e; omega)
 ·exact hg.block g2 (by omega) (fun e => by cases e; omega)
theorem KF.map {r : Nat} (hg : W.grownBy W' (some r)) (hr : r < S) (h0 : n₀ ≤ r) (hn : n₀ ≤ W.heap.size) (h1 : g1 < W.heap.size) (h2 : g2 < W.heap.size) (e1 : g1 ≠ r) (e2 : g2 ≠ r) : KF S n₀ g1 g2 W W' :=
 ⟨KeepsFrom.of_grownBy hg (fun j e => by cases e; exact hr), below_of_grown hg (fun k e => by cases e; exact h0) hn, hg.block g1 h1 (fun e => e1 (Option.some.inj e)), hg.block g2 h2 (fun e => e2 (Option.some.inj e))⟩
end

theorem WkOk.new {W : World} {base cap : Nat} {A : Option Addr} {l : List Int} {v i : Int} {c : Cost} {m : Nat} (h : Own W base 3 1 A (m + 1) cap ((l ++ [i]).map (Value.int .i64))) (hl : m = l.length) (hm : m ≤ 8) (hv : okI v) : WkOk W (v, ⟨v, c, l ++ [i], A, m + 1, cap⟩) :=
 ⟨rfl, hv, by simp [hl], by show m + 1 ≤ 9; omega, ints_of_own h (Nat.le_refl _), fun a ha => by
  rcases h.form with ⟨e, _⟩ | ⟨g, cur, e, _, hb, _⟩
  ·rw [show A = some a from ha] at e; cases e
  ·rw [show A = some a from ha] at e; cases e; exact ⟨cur, hb⟩, h.cap_le.1⟩

theorem Small.any {c : Cost} (h : 0 ≤ c.a ∧ c.a ≤ 125000 ∧ 0 ≤ c.b ∧ c.b ≤ 500 ∧ 1 ≤ c.c ∧ c.c ≤ 2000 ∧ c.d = 1) : Small c := ⟨by omega, by omega, by omega, by omega⟩
theorem own_row {w : World} {base n cap size k : Nat} {e : TypeId} {A : Option Addr} {xs : List Value} (h : Own w base e size A n cap xs) (hk : A.map (·.block) = some k) : base ≤ k := by
 cases A with
 | none => cases hk
 | some a => cases hk; exact (h.lt rfl).1

theorem Marks.grownMap {B r : Nat} {W W' : World} {ds : List Deferred} (h : Marks B W ds) (hg : W.grownBy W' (some r)) (hr : ∃ es cl, W.heap[r]? = some (.map es cl)) : Marks B W' ds :=
 h.keep fun d hd k hk h0 => (hg.block k (Array.getElem?_eq_some_iff.1 h0).1 (fun e => by
  obtain ⟨es, cl, he⟩ := hr
  cases e
  rw [he] at h0
  cases h0)).trans h0

/-- Within a round: the current walk in its box. -/
structure AllIn (w : World) (BS : Nat) (T : Array Value) (ms mo : List (Int × Wk)) (x : Wk) (B7 : Nat) (ds : List Deferred) (S : Nat) (W : World) : Prop where
 st : AllSt w BS T ms mo W
 b7 : Blk W B7 108 #[.int .i64 x.to, .int .i64 x.cost.a, .int .i64 x.cost.b, .int .i64 x.cost.c, .int .i64 x.cost.d, .slice x.A x.n x.cap]
 xat : IntsAt W B7 x.A x.n x.links
 marks : Marks w.heap.size W ds
 sz : S ≤ W.heap.size
section
variable {w W W' : World} {BS : Nat} {T : Array Value} {ms mo : List (Int × Wk)} {x : Wk} {B7 S : Nat} {ds : List Deferred}
theorem AllIn.below (h : AllIn w BS T ms mo x B7 ds S W) (hb : Below W.heap.size W W') : AllIn w BS T ms mo x B7 ds S W' :=
 ⟨h.st.below hb, h.b7.below hb h.b7.lt, h.xat.below (hb.mono (Nat.le_of_lt h.b7.lt)), h.marks.below hb, Nat.le_trans h.sz hb.size⟩
theorem AllIn.shut (h : AllIn w BS T ms mo x B7 ds S W) (hs : Shut S W W') (h1 : w.heap.size + 1 + 1 < S) (hd : ∀ d ∈ ds, ∀ r, d.target = .collected r → r < S) : AllIn w BS T ms mo x B7 ds S W' :=
 ⟨h.st.shut hs h1, hs.blk h.b7, ints_keep h.xat (fun b cs t fr hb _ => hs.cells b cs t fr hb), h.marks.shut hs hd, Nat.le_trans h.sz hs.below.size⟩
end
section
variable {w W W' : World} {BS : Nat} {T : Array Value} {ms mo : List (Int × Wk)} {x : Wk} {B7 S : Nat} {ds : List Deferred}
theorem AllIn.box {g : Nat} {cs0 : Array Value} (h : AllIn w BS T ms mo x B7 ds S W) (hg : W.grownBy W' (some g)) (hb0 : Blk W g 108 cs0) (hw : w.heap.size + 1 + 1 < g) (hS : BS + 1 < g) (hB : B7 < g) : AllIn w BS T ms mo x B7 ds S W' :=
 ⟨⟨h.st.bel.grown hg h.st.bel.size (fun k e => by cases e; omega), h.st.ch.grown hg (fun e => by cases e; omega), h.st.bs.grown hg (fun e => by cases e; omega), h.st.bo.grown hg (fun e => by cases e; omega), h.st.mapS.grown hg (fun e => by cases e; omega), h.st.mapO.grown hg (fun e => by cases e; omega), fun p hp => (h.st.oks p hp).grownBox hg hb0, fun p hp => (h.st.oko p hp).grownBox hg hb0⟩,
  h.b7.grown hg (fun e => by cases e; omega), ints_keep h.xat (fun b cs ty fr hb hlt => (hg.block b (Array.getElem?_eq_some_iff.1 hb).1 (fun e => by cases e; omega)).trans hb),
  h.marks.keep (fun d hd k hk h0 => (hg.block k (Array.getElem?_eq_some_iff.1 h0).1 (fun e => by cases e; unfold Blk at hb0; rw [hb0] at h0; cases h0)).trans h0), Nat.le_trans h.sz hg.size⟩
end

end Go.Proofs.YtjdgdeiedkickaaDoor
