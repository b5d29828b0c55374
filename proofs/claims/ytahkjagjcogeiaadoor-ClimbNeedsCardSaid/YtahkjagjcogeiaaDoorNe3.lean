/- Part 3 of the texts of this claim, joined. -/
import Derived.Sort.BigQuietIn
import Derived.StillTail
import Derived.Test.YtahkjagjcogeiaaDoorNe2
/- The links that can be gone from a place, one by one: climb.chart.from and its iterator. -/
namespace Go.Proofs.YtahkjagjcogeiaaDoor
open Go.RowKit Go.Shelf
attribute [local go_sem] Oper.semAt_some
set_option linter.unusedVariables false

/-- What comes: a link, where it leads, what it costs. -/
def outs (dk : Bool) (p : Price) (v : Int) (l : List Link) : List (Link × Int × Cost) := l.filterMap fun x => (leads dk p x v).map fun r => (x, r.1, r.2)
abbrev Out (dk : Bool) (p : Price) (v : Int) (l : List Link) := { y : Link × Int × Cost // y ∈ outs dk p v l }
def Out.enc {dk : Bool} {p : Price} {v : Int} {l : List Link} (y : Out dk p v l) : Array Value := #[linkV y.1.1, .agg #[.int .i64 y.1.2.1, .int .i64 y.1.2.2.a, .int .i64 y.1.2.2.b, .int .i64 y.1.2.2.c, .int .i64 y.1.2.2.d, .slice none 0 0]]
def allOut (dk : Bool) (p : Price) (v : Int) (l : List Link) : List (Out dk p v l) := (outs dk p v l).attach
/-- So many have come when k links are over. -/
def upto (dk : Bool) (p : Price) (v : Int) (l : List Link) (k : Nat) : List (Out dk p v l) := (allOut dk p v l).take (outs dk p v (l.take k)).length

theorem outs_append (dk : Bool) (p : Price) (v : Int) (l m : List Link) : outs dk p v (l ++ m) = outs dk p v l ++ outs dk p v m := by simp [outs]
theorem take_succ_of {l : List Link} {k : Nat} {x : Link} (hx : l[k]? = some x) : l.take (k + 1) = l.take k ++ [x] := by
  rw [List.take_add_one, hx]; rfl
theorem upto_none {dk : Bool} {p : Price} {v : Int} {l : List Link} {k : Nat} {x : Link} (hx : l[k]? = some x) (h : leads dk p x v = none) : upto dk p v l (k + 1) = upto dk p v l k := by
  unfold upto
  rw [take_succ_of hx, outs_append]
  simp [outs, h]
theorem out_at {dk : Bool} {p : Price} {v : Int} {l : List Link} {k : Nat} {x : Link} {r : Int × Cost} (hx : l[k]? = some x) (h : leads dk p x v = some r) : (outs dk p v l)[(outs dk p v (l.take k)).length]? = some (x, r.1, r.2) := by
  obtain ⟨hk, e⟩ := List.getElem?_eq_some_iff.1 hx
  have hl : l = l.take k ++ x :: l.drop (k + 1) := by
    have h1 := List.drop_eq_getElem_cons hk
    rw [e] at h1
    rw [← h1, List.take_append_drop]
  have hm : outs dk p v l = outs dk p v (l.take k) ++ (x, r.1, r.2) :: outs dk p v (l.drop (k + 1)) :=
    (congrArg (outs dk p v) hl).trans (by rw [outs_append]; simp [outs, h])
  rw [hm, List.getElem?_append_right (Nat.le_refl _)]
  simp
theorem upto_some {dk : Bool} {p : Price} {v : Int} {l : List Link} {k : Nat} {x : Link} {r : Int × Cost} (hx : l[k]? = some x) (h : leads dk p x v = some r) :
    ∃ y : Out dk p v l, y.1 = (x, r.1, r.2) ∧ upto dk p v l (k + 1) = upto dk p v l k ++ [y] ∧ (upto dk p v l k).length < (allOut dk p v l).length := by
  have ha := out_at hx h
  have hlt := (List.getElem?_eq_some_iff.1 ha).1
  refine ⟨⟨(x, r.1, r.2), List.mem_of_getElem? ha⟩, rfl, ?_, ?_⟩
  · unfold upto
    have e : (outs dk p v (l.take (k + 1))).length = (outs dk p v (l.take k)).length + 1 := by
      rw [take_succ_of hx, outs_append]; simp [outs, h]
    have h2 : (allOut dk p v l)[(outs dk p v (l.take k)).length]? = some ⟨(x, r.1, r.2), List.mem_of_getElem? ha⟩ := by
      unfold allOut
      rw [List.getElem?_eq_getElem (by simpa using hlt), List.getElem_attach]
      congr 1
      exact Subtype.ext (by simpa [List.getElem?_eq_getElem hlt] using ha)
    rw [e, List.take_add_one, h2]; rfl
  · unfold upto allOut
    rw [List.length_take, List.length_attach]
    omega
theorem upto_all (dk : Bool) (p : Price) (v : Int) (l : List Link) {k : Nat} (hk : l.length ≤ k) : upto dk p v l k = allOut dk p v l := by
  unfold upto
  rw [List.take_of_length_le hk, List.take_of_length_le (by unfold allOut; simp)]
theorem upto_pre (dk : Bool) (p : Price) (v : Int) (l : List Link) (k : Nat) : upto dk p v l k <+: allOut dk p v l := List.take_prefix _ _
theorem upto_zero (dk : Bool) (p : Price) (v : Int) (l : List Link) : upto dk p v l 0 = [] := by simp [upto, outs]

/-- What a round must keep for the iterator: what lay below n₀, and the iterator's two boxes. -/
def FromK (n₀ g1 g2 : Nat) (W W' : World) : Prop := Below n₀ W W' ∧ W'.heap[g1]? = W.heap[g1]? ∧ W'.heap[g2]? = W.heap[g2]?

/-- The iterator's own: its two boxes; what lay below stays. -/
structure FromIn (w1 : World) (g1 g2 : Nat) (T : Array Value) (place : Int) (W : World) : Prop where
  chart : Blk W g1 115 T
  place : Blk W g2 3 #[.int .i64 place]
  below : Below w1.heap.size w1 W
theorem FromIn.kept {w1 W W' : World} {g1 g2 : Nat} {T : Array Value} {place : Int} (h : FromIn w1 g1 g2 T place W) (hk : FromK w1.heap.size g1 g2 W W') : FromIn w1 g1 g2 T place W' :=
  ⟨hk.2.1.trans h.chart, hk.2.2.trans h.place, h.below.trans hk.1⟩
theorem FromIn.grow {w1 W W' : World} {g1 g2 : Nat} {T : Array Value} {place : Int} (h : FromIn w1 g1 g2 T place W) (hb : Below W.heap.size W W') : FromIn w1 g1 g2 T place W' :=
  ⟨h.chart.below hb h.chart.lt, h.place.below hb h.place.lt, h.below.trans (hb.mono h.below.size)⟩

structure YGh where
  b : Bool
theorem yieldedB {e : Ending} {A B : Prop} (h : (e = .returned (.bool true) ∧ A) ∨ (e = .returned (.bool false) ∧ B)) : ∃ bb, e = .returned (.bool bb) ∧ ((bb = true ∧ A) ∨ (bb = false ∧ B)) := by
  rcases h with ⟨h, a⟩ | ⟨h, a⟩
  · exact ⟨true, h, .inl ⟨rfl, a⟩⟩
  · exact ⟨false, h, .inr ⟨rfl, a⟩⟩

set_option maxRecDepth 100000 in
set_option maxHeartbeats 8000000 in
theorem from1_stops (n : Nat) (hn : 2 ≤ n) (A : Option Addr) (nn c : Nat) (A' : Option Addr) (m d : Nat) (dk : Bool) (F : FuncId) (C : Array Value) (p : Price) (t : Town) (place : Int) (g1 g2 : Nat) (w1 w : World)
    (hm : m ≤ 20) (ht : LinksAt w1 w1.heap.size A' m t.links) (hp : PriceAt w1 p F C) (hfit : ∀ x ∈ t.links, Fit x) (hin : FromIn w1 g1 g2 #[.slice A nn c, .slice A' m d, .bool dk, .func (.func F) #[] C] place w) :
    SeqStopsK Fence.wide n Tryd.prog 140 #[.pointer (some ⟨g1, 0, none⟩), .pointer (some ⟨g2, 0, none⟩)] Out.enc (FromK w1.heap.size g1 g2)
      (fun xs => xs = allOut dk p place t.links) (fun pre => pre <+: allOut dk p place t.links) (allOut dk p place t.links).length w := by
  intro l J Jx W0 hW hJ hJx hY h0
  have hin0 := hin.grow hW
  have HT := Lib.hid ht
  have HP := Lib.hid hp
  have HF := Lib.hid hfit
  have HLm := Lib.hid ht.len
  have HJ := Lib.hid hJ
  have HJx := Lib.hid hJx
  have HY := Lib.hid hY
  have H0 := Lib.hid h0
  have HIN := Lib.hid hin0
  have q0 := hin0.chart.cell 0
  have q1 : W0.cell? ⟨g1, 1, none⟩ = some (.slice A' m d) := hin0.chart.cell 1
  clear hin hin0 ht hp hfit hJ hJx hY h0 hW
  refine callsIn_of_wp Tryd.func140 rfl trivial ?_ rfl
  simp only [Tryd.ntmps140, List.size_toArray, List.length_cons, List.length_nil, Nat.reduceAdd, Nat.reduceSub, Array.replicate_succ, Array.replicate_zero, List.push_toArray, List.append_toArray, List.nil_append, List.cons_append]
  refine wpIn_scope_straight ?_
  gi_wp2
  refine wpIn_label ?_
  gi_wp2
  gi_loopw [10] (fun i wr => ∃ k : Nat, k ≤ m ∧ i = .int .i64 k ∧ J (upto dk p place t.links k) wr ∧ FromIn w1 g1 g2 #[.slice A nn c, .slice A' m d, .bool dk, .func (.func F) #[] C] place wr ∧ W0.heap.size ≤ wr.heap.size) (fun i _ => m - (intOf i).toNat)
  case atStart => exact ⟨0, Nat.zero_le _, rfl, by rw [upto_zero]; exact H0.out, HIN.out, Nat.le_refl _⟩
  case round =>
    obtain ⟨k, hk, rfl, hj, hi, hsz⟩ := hrel
    have HJs := Lib.hid hj
    have HI := Lib.hid hi
    have q2 : wr.cell? ⟨g1, 2, none⟩ = some (.bool dk) := hi.chart.cell 2
    have q3 : wr.cell? ⟨g2, 0, none⟩ = some (.int .i64 place) := hi.place.cell 0
    have l1 := hi.chart.lt
    have l2 := hi.place.lt
    clear hj hi q0 q1 H0 HIN
    by_cases hlt : k < m
    · obtain ⟨b, off, x, rfl, hb, hx, hc0, hc1, hc2, hc3, hc4⟩ := (HT.out.below HI.out.below).cell hlt
      have hbl : b < wr.heap.size := Nat.lt_of_lt_of_le hb HI.out.below.size
      have HX := Lib.hid hx
      have HBL := Lib.hid hb
      have HFX := Lib.hid (HF.out x (List.mem_of_getElem? hx))
      clear hx hb
      by_cases hskip : dk = true ∧ 0 < x.steps
      · obtain ⟨rfl, hst⟩ := hskip
        gi_wp2
        go_roundw
        case rel => exact ⟨k + 1, by omega, by go_num, by rw [upto_none HX.out (by unfold leads; rw [if_pos ⟨rfl, hst⟩])]; exact HJ.out _ _ _ none HJs.out (World.grownBy_alloc _ _ none) (fun r e => by cases e), HI.out.grow ((Below.refl _ _).alloc (Nat.le_refl _) _), by simp; omega⟩
        case measure => simp [intOf]; omega
      · have hl : leads dk p x place = if x.fr = place then some (x.to, ⟨x.paces * p.pace + x.steps * (p.up + p.step), x.steps, x.paces, 1⟩) else if x.to = place then some (x.fr, ⟨x.paces * p.pace + x.steps * p.step, 0, x.paces, 1⟩) else none := by unfold leads; rw [if_neg hskip]
        have HLD := Lib.hid hl
        have HLT := Lib.hid hlt
        clear hl
        by_cases hfr : place = x.fr
        · have hfr' : (place == x.fr) = true := by simpa using hfr
          have HFR := Lib.hid hfr
          clear hfr
          rcases (show dk = false ∨ dk = true ∧ ¬ 0 < x.steps by cases dk <;> simp_all) with rfl | ⟨rfl, hst⟩
          · clear hskip
            have hL : leads false p x place = some (x.to, (costOf p x true)) := by rw [HLD.out]; rw [if_pos HFR.out.symm]; simp [costOf, priceOf]
            obtain ⟨y, hy1, hy2, hy3⟩ := upto_some HX.out hL
            have HYY : Hid (∀ W, J (upto false p place t.links k) W → YieldAt Fence.wide (n - 1) Tryd.prog l #[.agg #[.int .i64 x.id, .int .i64 x.fr, .int .i64 x.to, .int .i64 x.steps, .int .i64 x.paces], .agg #[.int .i64 x.to, .int .i64 (costOf p x true).a, .int .i64 (costOf p x true).b, .int .i64 (costOf p x true).c, .int .i64 (costOf p x true).d, .slice none 0 0]] W fun e W' =>
                (e = .returned (.bool true) ∧ J (upto false p place t.links (k + 1)) W' ∧ FromK w1.heap.size g1 g2 W W') ∨ (e = .returned (.bool false) ∧ Jx (upto false p place t.links (k + 1)) W')) := Lib.hid (fun W hj => by
              have := HY.out _ y W hj hy3
              unfold Out.enc at this
              rw [hy1] at this
              rw [hy2]
              exact this)
            clear hL hy1 hy2 hy3
            have B0 : Below wr.heap.size wr (wr.alloc (.cells #[.int .i64 x.id, .int .i64 x.fr, .int .i64 x.to, .int .i64 x.steps, .int .i64 x.paces] 45)).drew := below_drewN ((Below.refl _ _).alloc (Nat.le_refl _) _) 1
            have G0 : J (upto false p place t.links k) (wr.alloc (.cells #[.int .i64 x.id, .int .i64 x.fr, .int .i64 x.to, .int .i64 x.steps, .int .i64 x.paces] 45)).drew ∧ FromIn w1 g1 g2 #[.slice A nn c, .slice (some ⟨b, off, none⟩) m d, .bool false, .func (.func F) #[] C] place (wr.alloc (.cells #[.int .i64 x.id, .int .i64 x.fr, .int .i64 x.to, .int .i64 x.steps, .int .i64 x.paces] 45)).drew ∧ Blk (wr.alloc (.cells #[.int .i64 x.id, .int .i64 x.fr, .int .i64 x.to, .int .i64 x.steps, .int .i64 x.paces] 45)).drew wr.heap.size 45 #[.int .i64 x.id, .int .i64 x.fr, .int .i64 x.to, .int .i64 x.steps, .int .i64 x.paces] ∧ W0.heap.size ≤ (wr.alloc (.cells #[.int .i64 x.id, .int .i64 x.fr, .int .i64 x.to, .int .i64 x.steps, .int .i64 x.paces] 45)).drew.heap.size :=
              ⟨HJ.out _ _ _ none HJs.out (grown_of_below B0 none) (fun r e => by cases e), HI.out.grow B0, Blk.new wr _ _, Nat.le_trans hsz B0.size⟩
            clear B0
            gi_wp2
            refine wpIn_region_stepsD (by kernel_rfl) (by kernel_rfl) (fun σ : YGh × (Nat → Value) => { tmps := #[.func (.yield l) #[] #[], .pointer (some ⟨g1, 0, none⟩), .pointer (some ⟨g2, 0, none⟩), undef, undef, .pointer (some ⟨wr.heap.size, 0, none⟩), .pointer (some ⟨g1, 0, none⟩), .pointer (some ⟨g1, 1, none⟩), .slice (some ⟨b, off, none⟩) m d, .int .i64 (m : Int), .int .i64 (k : Int), .bool true, .pointer (some ⟨b, off + k * 5, none⟩), .agg #[.int .i64 x.id, .int .i64 x.fr, .int .i64 x.to, .int .i64 x.steps, .int .i64 x.paces], .pointer (some ⟨g1, 2, none⟩), .bool false, .bool false, undef, undef, undef, .bool false, .int .i64 place, .bool true, .pointer (some ⟨wr.heap.size, 1, none⟩), .int .i64 x.fr, .bool true, σ.2 26, σ.2 27, σ.2 28, σ.2 29, σ.2 30, σ.2 31, σ.2 32, σ.2 33, σ.2 34, σ.2 35, u36, u37, u38, u39, u40, u41, u42, u43, u44, u45, u46, u47, u48, u49, u50], defers := [] })
              (fun L σ W => (L 8 = false → J (upto false p place t.links k) W ∧ FromIn w1 g1 g2 #[.slice A nn c, .slice (some ⟨b, off, none⟩) m d, .bool false, .func (.func F) #[] C] place W ∧ Blk W wr.heap.size 45 #[.int .i64 x.id, .int .i64 x.fr, .int .i64 x.to, .int .i64 x.steps, .int .i64 x.paces] ∧ W0.heap.size ≤ W.heap.size) ∧ (L 8 = true → (σ.1.b = true ∧ J (upto false p place t.links (k + 1)) W ∧ FromIn w1 g1 g2 #[.slice A nn c, .slice (some ⟨b, off, none⟩) m d, .bool false, .func (.func F) #[] C] place W ∧ W0.heap.size ≤ W.heap.size) ∨ (σ.1.b = false ∧ Jx (upto false p place t.links (k + 1)) W)) ∧ (L 0 = true → σ.2 26 = .func (.yield l) #[] #[]) ∧ (L 1 = true → σ.2 27 = .agg #[.int .i64 x.id, .int .i64 x.fr, .int .i64 x.to, .int .i64 x.steps, .int .i64 x.paces]) ∧ (L 2 = true → σ.2 28 = .pointer (some ⟨wr.heap.size, 2, none⟩)) ∧ (L 3 = true → σ.2 29 = .int .i64 x.to) ∧ (L 4 = true → σ.2 30 = .agg #[.slice A nn c, .slice (some ⟨b, off, none⟩) m d, .bool false, .func (.func F) #[] C]) ∧ (L 5 = true → σ.2 31 = .agg #[.int .i64 x.id, .int .i64 x.fr, .int .i64 x.to, .int .i64 x.steps, .int .i64 x.paces]) ∧ (L 6 = true → σ.2 32 = .agg #[.int .i64 (costOf p x true).a, .int .i64 (costOf p x true).b, .int .i64 (costOf p x true).c, .int .i64 (costOf p x true).d]) ∧ (L 7 = true → σ.2 33 = .agg #[.int .i64 x.to, .int .i64 (costOf p x true).a, .int .i64 (costOf p x true).b, .int .i64 (costOf p x true).c, .int .i64 (costOf p x true).d, .slice none 0 0]) ∧ (L 8 = true → σ.2 34 = .bool σ.1.b) ∧ (L 9 = true → σ.2 35 = .bool (!σ.1.b)))
              (⟨false⟩, fun k => (#[u26, u27, u28, u29, u30, u31, u32, u33, u34, u35] : Array Value).getD (k - 26) undef) rfl ?_ ?_ ?_
            · exact ⟨(fun _ => G0), (fun h => by cases h), (fun h => by cases h), (fun h => by cases h), (fun h => by cases h), (fun h => by cases h), (fun h => by cases h), (fun h => by cases h), (fun h => by cases h), (fun h => by cases h), (fun h => by cases h), (fun h => by cases h)⟩
            · refine ⟨?_, ?_, ?_, ?_, ?_, ?_, ?_, ?_, ?_, ?_, trivial⟩
              · rintro L ⟨gh, s⟩ W hu hd hdn ⟨gJ, gY, f0, f1, f2, f3, f4, f5, f6, f7, f8, f9⟩ K Q hK
                try dsimp only at gJ gY f0 f1 f2 f3 f4 f5 f6 f7 f8 f9 ⊢
                have HF := Lib.hid (show (L 8 = false → J (upto false p place t.links k) W ∧ FromIn w1 g1 g2 #[.slice A nn c, .slice (some ⟨b, off, none⟩) m d, .bool false, .func (.func F) #[] C] place W ∧ Blk W wr.heap.size 45 #[.int .i64 x.id, .int .i64 x.fr, .int .i64 x.to, .int .i64 x.steps, .int .i64 x.paces] ∧ W0.heap.size ≤ W.heap.size) ∧ (L 8 = true → (gh.b = true ∧ J (upto false p place t.links (k + 1)) W ∧ FromIn w1 g1 g2 #[.slice A nn c, .slice (some ⟨b, off, none⟩) m d, .bool false, .func (.func F) #[] C] place W ∧ W0.heap.size ≤ W.heap.size) ∨ (gh.b = false ∧ Jx (upto false p place t.links (k + 1)) W)) ∧ (L 0 = true → s 26 = .func (.yield l) #[] #[]) ∧ (L 1 = true → s 27 = .agg #[.int .i64 x.id, .int .i64 x.fr, .int .i64 x.to, .int .i64 x.steps, .int .i64 x.paces]) ∧ (L 2 = true → s 28 = .pointer (some ⟨wr.heap.size, 2, none⟩)) ∧ (L 3 = true → s 29 = .int .i64 x.to) ∧ (L 4 = true → s 30 = .agg #[.slice A nn c, .slice (some ⟨b, off, none⟩) m d, .bool false, .func (.func F) #[] C]) ∧ (L 5 = true → s 31 = .agg #[.int .i64 x.id, .int .i64 x.fr, .int .i64 x.to, .int .i64 x.steps, .int .i64 x.paces]) ∧ (L 6 = true → s 32 = .agg #[.int .i64 (costOf p x true).a, .int .i64 (costOf p x true).b, .int .i64 (costOf p x true).c, .int .i64 (costOf p x true).d]) ∧ (L 7 = true → s 33 = .agg #[.int .i64 x.to, .int .i64 (costOf p x true).a, .int .i64 (costOf p x true).b, .int .i64 (costOf p x true).c, .int .i64 (costOf p x true).d, .slice none 0 0]) ∧ (L 8 = true → s 34 = .bool gh.b) ∧ (L 9 = true → s 35 = .bool (!gh.b)) from ⟨gJ, gY, f0, f1, f2, f3, f4, f5, f6, f7, f8, f9⟩)
                clear f9 f8 f7 f6 f5 f4 f3 f2 f1 f0 gY gJ hd
                try simp only
                gi_wp2
                obtain ⟨gJ, gY, f0, f1, f2, f3, f4, f5, f6, f7, f8, f9⟩ := HF.out
                exact hK (gh, (upd s 26 (.func (.yield l) #[] #[]))) _ ⟨gJ, gY, (fun _ => rfl), f1, f2, f3, f4, f5, f6, f7, f8, f9⟩
              · rintro L ⟨gh, s⟩ W hu hd hdn ⟨gJ, gY, f0, f1, f2, f3, f4, f5, f6, f7, f8, f9⟩ K Q hK
                try dsimp only at gJ gY f0 f1 f2 f3 f4 f5 f6 f7 f8 f9 ⊢
                have h8 : L 8 = false := by
                  cases hc : L 8 with
                  | false => rfl
                  | true => exact hdn.no 8 1 hc rfl hu
                have G := (gJ h8).2.2.1
                have c0 : W.cell? ⟨wr.heap.size, 0, none⟩ = some (.int .i64 x.id) := G.cell 0
                have c1 : W.cell? ⟨wr.heap.size, 1, none⟩ = some (.int .i64 x.fr) := G.cell 1
                have c2 : W.cell? ⟨wr.heap.size, 2, none⟩ = some (.int .i64 x.to) := G.cell 2
                have c3 : W.cell? ⟨wr.heap.size, 3, none⟩ = some (.int .i64 x.steps) := G.cell 3
                have c4 : W.cell? ⟨wr.heap.size, 4, none⟩ = some (.int .i64 x.paces) := G.cell 4
                clear G
                have HF := Lib.hid (show (L 8 = false → J (upto false p place t.links k) W ∧ FromIn w1 g1 g2 #[.slice A nn c, .slice (some ⟨b, off, none⟩) m d, .bool false, .func (.func F) #[] C] place W ∧ Blk W wr.heap.size 45 #[.int .i64 x.id, .int .i64 x.fr, .int .i64 x.to, .int .i64 x.steps, .int .i64 x.paces] ∧ W0.heap.size ≤ W.heap.size) ∧ (L 8 = true → (gh.b = true ∧ J (upto false p place t.links (k + 1)) W ∧ FromIn w1 g1 g2 #[.slice A nn c, .slice (some ⟨b, off, none⟩) m d, .bool false, .func (.func F) #[] C] place W ∧ W0.heap.size ≤ W.heap.size) ∨ (gh.b = false ∧ Jx (upto false p place t.links (k + 1)) W)) ∧ (L 0 = true → s 26 = .func (.yield l) #[] #[]) ∧ (L 1 = true → s 27 = .agg #[.int .i64 x.id, .int .i64 x.fr, .int .i64 x.to, .int .i64 x.steps, .int .i64 x.paces]) ∧ (L 2 = true → s 28 = .pointer (some ⟨wr.heap.size, 2, none⟩)) ∧ (L 3 = true → s 29 = .int .i64 x.to) ∧ (L 4 = true → s 30 = .agg #[.slice A nn c, .slice (some ⟨b, off, none⟩) m d, .bool false, .func (.func F) #[] C]) ∧ (L 5 = true → s 31 = .agg #[.int .i64 x.id, .int .i64 x.fr, .int .i64 x.to, .int .i64 x.steps, .int .i64 x.paces]) ∧ (L 6 = true → s 32 = .agg #[.int .i64 (costOf p x true).a, .int .i64 (costOf p x true).b, .int .i64 (costOf p x true).c, .int .i64 (costOf p x true).d]) ∧ (L 7 = true → s 33 = .agg #[.int .i64 x.to, .int .i64 (costOf p x true).a, .int .i64 (costOf p x true).b, .int .i64 (costOf p x true).c, .int .i64 (costOf p x true).d, .slice none 0 0]) ∧ (L 8 = true → s 34 = .bool gh.b) ∧ (L 9 = true → s 35 = .bool (!gh.b)) from ⟨gJ, gY, f0, f1, f2, f3, f4, f5, f6, f7, f8, f9⟩)
                clear f9 f8 f7 f6 f5 f4 f3 f2 f1 f0 gY gJ hd
                try simp only
                gi_wp2
                obtain ⟨gJ, gY, f0, f1, f2, f3, f4, f5, f6, f7, f8, f9⟩ := HF.out
                exact hK (gh, (upd s 27 (.agg #[.int .i64 x.id, .int .i64 x.fr, .int .i64 x.to, .int .i64 x.steps, .int .i64 x.paces]))) _ ⟨gJ, gY, f0, (fun _ => rfl), f2, f3, f4, f5, f6, f7, f8, f9⟩
              · rintro L ⟨gh, s⟩ W hu hd hdn ⟨gJ, gY, f0, f1, f2, f3, f4, f5, f6, f7, f8, f9⟩ K Q hK
                try dsimp only at gJ gY f0 f1 f2 f3 f4 f5 f6 f7 f8 f9 ⊢
                have HF := Lib.hid (show (L 8 = false → J (upto false p place t.links k) W ∧ FromIn w1 g1 g2 #[.slice A nn c, .slice (some ⟨b, off, none⟩) m d, .bool false, .func (.func F) #[] C] place W ∧ Blk W wr.heap.size 45 #[.int .i64 x.id, .int .i64 x.fr, .int .i64 x.to, .int .i64 x.steps, .int .i64 x.paces] ∧ W0.heap.size ≤ W.heap.size) ∧ (L 8 = true → (gh.b = true ∧ J (upto false p place t.links (k + 1)) W ∧ FromIn w1 g1 g2 #[.slice A nn c, .slice (some ⟨b, off, none⟩) m d, .bool false, .func (.func F) #[] C] place W ∧ W0.heap.size ≤ W.heap.size) ∨ (gh.b = false ∧ Jx (upto false p place t.links (k + 1)) W)) ∧ (L 0 = true → s 26 = .func (.yield l) #[] #[]) ∧ (L 1 = true → s 27 = .agg #[.int .i64 x.id, .int .i64 x.fr, .int .i64 x.to, .int .i64 x.steps, .int .i64 x.paces]) ∧ (L 2 = true → s 28 = .pointer (some ⟨wr.heap.size, 2, none⟩)) ∧ (L 3 = true → s 29 = .int .i64 x.to) ∧ (L 4 = true → s 30 = .agg #[.slice A nn c, .slice (some ⟨b, off, none⟩) m d, .bool false, .func (.func F) #[] C]) ∧ (L 5 = true → s 31 = .agg #[.int .i64 x.id, .int .i64 x.fr, .int .i64 x.to, .int .i64 x.steps, .int .i64 x.paces]) ∧ (L 6 = true → s 32 = .agg #[.int .i64 (costOf p x true).a, .int .i64 (costOf p x true).b, .int .i64 (costOf p x true).c, .int .i64 (costOf p x true).d]) ∧ (L 7 = true → s 33 = .agg #[.int .i64 x.to, .int .i64 (costOf p x true).a, .int .i64 (costOf p x true).b, .int .i64 (costOf p x true).c, .int .i64 (costOf p x true).d, .slice none 0 0]) ∧ (L 8 = true → s 34 = .bool gh.b) ∧ (L 9 = true → s 35 = .bool (!gh.b)) from ⟨gJ, gY, f0, f1, f2, f3, f4, f5, f6, f7, f8, f9⟩)
                clear f9 f8 f7 f6 f5 f4 f3 f2 f1 f0 gY gJ hd
                try simp only
                gi_wp2
                obtain ⟨gJ, gY, f0, f1, f2, f3, f4, f5, f6, f7, f8, f9⟩ := HF.out
                exact hK (gh, (upd s 28 (.pointer (some ⟨wr.heap.size, 2, none⟩)))) _ ⟨gJ, gY, f0, f1, (fun _ => rfl), f3, f4, f5, f6, f7, f8, f9⟩
              · rintro L ⟨gh, s⟩ W hu hd hdn ⟨gJ, gY, f0, f1, f2, f3, f4, f5, f6, f7, f8, f9⟩ K Q hK
                try dsimp only at gJ gY f0 f1 f2 f3 f4 f5 f6 f7 f8 f9 ⊢
                have e2 := f2 (hd.at_ 2 rfl)
                have h8 : L 8 = false := by
                  cases hc : L 8 with
                  | false => rfl
                  | true => exact hdn.no 7 3 (hdn.at_ 8 7 hc rfl) rfl hu
                have G := (gJ h8).2.2.1
                have c0 : W.cell? ⟨wr.heap.size, 0, none⟩ = some (.int .i64 x.id) := G.cell 0
                have c1 : W.cell? ⟨wr.heap.size, 1, none⟩ = some (.int .i64 x.fr) := G.cell 1
                have c2 : W.cell? ⟨wr.heap.size, 2, none⟩ = some (.int .i64 x.to) := G.cell 2
                have c3 : W.cell? ⟨wr.heap.size, 3, none⟩ = some (.int .i64 x.steps) := G.cell 3
                have c4 : W.cell? ⟨wr.heap.size, 4, none⟩ = some (.int .i64 x.paces) := G.cell 4
                clear G
                have HF := Lib.hid (show (L 8 = false → J (upto false p place t.links k) W ∧ FromIn w1 g1 g2 #[.slice A nn c, .slice (some ⟨b, off, none⟩) m d, .bool false, .func (.func F) #[] C] place W ∧ Blk W wr.heap.size 45 #[.int .i64 x.id, .int .i64 x.fr, .int .i64 x.to, .int .i64 x.steps, .int .i64 x.paces] ∧ W0.heap.size ≤ W.heap.size) ∧ (L 8 = true → (gh.b = true ∧ J (upto false p place t.links (k + 1)) W ∧ FromIn w1 g1 g2 #[.slice A nn c, .slice (some ⟨b, off, none⟩) m d, .bool false, .func (.func F) #[] C] place W ∧ W0.heap.size ≤ W.heap.size) ∨ (gh.b = false ∧ Jx (upto false p place t.links (k + 1)) W)) ∧ (L 0 = true → s 26 = .func (.yield l) #[] #[]) ∧ (L 1 = true → s 27 = .agg #[.int .i64 x.id, .int .i64 x.fr, .int .i64 x.to, .int .i64 x.steps, .int .i64 x.paces]) ∧ (L 2 = true → s 28 = .pointer (some ⟨wr.heap.size, 2, none⟩)) ∧ (L 3 = true → s 29 = .int .i64 x.to) ∧ (L 4 = true → s 30 = .agg #[.slice A nn c, .slice (some ⟨b, off, none⟩) m d, .bool false, .func (.func F) #[] C]) ∧ (L 5 = true → s 31 = .agg #[.int .i64 x.id, .int .i64 x.fr, .int .i64 x.to, .int .i64 x.steps, .int .i64 x.paces]) ∧ (L 6 = true → s 32 = .agg #[.int .i64 (costOf p x true).a, .int .i64 (costOf p x true).b, .int .i64 (costOf p x true).c, .int .i64 (costOf p x true).d]) ∧ (L 7 = true → s 33 = .agg #[.int .i64 x.to, .int .i64 (costOf p x true).a, .int .i64 (costOf p x true).b, .int .i64 (costOf p x true).c, .int .i64 (costOf p x true).d, .slice none 0 0]) ∧ (L 8 = true → s 34 = .bool gh.b) ∧ (L 9 = true → s 35 = .bool (!gh.b)) from ⟨gJ, gY, f0, f1, f2, f3, f4, f5, f6, f7, f8, f9⟩)
                clear f9 f8 f7 f6 f5 f4 f3 f2 f1 f0 gY gJ hd
                try simp only at e2 ⊢
                gi_wp2
                obtain ⟨gJ, gY, f0, f1, f2, f3, f4, f5, f6, f7, f8, f9⟩ := HF.out
                exact hK (gh, (upd (upd s 28 (.pointer (some ⟨wr.heap.size, 2, none⟩))) 29 (.int .i64 x.to))) _ ⟨gJ, gY, f0, f1, (fun _ => rfl), (fun _ => rfl), f4, f5, f6, f7, f8, f9⟩
              · rintro L ⟨gh, s⟩ W hu hd hdn ⟨gJ, gY, f0, f1, f2, f3, f4, f5, f6, f7, f8, f9⟩ K Q hK
                try dsimp only at gJ gY f0 f1 f2 f3 f4 f5 f6 f7 f8 f9 ⊢
                have h8 : L 8 = false := by
                  cases hc : L 8 with
                  | false => rfl
                  | true => exact hdn.no 6 4 (hdn.at_ 8 6 hc rfl) rfl hu
                have G := (gJ h8).2.1.chart
                have c0 : W.cell? ⟨g1, 0, none⟩ = some (.slice A nn c) := G.cell 0
                have c1 : W.cell? ⟨g1, 1, none⟩ = some (.slice (some ⟨b, off, none⟩) m d) := G.cell 1
                have c2 : W.cell? ⟨g1, 2, none⟩ = some (.bool false) := G.cell 2
                have c3 : W.cell? ⟨g1, 3, none⟩ = some (.func (.func F) #[] C) := G.cell 3
                clear G
                have HF := Lib.hid (show (L 8 = false → J (upto false p place t.links k) W ∧ FromIn w1 g1 g2 #[.slice A nn c, .slice (some ⟨b, off, none⟩) m d, .bool false, .func (.func F) #[] C] place W ∧ Blk W wr.heap.size 45 #[.int .i64 x.id, .int .i64 x.fr, .int .i64 x.to, .int .i64 x.steps, .int .i64 x.paces] ∧ W0.heap.size ≤ W.heap.size) ∧ (L 8 = true → (gh.b = true ∧ J (upto false p place t.links (k + 1)) W ∧ FromIn w1 g1 g2 #[.slice A nn c, .slice (some ⟨b, off, none⟩) m d, .bool false, .func (.func F) #[] C] place W ∧ W0.heap.size ≤ W.heap.size) ∨ (gh.b = false ∧ Jx (upto false p place t.links (k + 1)) W)) ∧ (L 0 = true → s 26 = .func (.yield l) #[] #[]) ∧ (L 1 = true → s 27 = .agg #[.int .i64 x.id, .int .i64 x.fr, .int .i64 x.to, .int .i64 x.steps, .int .i64 x.paces]) ∧ (L 2 = true → s 28 = .pointer (some ⟨wr.heap.size, 2, none⟩)) ∧ (L 3 = true → s 29 = .int .i64 x.to) ∧ (L 4 = true → s 30 = .agg #[.slice A nn c, .slice (some ⟨b, off, none⟩) m d, .bool false, .func (.func F) #[] C]) ∧ (L 5 = true → s 31 = .agg #[.int .i64 x.id, .int .i64 x.fr, .int .i64 x.to, .int .i64 x.steps, .int .i64 x.paces]) ∧ (L 6 = true → s 32 = .agg #[.int .i64 (costOf p x true).a, .int .i64 (costOf p x true).b, .int .i64 (costOf p x true).c, .int .i64 (costOf p x true).d]) ∧ (L 7 = true → s 33 = .agg #[.int .i64 x.to, .int .i64 (costOf p x true).a, .int .i64 (costOf p x true).b, .int .i64 (costOf p x true).c, .int .i64 (costOf p x true).d, .slice none 0 0]) ∧ (L 8 = true → s 34 = .bool gh.b) ∧ (L 9 = true → s 35 = .bool (!gh.b)) from ⟨gJ, gY, f0, f1, f2, f3, f4, f5, f6, f7, f8, f9⟩)
                clear f9 f8 f7 f6 f5 f4 f3 f2 f1 f0 gY gJ hd
                try simp only
                gi_wp2
                obtain ⟨gJ, gY, f0, f1, f2, f3, f4, f5, f6, f7, f8, f9⟩ := HF.out
                exact hK (gh, (upd s 30 (.agg #[.slice A nn c, .slice (some ⟨b, off, none⟩) m d, .bool false, .func (.func F) #[] C]))) _ ⟨gJ, gY, f0, f1, f2, f3, (fun _ => rfl), f5, f6, f7, f8, f9⟩
              · rintro L ⟨gh, s⟩ W hu hd hdn ⟨gJ, gY, f0, f1, f2, f3, f4, f5, f6, f7, f8, f9⟩ K Q hK
                try dsimp only at gJ gY f0 f1 f2 f3 f4 f5 f6 f7 f8 f9 ⊢
                have h8 : L 8 = false := by
                  cases hc : L 8 with
                  | false => rfl
                  | true => exact hdn.no 6 5 (hdn.at_ 8 6 hc rfl) rfl hu
                have G := (gJ h8).2.2.1
                have c0 : W.cell? ⟨wr.heap.size, 0, none⟩ = some (.int .i64 x.id) := G.cell 0
                have c1 : W.cell? ⟨wr.heap.size, 1, none⟩ = some (.int .i64 x.fr) := G.cell 1
                have c2 : W.cell? ⟨wr.heap.size, 2, none⟩ = some (.int .i64 x.to) := G.cell 2
                have c3 : W.cell? ⟨wr.heap.size, 3, none⟩ = some (.int .i64 x.steps) := G.cell 3
                have c4 : W.cell? ⟨wr.heap.size, 4, none⟩ = some (.int .i64 x.paces) := G.cell 4
                clear G
                have HF := Lib.hid (show (L 8 = false → J (upto false p place t.links k) W ∧ FromIn w1 g1 g2 #[.slice A nn c, .slice (some ⟨b, off, none⟩) m d, .bool false, .func (.func F) #[] C] place W ∧ Blk W wr.heap.size 45 #[.int .i64 x.id, .int .i64 x.fr, .int .i64 x.to, .int .i64 x.steps, .int .i64 x.paces] ∧ W0.heap.size ≤ W.heap.size) ∧ (L 8 = true → (gh.b = true ∧ J (upto false p place t.links (k + 1)) W ∧ FromIn w1 g1 g2 #[.slice A nn c, .slice (some ⟨b, off, none⟩) m d, .bool false, .func (.func F) #[] C] place W ∧ W0.heap.size ≤ W.heap.size) ∨ (gh.b = false ∧ Jx (upto false p place t.links (k + 1)) W)) ∧ (L 0 = true → s 26 = .func (.yield l) #[] #[]) ∧ (L 1 = true → s 27 = .agg #[.int .i64 x.id, .int .i64 x.fr, .int .i64 x.to, .int .i64 x.steps, .int .i64 x.paces]) ∧ (L 2 = true → s 28 = .pointer (some ⟨wr.heap.size, 2, none⟩)) ∧ (L 3 = true → s 29 = .int .i64 x.to) ∧ (L 4 = true → s 30 = .agg #[.slice A nn c, .slice (some ⟨b, off, none⟩) m d, .bool false, .func (.func F) #[] C]) ∧ (L 5 = true → s 31 = .agg #[.int .i64 x.id, .int .i64 x.fr, .int .i64 x.to, .int .i64 x.steps, .int .i64 x.paces]) ∧ (L 6 = true → s 32 = .agg #[.int .i64 (costOf p x true).a, .int .i64 (costOf p x true).b, .int .i64 (costOf p x true).c, .int .i64 (costOf p x true).d]) ∧ (L 7 = true → s 33 = .agg #[.int .i64 x.to, .int .i64 (costOf p x true).a, .int .i64 (costOf p x true).b, .int .i64 (costOf p x true).c, .int .i64 (costOf p x true).d, .slice none 0 0]) ∧ (L 8 = true → s 34 = .bool gh.b) ∧ (L 9 = true → s 35 = .bool (!gh.b)) from ⟨gJ, gY, f0, f1, f2, f3, f4, f5, f6, f7, f8, f9⟩)
                clear f9 f8 f7 f6 f5 f4 f3 f2 f1 f0 gY gJ hd
                try simp only
                gi_wp2
                obtain ⟨gJ, gY, f0, f1, f2, f3, f4, f5, f6, f7, f8, f9⟩ := HF.out
                exact hK (gh, (upd s 31 (.agg #[.int .i64 x.id, .int .i64 x.fr, .int .i64 x.to, .int .i64 x.steps, .int .i64 x.paces]))) _ ⟨gJ, gY, f0, f1, f2, f3, f4, (fun _ => rfl), f6, f7, f8, f9⟩
              · rintro L ⟨gh, s⟩ W hu hd hdn ⟨gJ, gY, f0, f1, f2, f3, f4, f5, f6, f7, f8, f9⟩ K Q hK
                try dsimp only at gJ gY f0 f1 f2 f3 f4 f5 f6 f7 f8 f9 ⊢
                have e4 := f4 (hd.at_ 4 rfl)
                have e5 := f5 (hd.at_ 5 rfl)
                have h8 : L 8 = false := by
                  cases hc : L 8 with
                  | false => rfl
                  | true => exact hdn.no 8 6 hc rfl hu
                have GJ := Lib.hid (gJ h8)
                have HF := Lib.hid (show (L 8 = false → J (upto false p place t.links k) W ∧ FromIn w1 g1 g2 #[.slice A nn c, .slice (some ⟨b, off, none⟩) m d, .bool false, .func (.func F) #[] C] place W ∧ Blk W wr.heap.size 45 #[.int .i64 x.id, .int .i64 x.fr, .int .i64 x.to, .int .i64 x.steps, .int .i64 x.paces] ∧ W0.heap.size ≤ W.heap.size) ∧ (L 8 = true → (gh.b = true ∧ J (upto false p place t.links (k + 1)) W ∧ FromIn w1 g1 g2 #[.slice A nn c, .slice (some ⟨b, off, none⟩) m d, .bool false, .func (.func F) #[] C] place W ∧ W0.heap.size ≤ W.heap.size) ∨ (gh.b = false ∧ Jx (upto false p place t.links (k + 1)) W)) ∧ (L 0 = true → s 26 = .func (.yield l) #[] #[]) ∧ (L 1 = true → s 27 = .agg #[.int .i64 x.id, .int .i64 x.fr, .int .i64 x.to, .int .i64 x.steps, .int .i64 x.paces]) ∧ (L 2 = true → s 28 = .pointer (some ⟨wr.heap.size, 2, none⟩)) ∧ (L 3 = true → s 29 = .int .i64 x.to) ∧ (L 4 = true → s 30 = .agg #[.slice A nn c, .slice (some ⟨b, off, none⟩) m d, .bool false, .func (.func F) #[] C]) ∧ (L 5 = true → s 31 = .agg #[.int .i64 x.id, .int .i64 x.fr, .int .i64 x.to, .int .i64 x.steps, .int .i64 x.paces]) ∧ (L 6 = true → s 32 = .agg #[.int .i64 (costOf p x true).a, .int .i64 (costOf p x true).b, .int .i64 (costOf p x true).c, .int .i64 (costOf p x true).d]) ∧ (L 7 = true → s 33 = .agg #[.int .i64 x.to, .int .i64 (costOf p x true).a, .int .i64 (costOf p x true).b, .int .i64 (costOf p x true).c, .int .i64 (costOf p x true).d, .slice none 0 0]) ∧ (L 8 = true → s 34 = .bool gh.b) ∧ (L 9 = true → s 35 = .bool (!gh.b)) from ⟨gJ, gY, f0, f1, f2, f3, f4, f5, f6, f7, f8, f9⟩)
                clear f9 f8 f7 f6 f5 f4 f3 f2 f1 f0 gY gJ hd
                try simp only at e4 e5 ⊢
                gi_wp2
                refine ⟨trivial, fun _ => by omega, (callsIn_wide.2 (cost_any A nn c (some ⟨b, off, none⟩) m d false F C p x true W (HP.out.below GJ.out.2.1.below) HFX.out)).mono ?_⟩
                rintro e W2 ⟨rfl, hb⟩
                gi_wp2
                obtain ⟨gJ, gY, f0, f1, f2, f3, f4, f5, f6, f7, f8, f9⟩ := HF.out
                exact hK (gh, (upd (upd (upd s 30 (.agg #[.slice A nn c, .slice (some ⟨b, off, none⟩) m d, .bool false, .func (.func F) #[] C])) 31 (.agg #[.int .i64 x.id, .int .i64 x.fr, .int .i64 x.to, .int .i64 x.steps, .int .i64 x.paces])) 32 (.agg #[.int .i64 (costOf p x true).a, .int .i64 (costOf p x true).b, .int .i64 (costOf p x true).c, .int .i64 (costOf p x true).d]))) _ ⟨(fun _ => ⟨HJ.out _ _ _ none GJ.out.1 (grown_of_below hb none) (fun r e => by cases e), GJ.out.2.1.grow hb, GJ.out.2.2.1.below hb GJ.out.2.2.1.lt, Nat.le_trans GJ.out.2.2.2 hb.size⟩), (fun h => hdn.no 8 6 h rfl hu), f0, f1, f2, f3, (fun _ => rfl), (fun _ => rfl), (fun _ => rfl), f7, f8, f9⟩
              · rintro L ⟨gh, s⟩ W hu hd hdn ⟨gJ, gY, f0, f1, f2, f3, f4, f5, f6, f7, f8, f9⟩ K Q hK
                try dsimp only at gJ gY f0 f1 f2 f3 f4 f5 f6 f7 f8 f9 ⊢
                have e3 := f3 (hd.at_ 3 rfl)
                have e6 := f6 (hd.at_ 6 rfl)
                have HF := Lib.hid (show (L 8 = false → J (upto false p place t.links k) W ∧ FromIn w1 g1 g2 #[.slice A nn c, .slice (some ⟨b, off, none⟩) m d, .bool false, .func (.func F) #[] C] place W ∧ Blk W wr.heap.size 45 #[.int .i64 x.id, .int .i64 x.fr, .int .i64 x.to, .int .i64 x.steps, .int .i64 x.paces] ∧ W0.heap.size ≤ W.heap.size) ∧ (L 8 = true → (gh.b = true ∧ J (upto false p place t.links (k + 1)) W ∧ FromIn w1 g1 g2 #[.slice A nn c, .slice (some ⟨b, off, none⟩) m d, .bool false, .func (.func F) #[] C] place W ∧ W0.heap.size ≤ W.heap.size) ∨ (gh.b = false ∧ Jx (upto false p place t.links (k + 1)) W)) ∧ (L 0 = true → s 26 = .func (.yield l) #[] #[]) ∧ (L 1 = true → s 27 = .agg #[.int .i64 x.id, .int .i64 x.fr, .int .i64 x.to, .int .i64 x.steps, .int .i64 x.paces]) ∧ (L 2 = true → s 28 = .pointer (some ⟨wr.heap.size, 2, none⟩)) ∧ (L 3 = true → s 29 = .int .i64 x.to) ∧ (L 4 = true → s 30 = .agg #[.slice A nn c, .slice (some ⟨b, off, none⟩) m d, .bool false, .func (.func F) #[] C]) ∧ (L 5 = true → s 31 = .agg #[.int .i64 x.id, .int .i64 x.fr, .int .i64 x.to, .int .i64 x.steps, .int .i64 x.paces]) ∧ (L 6 = true → s 32 = .agg #[.int .i64 (costOf p x true).a, .int .i64 (costOf p x true).b, .int .i64 (costOf p x true).c, .int .i64 (costOf p x true).d]) ∧ (L 7 = true → s 33 = .agg #[.int .i64 x.to, .int .i64 (costOf p x true).a, .int .i64 (costOf p x true).b, .int .i64 (costOf p x true).c, .int .i64 (costOf p x true).d, .slice none 0 0]) ∧ (L 8 = true → s 34 = .bool gh.b) ∧ (L 9 = true → s 35 = .bool (!gh.b)) from ⟨gJ, gY, f0, f1, f2, f3, f4, f5, f6, f7, f8, f9⟩)
                clear f9 f8 f7 f6 f5 f4 f3 f2 f1 f0 gY gJ hd
                try simp only at e3 e6 ⊢
                gi_wp2
                obtain ⟨gJ, gY, f0, f1, f2, f3, f4, f5, f6, f7, f8, f9⟩ := HF.out
                exact hK (gh, (upd (upd (upd s 29 (.int .i64 x.to)) 32 (.agg #[.int .i64 (costOf p x true).a, .int .i64 (costOf p x true).b, .int .i64 (costOf p x true).c, .int .i64 (costOf p x true).d])) 33 (.agg #[.int .i64 x.to, .int .i64 (costOf p x true).a, .int .i64 (costOf p x true).b, .int .i64 (costOf p x true).c, .int .i64 (costOf p x true).d, .slice none 0 0]))) _ ⟨gJ, gY, f0, f1, f2, (fun _ => rfl), f4, f5, (fun _ => rfl), (fun _ => rfl), f8, f9⟩
              · rintro L ⟨gh, s⟩ W hu hd hdn ⟨gJ, gY, f0, f1, f2, f3, f4, f5, f6, f7, f8, f9⟩ K Q hK
                try dsimp only at gJ gY f0 f1 f2 f3 f4 f5 f6 f7 f8 f9 ⊢
                have e0 := f0 (hd.at_ 0 rfl)
                have e1 := f1 (hd.at_ 1 rfl)
                have e7 := f7 (hd.at_ 7 rfl)
                have h8 : L 8 = false := hu
                have GJ := Lib.hid (gJ h8)
                obtain ⟨fn, tmps, assign, body, hy, hR⟩ := HYY.out W GJ.out.1
                have HF := Lib.hid (show (L 8 = false → J (upto false p place t.links k) W ∧ FromIn w1 g1 g2 #[.slice A nn c, .slice (some ⟨b, off, none⟩) m d, .bool false, .func (.func F) #[] C] place W ∧ Blk W wr.heap.size 45 #[.int .i64 x.id, .int .i64 x.fr, .int .i64 x.to, .int .i64 x.steps, .int .i64 x.paces] ∧ W0.heap.size ≤ W.heap.size) ∧ (L 8 = true → (gh.b = true ∧ J (upto false p place t.links (k + 1)) W ∧ FromIn w1 g1 g2 #[.slice A nn c, .slice (some ⟨b, off, none⟩) m d, .bool false, .func (.func F) #[] C] place W ∧ W0.heap.size ≤ W.heap.size) ∨ (gh.b = false ∧ Jx (upto false p place t.links (k + 1)) W)) ∧ (L 0 = true → s 26 = .func (.yield l) #[] #[]) ∧ (L 1 = true → s 27 = .agg #[.int .i64 x.id, .int .i64 x.fr, .int .i64 x.to, .int .i64 x.steps, .int .i64 x.paces]) ∧ (L 2 = true → s 28 = .pointer (some ⟨wr.heap.size, 2, none⟩)) ∧ (L 3 = true → s 29 = .int .i64 x.to) ∧ (L 4 = true → s 30 = .agg #[.slice A nn c, .slice (some ⟨b, off, none⟩) m d, .bool false, .func (.func F) #[] C]) ∧ (L 5 = true → s 31 = .agg #[.int .i64 x.id, .int .i64 x.fr, .int .i64 x.to, .int .i64 x.steps, .int .i64 x.paces]) ∧ (L 6 = true → s 32 = .agg #[.int .i64 (costOf p x true).a, .int .i64 (costOf p x true).b, .int .i64 (costOf p x true).c, .int .i64 (costOf p x true).d]) ∧ (L 7 = true → s 33 = .agg #[.int .i64 x.to, .int .i64 (costOf p x true).a, .int .i64 (costOf p x true).b, .int .i64 (costOf p x true).c, .int .i64 (costOf p x true).d, .slice none 0 0]) ∧ (L 8 = true → s 34 = .bool gh.b) ∧ (L 9 = true → s 35 = .bool (!gh.b)) from ⟨gJ, gY, f0, f1, f2, f3, f4, f5, f6, f7, f8, f9⟩)
                clear f9 f8 f7 f6 f5 f4 f3 f2 f1 f0 gY gJ hd
                try simp only at e0 e1 e7 ⊢
                gi_wp2
                refine ⟨fun _ => by omega, hR.mono ?_⟩
                rintro e W3 hor
                obtain ⟨bb, rfl, hor2⟩ := yieldedB hor
                clear hor
                gi_wp2
                obtain ⟨gJ, gY, f0, f1, f2, f3, f4, f5, f6, f7, f8, f9⟩ := HF.out
                exact hK ((⟨bb⟩ : YGh), (upd (upd (upd (upd s 26 (.func (.yield l) #[] #[])) 27 (.agg #[.int .i64 x.id, .int .i64 x.fr, .int .i64 x.to, .int .i64 x.steps, .int .i64 x.paces])) 33 (.agg #[.int .i64 x.to, .int .i64 (costOf p x true).a, .int .i64 (costOf p x true).b, .int .i64 (costOf p x true).c, .int .i64 (costOf p x true).d, .slice none 0 0])) 34 (.bool bb))) _ ⟨(fun h => by cases h), (fun _ => by
            rcases hor2 with ⟨h1, h2, h3⟩ | ⟨h1, h2⟩
            · exact .inl ⟨h1, h2, GJ.out.2.1.kept h3, Nat.le_trans GJ.out.2.2.2 h3.1.size⟩
            · exact .inr ⟨h1, h2⟩), (fun _ => rfl), (fun _ => rfl), f2, f3, f4, f5, f6, (fun _ => rfl), (fun _ => rfl), (fun h => hdn.no 9 8 h rfl hu)⟩
              · rintro L ⟨gh, s⟩ W hu hd hdn ⟨gJ, gY, f0, f1, f2, f3, f4, f5, f6, f7, f8, f9⟩ K Q hK
                try dsimp only at gJ gY f0 f1 f2 f3 f4 f5 f6 f7 f8 f9 ⊢
                have e8 := f8 (hd.at_ 8 rfl)
                have HF := Lib.hid (show (L 8 = false → J (upto false p place t.links k) W ∧ FromIn w1 g1 g2 #[.slice A nn c, .slice (some ⟨b, off, none⟩) m d, .bool false, .func (.func F) #[] C] place W ∧ Blk W wr.heap.size 45 #[.int .i64 x.id, .int .i64 x.fr, .int .i64 x.to, .int .i64 x.steps, .int .i64 x.paces] ∧ W0.heap.size ≤ W.heap.size) ∧ (L 8 = true → (gh.b = true ∧ J (upto false p place t.links (k + 1)) W ∧ FromIn w1 g1 g2 #[.slice A nn c, .slice (some ⟨b, off, none⟩) m d, .bool false, .func (.func F) #[] C] place W ∧ W0.heap.size ≤ W.heap.size) ∨ (gh.b = false ∧ Jx (upto false p place t.links (k + 1)) W)) ∧ (L 0 = true → s 26 = .func (.yield l) #[] #[]) ∧ (L 1 = true → s 27 = .agg #[.int .i64 x.id, .int .i64 x.fr, .int .i64 x.to, .int .i64 x.steps, .int .i64 x.paces]) ∧ (L 2 = true → s 28 = .pointer (some ⟨wr.heap.size, 2, none⟩)) ∧ (L 3 = true → s 29 = .int .i64 x.to) ∧ (L 4 = true → s 30 = .agg #[.slice A nn c, .slice (some ⟨b, off, none⟩) m d, .bool false, .func (.func F) #[] C]) ∧ (L 5 = true → s 31 = .agg #[.int .i64 x.id, .int .i64 x.fr, .int .i64 x.to, .int .i64 x.steps, .int .i64 x.paces]) ∧ (L 6 = true → s 32 = .agg #[.int .i64 (costOf p x true).a, .int .i64 (costOf p x true).b, .int .i64 (costOf p x true).c, .int .i64 (costOf p x true).d]) ∧ (L 7 = true → s 33 = .agg #[.int .i64 x.to, .int .i64 (costOf p x true).a, .int .i64 (costOf p x true).b, .int .i64 (costOf p x true).c, .int .i64 (costOf p x true).d, .slice none 0 0]) ∧ (L 8 = true → s 34 = .bool gh.b) ∧ (L 9 = true → s 35 = .bool (!gh.b)) from ⟨gJ, gY, f0, f1, f2, f3, f4, f5, f6, f7, f8, f9⟩)
                clear f9 f8 f7 f6 f5 f4 f3 f2 f1 f0 gY gJ hd
                try simp only at e8 ⊢
                gi_wp2
                obtain ⟨gJ, gY, f0, f1, f2, f3, f4, f5, f6, f7, f8, f9⟩ := HF.out
                exact hK (gh, (upd (upd s 34 (.bool gh.b)) 35 (.bool (!gh.b)))) _ ⟨gJ, gY, f0, f1, f2, f3, f4, f5, f6, f7, (fun _ => rfl), (fun _ => rfl)⟩
            · rintro L ⟨gh, s⟩ W hall ⟨gJ, gY, f0, f1, f2, f3, f4, f5, f6, f7, f8, f9⟩
              have e9 := f9 (hall 9 (by decide))
              have GY := gY (hall 8 (by decide))
              clear hall gJ gY f0 f1 f2 f3 f4 f5 f6 f7 f8 f9
              rcases GY with ⟨hb, hj, hi, hsz'⟩ | ⟨hb, hjx⟩
              · rw [hb] at e9
                have HJ3 := Lib.hid hj
                have HI3 := Lib.hid hi
                clear hj hi hb
                replace e9 : s 35 = .bool false := e9
                simp only
                rw [e9]
                gi_wp2
                go_roundw
                case rel => exact ⟨k + 1, by omega, by go_num, HJ3.out, HI3.out, by omega⟩
                case measure => simp [intOf]; omega
              · rw [hb] at e9
                have HJ3 := Lib.hid hjx
                clear hjx hb
                replace e9 : s 35 = .bool true := e9
                simp only
                rw [e9]
                gi_wp2
                unfold Exit.noGoto
                refine bodyPost_ret (results_none rfl _ _ _) rfl ?_
                exact ⟨⟨_, rfl⟩, .inr ⟨_, upto_pre _ _ _ _ _, HJ3.out⟩⟩
          · clear hskip
            have hL : leads true p x place = some (x.to, (costOf p x true)) := by rw [HLD.out]; rw [if_pos HFR.out.symm]; simp [costOf, priceOf]
            obtain ⟨y, hy1, hy2, hy3⟩ := upto_some HX.out hL
            have HYY : Hid (∀ W, J (upto true p place t.links k) W → YieldAt Fence.wide (n - 1) Tryd.prog l #[.agg #[.int .i64 x.id, .int .i64 x.fr, .int .i64 x.to, .int .i64 x.steps, .int .i64 x.paces], .agg #[.int .i64 x.to, .int .i64 (costOf p x true).a, .int .i64 (costOf p x true).b, .int .i64 (costOf p x true).c, .int .i64 (costOf p x true).d, .slice none 0 0]] W fun e W' =>
                (e = .returned (.bool true) ∧ J (upto true p place t.links (k + 1)) W' ∧ FromK w1.heap.size g1 g2 W W') ∨ (e = .returned (.bool false) ∧ Jx (upto true p place t.links (k + 1)) W')) := Lib.hid (fun W hj => by
              have := HY.out _ y W hj hy3
              unfold Out.enc at this
              rw [hy1] at this
              rw [hy2]
              exact this)
            clear hL hy1 hy2 hy3
            have B0 : Below wr.heap.size wr (wr.alloc (.cells #[.int .i64 x.id, .int .i64 x.fr, .int .i64 x.to, .int .i64 x.steps, .int .i64 x.paces] 45)).drew := below_drewN ((Below.refl _ _).alloc (Nat.le_refl _) _) 1
            have G0 : J (upto true p place t.links k) (wr.alloc (.cells #[.int .i64 x.id, .int .i64 x.fr, .int .i64 x.to, .int .i64 x.steps, .int .i64 x.paces] 45)).drew ∧ FromIn w1 g1 g2 #[.slice A nn c, .slice (some ⟨b, off, none⟩) m d, .bool true, .func (.func F) #[] C] place (wr.alloc (.cells #[.int .i64 x.id, .int .i64 x.fr, .int .i64 x.to, .int .i64 x.steps, .int .i64 x.paces] 45)).drew ∧ Blk (wr.alloc (.cells #[.int .i64 x.id, .int .i64 x.fr, .int .i64 x.to, .int .i64 x.steps, .int .i64 x.paces] 45)).drew wr.heap.size 45 #[.int .i64 x.id, .int .i64 x.fr, .int .i64 x.to, .int .i64 x.steps, .int .i64 x.paces] ∧ W0.heap.size ≤ (wr.alloc (.cells #[.int .i64 x.id, .int .i64 x.fr, .int .i64 x.to, .int .i64 x.steps, .int .i64 x.paces] 45)).drew.heap.size :=
              ⟨HJ.out _ _ _ none HJs.out (grown_of_below B0 none) (fun r e => by cases e), HI.out.grow B0, Blk.new wr _ _, Nat.le_trans hsz B0.size⟩
            clear B0
            gi_wp2
            refine wpIn_region_stepsD (by kernel_rfl) (by kernel_rfl) (fun σ : YGh × (Nat → Value) => { tmps := #[.func (.yield l) #[] #[], .pointer (some ⟨g1, 0, none⟩), .pointer (some ⟨g2, 0, none⟩), undef, undef, .pointer (some ⟨wr.heap.size, 0, none⟩), .pointer (some ⟨g1, 0, none⟩), .pointer (some ⟨g1, 1, none⟩), .slice (some ⟨b, off, none⟩) m d, .int .i64 (m : Int), .int .i64 (k : Int), .bool true, .pointer (some ⟨b, off + k * 5, none⟩), .agg #[.int .i64 x.id, .int .i64 x.fr, .int .i64 x.to, .int .i64 x.steps, .int .i64 x.paces], .pointer (some ⟨g1, 2, none⟩), .bool true, .bool true, .pointer (some ⟨wr.heap.size, 3, none⟩), .int .i64 x.steps, .bool false, .bool false, .int .i64 place, .bool true, .pointer (some ⟨wr.heap.size, 1, none⟩), .int .i64 x.fr, .bool true, σ.2 26, σ.2 27, σ.2 28, σ.2 29, σ.2 30, σ.2 31, σ.2 32, σ.2 33, σ.2 34, σ.2 35, u36, u37, u38, u39, u40, u41, u42, u43, u44, u45, u46, u47, u48, u49, u50], defers := [] })
              (fun L σ W => (L 8 = false → J (upto true p place t.links k) W ∧ FromIn w1 g1 g2 #[.slice A nn c, .slice (some ⟨b, off, none⟩) m d, .bool true, .func (.func F) #[] C] place W ∧ Blk W wr.heap.size 45 #[.int .i64 x.id, .int .i64 x.fr, .int .i64 x.to, .int .i64 x.steps, .int .i64 x.paces] ∧ W0.heap.size ≤ W.heap.size) ∧ (L 8 = true → (σ.1.b = true ∧ J (upto true p place t.links (k + 1)) W ∧ FromIn w1 g1 g2 #[.slice A nn c, .slice (some ⟨b, off, none⟩) m d, .bool true, .func (.func F) #[] C] place W ∧ W0.heap.size ≤ W.heap.size) ∨ (σ.1.b = false ∧ Jx (upto true p place t.links (k + 1)) W)) ∧ (L 0 = true → σ.2 26 = .func (.yield l) #[] #[]) ∧ (L 1 = true → σ.2 27 = .agg #[.int .i64 x.id, .int .i64 x.fr, .int .i64 x.to, .int .i64 x.steps, .int .i64 x.paces]) ∧ (L 2 = true → σ.2 28 = .pointer (some ⟨wr.heap.size, 2, none⟩)) ∧ (L 3 = true → σ.2 29 = .int .i64 x.to) ∧ (L 4 = true → σ.2 30 = .agg #[.slice A nn c, .slice (some ⟨b, off, none⟩) m d, .bool true, .func (.func F) #[] C]) ∧ (L 5 = true → σ.2 31 = .agg #[.int .i64 x.id, .int .i64 x.fr, .int .i64 x.to, .int .i64 x.steps, .int .i64 x.paces]) ∧ (L 6 = true → σ.2 32 = .agg #[.int .i64 (costOf p x true).a, .int .i64 (costOf p x true).b, .int .i64 (costOf p x true).c, .int .i64 (costOf p x true).d]) ∧ (L 7 = true → σ.2 33 = .agg #[.int .i64 x.to, .int .i64 (costOf p x true).a, .int .i64 (costOf p x true).b, .int .i64 (costOf p x true).c, .int .i64 (costOf p x true).d, .slice none 0 0]) ∧ (L 8 = true → σ.2 34 = .bool σ.1.b) ∧ (L 9 = true → σ.2 35 = .bool (!σ.1.b)))
              (⟨false⟩, fun k => (#[u26, u27, u28, u29, u30, u31, u32, u33, u34, u35] : Array Value).getD (k - 26) undef) rfl ?_ ?_ ?_
            · exact ⟨(fun _ => G0), (fun h => by cases h), (fun h => by cases h), (fun h => by cases h), (fun h => by cases h), (fun h => by cases h), (fun h => by cases h), (fun h => by cases h), (fun h => by cases h), (fun h => by cases h), (fun h => by cases h), (fun h => by cases h)⟩
            · refine ⟨?_, ?_, ?_, ?_, ?_, ?_, ?_, ?_, ?_, ?_, trivial⟩
              · rintro L ⟨gh, s⟩ W hu hd hdn ⟨gJ, gY, f0, f1, f2, f3, f4, f5, f6, f7, f8, f9⟩ K Q hK
                try dsimp only at gJ gY f0 f1 f2 f3 f4 f5 f6 f7 f8 f9 ⊢
                have HF := Lib.hid (show (L 8 = false → J (upto true p place t.links k) W ∧ FromIn w1 g1 g2 #[.slice A nn c, .slice (some ⟨b, off, none⟩) m d, .bool true, .func (.func F) #[] C] place W ∧ Blk W wr.heap.size 45 #[.int .i64 x.id, .int .i64 x.fr, .int .i64 x.to, .int .i64 x.steps, .int .i64 x.paces] ∧ W0.heap.size ≤ W.heap.size) ∧ (L 8 = true → (gh.b = true ∧ J (upto true p place t.links (k + 1)) W ∧ FromIn w1 g1 g2 #[.slice A nn c, .slice (some ⟨b, off, none⟩) m d, .bool true, .func (.func F) #[] C] place W ∧ W0.heap.size ≤ W.heap.size) ∨ (gh.b = false ∧ Jx (upto true p place t.links (k + 1)) W)) ∧ (L 0 = true → s 26 = .func (.yield l) #[] #[]) ∧ (L 1 = true → s 27 = .agg #[.int .i64 x.id, .int .i64 x.fr, .int .i64 x.to, .int .i64 x.steps, .int .i64 x.paces]) ∧ (L 2 = true → s 28 = .pointer (some ⟨wr.heap.size, 2, none⟩)) ∧ (L 3 = true → s 29 = .int .i64 x.to) ∧ (L 4 = true → s 30 = .agg #[.slice A nn c, .slice (some ⟨b, off, none⟩) m d, .bool true, .func (.func F) #[] C]) ∧ (L 5 = true → s 31 = .agg #[.int .i64 x.id, .int .i64 x.fr, .int .i64 x.to, .int .i64 x.steps, .int .i64 x.paces]) ∧ (L 6 = true → s 32 = .agg #[.int .i64 (costOf p x true).a, .int .i64 (costOf p x true).b, .int .i64 (costOf p x true).c, .int .i64 (costOf p x true).d]) ∧ (L 7 = true → s 33 = .agg #[.int .i64 x.to, .int .i64 (costOf p x true).a, .int .i64 (costOf p x true).b, .int .i64 (costOf p x true).c, .int .i64 (costOf p x true).d, .slice none 0 0]) ∧ (L 8 = true → s 34 = .bool gh.b) ∧ (L 9 = true → s 35 = .bool (!gh.b)) from ⟨gJ, gY, f0, f1, f2, f3, f4, f5, f6, f7, f8, f9⟩)
                clear f9 f8 f7 f6 f5 f4 f3 f2 f1 f0 gY gJ hd
                try simp only
                gi_wp2
                obtain ⟨gJ, gY, f0, f1, f2, f3, f4, f5, f6, f7, f8, f9⟩ := HF.out
                exact hK (gh, (upd s 26 (.func (.yield l) #[] #[]))) _ ⟨gJ, gY, (fun _ => rfl), f1, f2, f3, f4, f5, f6, f7, f8, f9⟩
              · rintro L ⟨gh, s⟩ W hu hd hdn ⟨gJ, gY, f0, f1, f2, f3, f4, f5, f6, f7, f8, f9⟩ K Q hK
                try dsimp only at gJ gY f0 f1 f2 f3 f4 f5 f6 f7 f8 f9 ⊢
                have h8 : L 8 = false := by
                  cases hc : L 8 with
                  | false => rfl
                  | true => exact hdn.no 8 1 hc rfl hu
                have G := (gJ h8).2.2.1
                have c0 : W.cell? ⟨wr.heap.size, 0, none⟩ = some (.int .i64 x.id) := G.cell 0
                have c1 : W.cell? ⟨wr.heap.size, 1, none⟩ = some (.int .i64 x.fr) := G.cell 1
                have c2 : W.cell? ⟨wr.heap.size, 2, none⟩ = some (.int .i64 x.to) := G.cell 2
                have c3 : W.cell? ⟨wr.heap.size, 3, none⟩ = some (.int .i64 x.steps) := G.cell 3
                have c4 : W.cell? ⟨wr.heap.size, 4, none⟩ = some (.int .i64 x.paces) := G.cell 4
                clear G
                have HF := Lib.hid (show (L 8 = false → J (upto true p place t.links k) W ∧ FromIn w1 g1 g2 #[.slice A nn c, .slice (some ⟨b, off, none⟩) m d, .bool true, .func (.func F) #[] C] place W ∧ Blk W wr.heap.size 45 #[.int .i64 x.id, .int .i64 x.fr, .int .i64 x.to, .int .i64 x.steps, .int .i64 x.paces] ∧ W0.heap.size ≤ W.heap.size) ∧ (L 8 = true → (gh.b = true ∧ J (upto true p place t.links (k + 1)) W ∧ FromIn w1 g1 g2 #[.slice A nn c, .slice (some ⟨b, off, none⟩) m d, .bool true, .func (.func F) #[] C] place W ∧ W0.heap.size ≤ W.heap.size) ∨ (gh.b = false ∧ Jx (upto true p place t.links (k + 1)) W)) ∧ (L 0 = true → s 26 = .func (.yield l) #[] #[]) ∧ (L 1 = true → s 27 = .agg #[.int .i64 x.id, .int .i64 x.fr, .int .i64 x.to, .int .i64 x.steps, .int .i64 x.paces]) ∧ (L 2 = true → s 28 = .pointer (some ⟨wr.heap.size, 2, none⟩)) ∧ (L 3 = true → s 29 = .int .i64 x.to) ∧ (L 4 = true → s 30 = .agg #[.slice A nn c, .slice (some ⟨b, off, none⟩) m d, .bool true, .func (.func F) #[] C]) ∧ (L 5 = true → s 31 = .agg #[.int .i64 x.id, .int .i64 x.fr, .int .i64 x.to, .int .i64 x.steps, .int .i64 x.paces]) ∧ (L 6 = true → s 32 = .agg #[.int .i64 (costOf p x true).a, .int .i64 (costOf p x true).b, .int .i64 (costOf p x true).c, .int .i64 (costOf p x true).d]) ∧ (L 7 = true → s 33 = .agg #[.int .i64 x.to, .int .i64 (costOf p x true).a, .int .i64 (costOf p x true).b, .int .i64 (costOf p x true).c, .int .i64 (costOf p x true).d, .slice none 0 0]) ∧ (L 8 = true → s 34 = .bool gh.b) ∧ (L 9 = true → s 35 = .bool (!gh.b)) from ⟨gJ, gY, f0, f1, f2, f3, f4, f5, f6, f7, f8, f9⟩)
                clear f9 f8 f7 f6 f5 f4 f3 f2 f1 f0 gY gJ hd
                try simp only
                gi_wp2
                obtain ⟨gJ, gY, f0, f1, f2, f3, f4, f5, f6, f7, f8, f9⟩ := HF.out
                exact hK (gh, (upd s 27 (.agg #[.int .i64 x.id, .int .i64 x.fr, .int .i64 x.to, .int .i64 x.steps, .int .i64 x.paces]))) _ ⟨gJ, gY, f0, (fun _ => rfl), f2, f3, f4, f5, f6, f7, f8, f9⟩
              · rintro L ⟨gh, s⟩ W hu hd hdn ⟨gJ, gY, f0, f1, f2, f3, f4, f5, f6, f7, f8, f9⟩ K Q hK
                try dsimp only at gJ gY f0 f1 f2 f3 f4 f5 f6 f7 f8 f9 ⊢
                have HF := Lib.hid (show (L 8 = false → J (upto true p place t.links k) W ∧ FromIn w1 g1 g2 #[.slice A nn c, .slice (some ⟨b, off, none⟩) m d, .bool true, .func (.func F) #[] C] place W ∧ Blk W wr.heap.size 45 #[.int .i64 x.id, .int .i64 x.fr, .int .i64 x.to, .int .i64 x.steps, .int .i64 x.paces] ∧ W0.heap.size ≤ W.heap.size) ∧ (L 8 = true → (gh.b = true ∧ J (upto true p place t.links (k + 1)) W ∧ FromIn w1 g1 g2 #[.slice A nn c, .slice (some ⟨b, off, none⟩) m d, .bool true, .func (.func F) #[] C] place W ∧ W0.heap.size ≤ W.heap.size) ∨ (gh.b = false ∧ Jx (upto true p place t.links (k + 1)) W)) ∧ (L 0 = true → s 26 = .func (.yield l) #[] #[]) ∧ (L 1 = true → s 27 = .agg #[.int .i64 x.id, .int .i64 x.fr, .int .i64 x.to, .int .i64 x.steps, .int .i64 x.paces]) ∧ (L 2 = true → s 28 = .pointer (some ⟨wr.heap.size, 2, none⟩)) ∧ (L 3 = true → s 29 = .int .i64 x.to) ∧ (L 4 = true → s 30 = .agg #[.slice A nn c, .slice (some ⟨b, off, none⟩) m d, .bool true, .func (.func F) #[] C]) ∧ (L 5 = true → s 31 = .agg #[.int .i64 x.id, .int .i64 x.fr, .int .i64 x.to, .int .i64 x.steps, .int .i64 x.paces]) ∧ (L 6 = true → s 32 = .agg #[.int .i64 (costOf p x true).a, .int .i64 (costOf p x true).b, .int .i64 (costOf p x true).c, .int .i64 (costOf p x true).d]) ∧ (L 7 = true → s 33 = .agg #[.int .i64 x.to, .int .i64 (costOf p x true).a, .int .i64 (costOf p x true).b, .int .i64 (costOf p x true).c, .int .i64 (costOf p x true).d, .slice none 0 0]) ∧ (L 8 = true → s 34 = .bool gh.b) ∧ (L 9 = true → s 35 = .bool (!gh.b)) from ⟨gJ, gY, f0, f1, f2, f3, f4, f5, f6, f7, f8, f9⟩)
                clear f9 f8 f7 f6 f5 f4 f3 f2 f1 f0 gY gJ hd
                try simp only
                gi_wp2
                obtain ⟨gJ, gY, f0, f1, f2, f3, f4, f5, f6, f7, f8, f9⟩ := HF.out
                exact hK (gh, (upd s 28 (.pointer (some ⟨wr.heap.size, 2, none⟩)))) _ ⟨gJ, gY, f0, f1, (fun _ => rfl), f3, f4, f5, f6, f7, f8, f9⟩
              · rintro L ⟨gh, s⟩ W hu hd hdn ⟨gJ, gY, f0, f1, f2, f3, f4, f5, f6, f7, f8, f9⟩ K Q hK
                try dsimp only at gJ gY f0 f1 f2 f3 f4 f5 f6 f7 f8 f9 ⊢
                have e2 := f2 (hd.at_ 2 rfl)
                have h8 : L 8 = false := by
                  cases hc : L 8 with
                  | false => rfl
                  | true => exact hdn.no 7 3 (hdn.at_ 8 7 hc rfl) rfl hu
                have G := (gJ h8).2.2.1
                have c0 : W.cell? ⟨wr.heap.size, 0, none⟩ = some (.int .i64 x.id) := G.cell 0
                have c1 : W.cell? ⟨wr.heap.size, 1, none⟩ = some (.int .i64 x.fr) := G.cell 1
                have c2 : W.cell? ⟨wr.heap.size, 2, none⟩ = some (.int .i64 x.to) := G.cell 2
                have c3 : W.cell? ⟨wr.heap.size, 3, none⟩ = some (.int .i64 x.steps) := G.cell 3
                have c4 : W.cell? ⟨wr.heap.size, 4, none⟩ = some (.int .i64 x.paces) := G.cell 4
                clear G
                have HF := Lib.hid (show (L 8 = false → J (upto true p place t.links k) W ∧ FromIn w1 g1 g2 #[.slice A nn c, .slice (some ⟨b, off, none⟩) m d, .bool true, .func (.func F) #[] C] place W ∧ Blk W wr.heap.size 45 #[.int .i64 x.id, .int .i64 x.fr, .int .i64 x.to, .int .i64 x.steps, .int .i64 x.paces] ∧ W0.heap.size ≤ W.heap.size) ∧ (L 8 = true → (gh.b = true ∧ J (upto true p place t.links (k + 1)) W ∧ FromIn w1 g1 g2 #[.slice A nn c, .slice (some ⟨b, off, none⟩) m d, .bool true, .func (.func F) #[] C] place W ∧ W0.heap.size ≤ W.heap.size) ∨ (gh.b = false ∧ Jx (upto true p place t.links (k + 1)) W)) ∧ (L 0 = true → s 26 = .func (.yield l) #[] #[]) ∧ (L 1 = true → s 27 = .agg #[.int .i64 x.id, .int .i64 x.fr, .int .i64 x.to, .int .i64 x.steps, .int .i64 x.paces]) ∧ (L 2 = true → s 28 = .pointer (some ⟨wr.heap.size, 2, none⟩)) ∧ (L 3 = true → s 29 = .int .i64 x.to) ∧ (L 4 = true → s 30 = .agg #[.slice A nn c, .slice (some ⟨b, off, none⟩) m d, .bool true, .func (.func F) #[] C]) ∧ (L 5 = true → s 31 = .agg #[.int .i64 x.id, .int .i64 x.fr, .int .i64 x.to, .int .i64 x.steps, .int .i64 x.paces]) ∧ (L 6 = true → s 32 = .agg #[.int .i64 (costOf p x true).a, .int .i64 (costOf p x true).b, .int .i64 (costOf p x true).c, .int .i64 (costOf p x true).d]) ∧ (L 7 = true → s 33 = .agg #[.int .i64 x.to, .int .i64 (costOf p x true).a, .int .i64 (costOf p x true).b, .int .i64 (costOf p x true).c, .int .i64 (costOf p x true).d, .slice none 0 0]) ∧ (L 8 = true → s 34 = .bool gh.b) ∧ (L 9 = true → s 35 = .bool (!gh.b)) from ⟨gJ, gY, f0, f1, f2, f3, f4, f5, f6, f7, f8, f9⟩)
                clear f9 f8 f7 f6 f5 f4 f3 f2 f1 f0 gY gJ hd
                try simp only at e2 ⊢
                gi_wp2
                obtain ⟨gJ, gY, f0, f1, f2, f3, f4, f5, f6, f7, f8, f9⟩ := HF.out
                exact hK (gh, (upd (upd s 28 (.pointer (some ⟨wr.heap.size, 2, none⟩))) 29 (.int .i64 x.to))) _ ⟨gJ, gY, f0, f1, (fun _ => rfl), (fun _ => rfl), f4, f5, f6, f7, f8, f9⟩
              · rintro L ⟨gh, s⟩ W hu hd hdn ⟨gJ, gY, f0, f1, f2, f3, f4, f5, f6, f7, f8, f9⟩ K Q hK
                try dsimp only at gJ gY f0 f1 f2 f3 f4 f5 f6 f7 f8 f9 ⊢
                have h8 : L 8 = false := by
                  cases hc : L 8 with
                  | false => rfl
                  | true => exact hdn.no 6 4 (hdn.at_ 8 6 hc rfl) rfl hu
                have G := (gJ h8).2.1.chart
                have c0 : W.cell? ⟨g1, 0, none⟩ = some (.slice A nn c) := G.cell 0
                have c1 : W.cell? ⟨g1, 1, none⟩ = some (.slice (some ⟨b, off, none⟩) m d) := G.cell 1
                have c2 : W.cell? ⟨g1, 2, none⟩ = some (.bool true) := G.cell 2
                have c3 : W.cell? ⟨g1, 3, none⟩ = some (.func (.func F) #[] C) := G.cell 3
                clear G
                have HF := Lib.hid (show (L 8 = false → J (upto true p place t.links k) W ∧ FromIn w1 g1 g2 #[.slice A nn c, .slice (some ⟨b, off, none⟩) m d, .bool true, .func (.func F) #[] C] place W ∧ Blk W wr.heap.size 45 #[.int .i64 x.id, .int .i64 x.fr, .int .i64 x.to, .int .i64 x.steps, .int .i64 x.paces] ∧ W0.heap.size ≤ W.heap.size) ∧ (L 8 = true → (gh.b = true ∧ J (upto true p place t.links (k + 1)) W ∧ FromIn w1 g1 g2 #[.slice A nn c, .slice (some ⟨b, off, none⟩) m d, .bool true, .func (.func F) #[] C] place W ∧ W0.heap.size ≤ W.heap.size) ∨ (gh.b = false ∧ Jx (upto true p place t.links (k + 1)) W)) ∧ (L 0 = true → s 26 = .func (.yield l) #[] #[]) ∧ (L 1 = true → s 27 = .agg #[.int .i64 x.id, .int .i64 x.fr, .int .i64 x.to, .int .i64 x.steps, .int .i64 x.paces]) ∧ (L 2 = true → s 28 = .pointer (some ⟨wr.heap.size, 2, none⟩)) ∧ (L 3 = true → s 29 = .int .i64 x.to) ∧ (L 4 = true → s 30 = .agg #[.slice A nn c, .slice (some ⟨b, off, none⟩) m d, .bool true, .func (.func F) #[] C]) ∧ (L 5 = true → s 31 = .agg #[.int .i64 x.id, .int .i64 x.fr, .int .i64 x.to, .int .i64 x.steps, .int .i64 x.paces]) ∧ (L 6 = true → s 32 = .agg #[.int .i64 (costOf p x true).a, .int .i64 (costOf p x true).b, .int .i64 (costOf p x true).c, .int .i64 (costOf p x true).d]) ∧ (L 7 = true → s 33 = .agg #[.int .i64 x.to, .int .i64 (costOf p x true).a, .int .i64 (costOf p x true).b, .int .i64 (costOf p x true).c, .int .i64 (costOf p x true).d, .slice none 0 0]) ∧ (L 8 = true → s 34 = .bool gh.b) ∧ (L 9 = true → s 35 = .bool (!gh.b)) from ⟨gJ, gY, f0, f1, f2, f3, f4, f5, f6, f7, f8, f9⟩)
                clear f9 f8 f7 f6 f5 f4 f3 f2 f1 f0 gY gJ hd
                try simp only
                gi_wp2
                obtain ⟨gJ, gY, f0, f1, f2, f3, f4, f5, f6, f7, f8, f9⟩ := HF.out
                exact hK (gh, (upd s 30 (.agg #[.slice A nn c, .slice (some ⟨b, off, none⟩) m d, .bool true, .func (.func F) #[] C]))) _ ⟨gJ, gY, f0, f1, f2, f3, (fun _ => rfl), f5, f6, f7, f8, f9⟩
              · rintro L ⟨gh, s⟩ W hu hd hdn ⟨gJ, gY, f0, f1, f2, f3, f4, f5, f6, f7, f8, f9⟩ K Q hK
                try dsimp only at gJ gY f0 f1 f2 f3 f4 f5 f6 f7 f8 f9 ⊢
                have h8 : L 8 = false := by
                  cases hc : L 8 with
                  | false => rfl
                  | true => exact hdn.no 6 5 (hdn.at_ 8 6 hc rfl) rfl hu
                have G := (gJ h8).2.2.1
                have c0 : W.cell? ⟨wr.heap.size, 0, none⟩ = some (.int .i64 x.id) := G.cell 0
                have c1 : W.cell? ⟨wr.heap.size, 1, none⟩ = some (.int .i64 x.fr) := G.cell 1
                have c2 : W.cell? ⟨wr.heap.size, 2, none⟩ = some (.int .i64 x.to) := G.cell 2
                have c3 : W.cell? ⟨wr.heap.size, 3, none⟩ = some (.int .i64 x.steps) := G.cell 3
                have c4 : W.cell? ⟨wr.heap.size, 4, none⟩ = some (.int .i64 x.paces) := G.cell 4
                clear G
                have HF := Lib.hid (show (L 8 = false → J (upto true p place t.links k) W ∧ FromIn w1 g1 g2 #[.slice A nn c, .slice (some ⟨b, off, none⟩) m d, .bool true, .func (.func F) #[] C] place W ∧ Blk W wr.heap.size 45 #[.int .i64 x.id, .int .i64 x.fr, .int .i64 x.to, .int .i64 x.steps, .int .i64 x.paces] ∧ W0.heap.size ≤ W.heap.size) ∧ (L 8 = true → (gh.b = true ∧ J (upto true p place t.links (k + 1)) W ∧ FromIn w1 g1 g2 #[.slice A nn c, .slice (some ⟨b, off, none⟩) m d, .bool true, .func (.func F) #[] C] place W ∧ W0.heap.size ≤ W.heap.size) ∨ (gh.b = false ∧ Jx (upto true p place t.links (k + 1)) W)) ∧ (L 0 = true → s 26 = .func (.yield l) #[] #[]) ∧ (L 1 = true → s 27 = .agg #[.int .i64 x.id, .int .i64 x.fr, .int .i64 x.to, .int .i64 x.steps, .int .i64 x.paces]) ∧ (L 2 = true → s 28 = .pointer (some ⟨wr.heap.size, 2, none⟩)) ∧ (L 3 = true → s 29 = .int .i64 x.to) ∧ (L 4 = true → s 30 = .agg #[.slice A nn c, .slice (some ⟨b, off, none⟩) m d, .bool true, .func (.func F) #[] C]) ∧ (L 5 = true → s 31 = .agg #[.int .i64 x.id, .int .i64 x.fr, .int .i64 x.to, .int .i64 x.steps, .int .i64 x.paces]) ∧ (L 6 = true → s 32 = .agg #[.int .i64 (costOf p x true).a, .int .i64 (costOf p x true).b, .int .i64 (costOf p x true).c, .int .i64 (costOf p x true).d]) ∧ (L 7 = true → s 33 = .agg #[.int .i64 x.to, .int .i64 (costOf p x true).a, .int .i64 (costOf p x true).b, .int .i64 (costOf p x true).c, .int .i64 (costOf p x true).d, .slice none 0 0]) ∧ (L 8 = true → s 34 = .bool gh.b) ∧ (L 9 = true → s 35 = .bool (!gh.b)) from ⟨gJ, gY, f0, f1, f2, f3, f4, f5, f6, f7, f8, f9⟩)
                clear f9 f8 f7 f6 f5 f4 f3 f2 f1 f0 gY gJ hd
                try simp only
                gi_wp2
                obtain ⟨gJ, gY, f0, f1, f2, f3, f4, f5, f6, f7, f8, f9⟩ := HF.out
                exact hK (gh, (upd s 31 (.agg #[.int .i64 x.id, .int .i64 x.fr, .int .i64 x.to, .int .i64 x.steps, .int .i64 x.paces]))) _ ⟨gJ, gY, f0, f1, f2, f3, f4, (fun _ => rfl), f6, f7, f8, f9⟩
              · rintro L ⟨gh, s⟩ W hu hd hdn ⟨gJ, gY, f0, f1, f2, f3, f4, f5, f6, f7, f8, f9⟩ K Q hK
                try dsimp only at gJ gY f0 f1 f2 f3 f4 f5 f6 f7 f8 f9 ⊢
                have e4 := f4 (hd.at_ 4 rfl)
                have e5 := f5 (hd.at_ 5 rfl)
                have h8 : L 8 = false := by
                  cases hc : L 8 with
                  | false => rfl
                  | true => exact hdn.no 8 6 hc rfl hu
                have GJ := Lib.hid (gJ h8)
                have HF := Lib.hid (show (L 8 = false → J (upto true p place t.links k) W ∧ FromIn w1 g1 g2 #[.slice A nn c, .slice (some ⟨b, off, none⟩) m d, .bool true, .func (.func F) #[] C] place W ∧ Blk W wr.heap.size 45 #[.int .i64 x.id, .int .i64 x.fr, .int .i64 x.to, .int .i64 x.steps, .int .i64 x.paces] ∧ W0.heap.size ≤ W.heap.size) ∧ (L 8 = true → (gh.b = true ∧ J (upto true p place t.links (k + 1)) W ∧ FromIn w1 g1 g2 #[.slice A nn c, .slice (some ⟨b, off, none⟩) m d, .bool true, .func (.func F) #[] C] place W ∧ W0.heap.size ≤ W.heap.size) ∨ (gh.b = false ∧ Jx (upto true p place t.links (k + 1)) W)) ∧ (L 0 = true → s 26 = .func (.yield l) #[] #[]) ∧ (L 1 = true → s 27 = .agg #[.int .i64 x.id, .int .i64 x.fr, .int .i64 x.to, .int .i64 x.steps, .int .i64 x.paces]) ∧ (L 2 = true → s 28 = .pointer (some ⟨wr.heap.size, 2, none⟩)) ∧ (L 3 = true → s 29 = .int .i64 x.to) ∧ (L 4 = true → s 30 = .agg #[.slice A nn c, .slice (some ⟨b, off, none⟩) m d, .bool true, .func (.func F) #[] C]) ∧ (L 5 = true → s 31 = .agg #[.int .i64 x.id, .int .i64 x.fr, .int .i64 x.to, .int .i64 x.steps, .int .i64 x.paces]) ∧ (L 6 = true → s 32 = .agg #[.int .i64 (costOf p x true).a, .int .i64 (costOf p x true).b, .int .i64 (costOf p x true).c, .int .i64 (costOf p x true).d]) ∧ (L 7 = true → s 33 = .agg #[.int .i64 x.to, .int .i64 (costOf p x true).a, .int .i64 (costOf p x true).b, .int .i64 (costOf p x true).c, .int .i64 (costOf p x true).d, .slice none 0 0]) ∧ (L 8 = true → s 34 = .bool gh.b) ∧ (L 9 = true → s 35 = .bool (!gh.b)) from ⟨gJ, gY, f0, f1, f2, f3, f4, f5, f6, f7, f8, f9⟩)
                clear f9 f8 f7 f6 f5 f4 f3 f2 f1 f0 gY gJ hd
                try simp only at e4 e5 ⊢
                gi_wp2
                refine ⟨trivial, fun _ => by omega, (callsIn_wide.2 (cost_any A nn c (some ⟨b, off, none⟩) m d true F C p x true W (HP.out.below GJ.out.2.1.below) HFX.out)).mono ?_⟩
                rintro e W2 ⟨rfl, hb⟩
                gi_wp2
                obtain ⟨gJ, gY, f0, f1, f2, f3, f4, f5, f6, f7, f8, f9⟩ := HF.out
                exact hK (gh, (upd (upd (upd s 30 (.agg #[.slice A nn c, .slice (some ⟨b, off, none⟩) m d, .bool true, .func (.func F) #[] C])) 31 (.agg #[.int .i64 x.id, .int .i64 x.fr, .int .i64 x.to, .int .i64 x.steps, .int .i64 x.paces])) 32 (.agg #[.int .i64 (costOf p x true).a, .int .i64 (costOf p x true).b, .int .i64 (costOf p x true).c, .int .i64 (costOf p x true).d]))) _ ⟨(fun _ => ⟨HJ.out _ _ _ none GJ.out.1 (grown_of_below hb none) (fun r e => by cases e), GJ.out.2.1.grow hb, GJ.out.2.2.1.below hb GJ.out.2.2.1.lt, Nat.le_trans GJ.out.2.2.2 hb.size⟩), (fun h => hdn.no 8 6 h rfl hu), f0, f1, f2, f3, (fun _ => rfl), (fun _ => rfl), (fun _ => rfl), f7, f8, f9⟩
              · rintro L ⟨gh, s⟩ W hu hd hdn ⟨gJ, gY, f0, f1, f2, f3, f4, f5, f6, f7, f8, f9⟩ K Q hK
                try dsimp only at gJ gY f0 f1 f2 f3 f4 f5 f6 f7 f8 f9 ⊢
                have e3 := f3 (hd.at_ 3 rfl)
                have e6 := f6 (hd.at_ 6 rfl)
                have HF := Lib.hid (show (L 8 = false → J (upto true p place t.links k) W ∧ FromIn w1 g1 g2 #[.slice A nn c, .slice (some ⟨b, off, none⟩) m d, .bool true, .func (.func F) #[] C] place W ∧ Blk W wr.heap.size 45 #[.int .i64 x.id, .int .i64 x.fr, .int .i64 x.to, .int .i64 x.steps, .int .i64 x.paces] ∧ W0.heap.size ≤ W.heap.size) ∧ (L 8 = true → (gh.b = true ∧ J (upto true p place t.links (k + 1)) W ∧ FromIn w1 g1 g2 #[.slice A nn c, .slice (some ⟨b, off, none⟩) m d, .bool true, .func (.func F) #[] C] place W ∧ W0.heap.size ≤ W.heap.size) ∨ (gh.b = false ∧ Jx (upto true p place t.links (k + 1)) W)) ∧ (L 0 = true → s 26 = .func (.yield l) #[] #[]) ∧ (L 1 = true → s 27 = .agg #[.int .i64 x.id, .int .i64 x.fr, .int .i64 x.to, .int .i64 x.steps, .int .i64 x.paces]) ∧ (L 2 = true → s 28 = .pointer (some ⟨wr.heap.size, 2, none⟩)) ∧ (L 3 = true → s 29 = .int .i64 x.to) ∧ (L 4 = true → s 30 = .agg #[.slice A nn c, .slice (some ⟨b, off, none⟩) m d, .bool true, .func (.func F) #[] C]) ∧ (L 5 = true → s 31 = .agg #[.int .i64 x.id, .int .i64 x.fr, .int .i64 x.to, .int .i64 x.steps, .int .i64 x.paces]) ∧ (L 6 = true → s 32 = .agg #[.int .i64 (costOf p x true).a, .int .i64 (costOf p x true).b, .int .i64 (costOf p x true).c, .int .i64 (costOf p x true).d]) ∧ (L 7 = true → s 33 = .agg #[.int .i64 x.to, .int .i64 (costOf p x true).a, .int .i64 (costOf p x true).b, .int .i64 (costOf p x true).c, .int .i64 (costOf p x true).d, .slice none 0 0]) ∧ (L 8 = true → s 34 = .bool gh.b) ∧ (L 9 = true → s 35 = .bool (!gh.b)) from ⟨gJ, gY, f0, f1, f2, f3, f4, f5, f6, f7, f8, f9⟩)
                clear f9 f8 f7 f6 f5 f4 f3 f2 f1 f0 gY gJ hd
                try simp only at e3 e6 ⊢
                gi_wp2
                obtain ⟨gJ, gY, f0, f1, f2, f3, f4, f5, f6, f7, f8, f9⟩ := HF.out
                exact hK (gh, (upd (upd (upd s 29 (.int .i64 x.to)) 32 (.agg #[.int .i64 (costOf p x true).a, .int .i64 (costOf p x true).b, .int .i64 (costOf p x true).c, .int .i64 (costOf p x true).d])) 33 (.agg #[.int .i64 x.to, .int .i64 (costOf p x true).a, .int .i64 (costOf p x true).b, .int .i64 (costOf p x true).c, .int .i64 (costOf p x true).d, .slice none 0 0]))) _ ⟨gJ, gY, f0, f1, f2, (fun _ => rfl), f4, f5, (fun _ => rfl), (fun _ => rfl), f8, f9⟩
              · rintro L ⟨gh, s⟩ W hu hd hdn ⟨gJ, gY, f0, f1, f2, f3, f4, f5, f6, f7, f8, f9⟩ K Q hK
                try dsimp only at gJ gY f0 f1 f2 f3 f4 f5 f6 f7 f8 f9 ⊢
                have e0 := f0 (hd.at_ 0 rfl)
                have e1 := f1 (hd.at_ 1 rfl)
                have e7 := f7 (hd.at_ 7 rfl)
                have h8 : L 8 = false := hu
                have GJ := Lib.hid (gJ h8)
                obtain ⟨fn, tmps, assign, body, hy, hR⟩ := HYY.out W GJ.out.1
                have HF := Lib.hid (show (L 8 = false → J (upto true p place t.links k) W ∧ FromIn w1 g1 g2 #[.slice A nn c, .slice (some ⟨b, off, none⟩) m d, .bool true, .func (.func F) #[] C] place W ∧ Blk W wr.heap.size 45 #[.int .i64 x.id, .int .i64 x.fr, .int .i64 x.to, .int .i64 x.steps, .int .i64 x.paces] ∧ W0.heap.size ≤ W.heap.size) ∧ (L 8 = true → (gh.b = true ∧ J (upto true p place t.links (k + 1)) W ∧ FromIn w1 g1 g2 #[.slice A nn c, .slice (some ⟨b, off, none⟩) m d, .bool true, .func (.func F) #[] C] place W ∧ W0.heap.size ≤ W.heap.size) ∨ (gh.b = false ∧ Jx (upto true p place t.links (k + 1)) W)) ∧ (L 0 = true → s 26 = .func (.yield l) #[] #[]) ∧ (L 1 = true → s 27 = .agg #[.int .i64 x.id, .int .i64 x.fr, .int .i64 x.to, .int .i64 x.steps, .int .i64 x.paces]) ∧ (L 2 = true → s 28 = .pointer (some ⟨wr.heap.size, 2, none⟩)) ∧ (L 3 = true → s 29 = .int .i64 x.to) ∧ (L 4 = true → s 30 = .agg #[.slice A nn c, .slice (some ⟨b, off, none⟩) m d, .bool true, .func (.func F) #[] C]) ∧ (L 5 = true → s 31 = .agg #[.int .i64 x.id, .int .i64 x.fr, .int .i64 x.to, .int .i64 x.steps, .int .i64 x.paces]) ∧ (L 6 = true → s 32 = .agg #[.int .i64 (costOf p x true).a, .int .i64 (costOf p x true).b, .int .i64 (costOf p x true).c, .int .i64 (costOf p x true).d]) ∧ (L 7 = true → s 33 = .agg #[.int .i64 x.to, .int .i64 (costOf p x true).a, .int .i64 (costOf p x true).b, .int .i64 (costOf p x true).c, .int .i64 (costOf p x true).d, .slice none 0 0]) ∧ (L 8 = true → s 34 = .bool gh.b) ∧ (L 9 = true → s 35 = .bool (!gh.b)) from ⟨gJ, gY, f0, f1, f2, f3, f4, f5, f6, f7, f8, f9⟩)
                clear f9 f8 f7 f6 f5 f4 f3 f2 f1 f0 gY gJ hd
                try simp only at e0 e1 e7 ⊢
                gi_wp2
                refine ⟨fun _ => by omega, hR.mono ?_⟩
                rintro e W3 hor
                obtain ⟨bb, rfl, hor2⟩ := yieldedB hor
                clear hor
                gi_wp2
                obtain ⟨gJ, gY, f0, f1, f2, f3, f4, f5, f6, f7, f8, f9⟩ := HF.out
                exact hK ((⟨bb⟩ : YGh), (upd (upd (upd (upd s 26 (.func (.yield l) #[] #[])) 27 (.agg #[.int .i64 x.id, .int .i64 x.fr, .int .i64 x.to, .int .i64 x.steps, .int .i64 x.paces])) 33 (.agg #[.int .i64 x.to, .int .i64 (costOf p x true).a, .int .i64 (costOf p x true).b, .int .i64 (costOf p x true).c, .int .i64 (costOf p x true).d, .slice none 0 0])) 34 (.bool bb))) _ ⟨(fun h => by cases h), (fun _ => by
            rcases hor2 with ⟨h1, h2, h3⟩ | ⟨h1, h2⟩
            · exact .inl ⟨h1, h2, GJ.out.2.1.kept h3, Nat.le_trans GJ.out.2.2.2 h3.1.size⟩
            · exact .inr ⟨h1, h2⟩), (fun _ => rfl), (fun _ => rfl), f2, f3, f4, f5, f6, (fun _ => rfl), (fun _ => rfl), (fun h => hdn.no 9 8 h rfl hu)⟩
              · rintro L ⟨gh, s⟩ W hu hd hdn ⟨gJ, gY, f0, f1, f2, f3, f4, f5, f6, f7, f8, f9⟩ K Q hK
                try dsimp only at gJ gY f0 f1 f2 f3 f4 f5 f6 f7 f8 f9 ⊢
                have e8 := f8 (hd.at_ 8 rfl)
                have HF := Lib.hid (show (L 8 = false → J (upto true p place t.links k) W ∧ FromIn w1 g1 g2 #[.slice A nn c, .slice (some ⟨b, off, none⟩) m d, .bool true, .func (.func F) #[] C] place W ∧ Blk W wr.heap.size 45 #[.int .i64 x.id, .int .i64 x.fr, .int .i64 x.to, .int .i64 x.steps, .int .i64 x.paces] ∧ W0.heap.size ≤ W.heap.size) ∧ (L 8 = true → (gh.b = true ∧ J (upto true p place t.links (k + 1)) W ∧ FromIn w1 g1 g2 #[.slice A nn c, .slice (some ⟨b, off, none⟩) m d, .bool true, .func (.func F) #[] C] place W ∧ W0.heap.size ≤ W.heap.size) ∨ (gh.b = false ∧ Jx (upto true p place t.links (k + 1)) W)) ∧ (L 0 = true → s 26 = .func (.yield l) #[] #[]) ∧ (L 1 = true → s 27 = .agg #[.int .i64 x.id, .int .i64 x.fr, .int .i64 x.to, .int .i64 x.steps, .int .i64 x.paces]) ∧ (L 2 = true → s 28 = .pointer (some ⟨wr.heap.size, 2, none⟩)) ∧ (L 3 = true → s 29 = .int .i64 x.to) ∧ (L 4 = true → s 30 = .agg #[.slice A nn c, .slice (some ⟨b, off, none⟩) m d, .bool true, .func (.func F) #[] C]) ∧ (L 5 = true → s 31 = .agg #[.int .i64 x.id, .int .i64 x.fr, .int .i64 x.to, .int .i64 x.steps, .int .i64 x.paces]) ∧ (L 6 = true → s 32 = .agg #[.int .i64 (costOf p x true).a, .int .i64 (costOf p x true).b, .int .i64 (costOf p x true).c, .int .i64 (costOf p x true).d]) ∧ (L 7 = true → s 33 = .agg #[.int .i64 x.to, .int .i64 (costOf p x true).a, .int .i64 (costOf p x true).b, .int .i64 (costOf p x true).c, .int .i64 (costOf p x true).d, .slice none 0 0]) ∧ (L 8 = true → s 34 = .bool gh.b) ∧ (L 9 = true → s 35 = .bool (!gh.b)) from ⟨gJ, gY, f0, f1, f2, f3, f4, f5, f6, f7, f8, f9⟩)
                clear f9 f8 f7 f6 f5 f4 f3 f2 f1 f0 gY gJ hd
                try simp only at e8 ⊢
                gi_wp2
                obtain ⟨gJ, gY, f0, f1, f2, f3, f4, f5, f6, f7, f8, f9⟩ := HF.out
                exact hK (gh, (upd (upd s 34 (.bool gh.b)) 35 (.bool (!gh.b)))) _ ⟨gJ, gY, f0, f1, f2, f3, f4, f5, f6, f7, (fun _ => rfl), (fun _ => rfl)⟩
            · rintro L ⟨gh, s⟩ W hall ⟨gJ, gY, f0, f1, f2, f3, f4, f5, f6, f7, f8, f9⟩
              have e9 := f9 (hall 9 (by decide))
              have GY := gY (hall 8 (by decide))
              clear hall gJ gY f0 f1 f2 f3 f4 f5 f6 f7 f8 f9
              rcases GY with ⟨hb, hj, hi, hsz'⟩ | ⟨hb, hjx⟩
              · rw [hb] at e9
                have HJ3 := Lib.hid hj
                have HI3 := Lib.hid hi
                clear hj hi hb
                replace e9 : s 35 = .bool false := e9
                simp only
                rw [e9]
                gi_wp2
                go_roundw
                case rel => exact ⟨k + 1, by omega, by go_num, HJ3.out, HI3.out, by omega⟩
                case measure => simp [intOf]; omega
              · rw [hb] at e9
                have HJ3 := Lib.hid hjx
                clear hjx hb
                replace e9 : s 35 = .bool true := e9
                simp only
                rw [e9]
                gi_wp2
                unfold Exit.noGoto
                refine bodyPost_ret (results_none rfl _ _ _) rfl ?_
                exact ⟨⟨_, rfl⟩, .inr ⟨_, upto_pre _ _ _ _ _, HJ3.out⟩⟩
        · have hfr' : (place == x.fr) = false := by simpa using hfr
          have HFR := Lib.hid hfr
          clear hfr
          by_cases hto : place = x.to
          · have hto' : (place == x.to) = true := by simpa using hto
            have HTO := Lib.hid hto
            clear hto
            rcases (show dk = false ∨ dk = true ∧ ¬ 0 < x.steps by cases dk <;> simp_all) with rfl | ⟨rfl, hst⟩
            · clear hskip
              have hL : leads false p x place = some (x.fr, (costOf p x false)) := by rw [HLD.out]; rw [if_neg (fun e => HFR.out e.symm), if_pos HTO.out.symm]; simp [costOf, priceOf]
              obtain ⟨y, hy1, hy2, hy3⟩ := upto_some HX.out hL
              have HYY : Hid (∀ W, J (upto false p place t.links k) W → YieldAt Fence.wide (n - 1) Tryd.prog l #[.agg #[.int .i64 x.id, .int .i64 x.fr, .int .i64 x.to, .int .i64 x.steps, .int .i64 x.paces], .agg #[.int .i64 x.fr, .int .i64 (costOf p x false).a, .int .i64 (costOf p x false).b, .int .i64 (costOf p x false).c, .int .i64 (costOf p x false).d, .slice none 0 0]] W fun e W' =>
                  (e = .returned (.bool true) ∧ J (upto false p place t.links (k + 1)) W' ∧ FromK w1.heap.size g1 g2 W W') ∨ (e = .returned (.bool false) ∧ Jx (upto false p place t.links (k + 1)) W')) := Lib.hid (fun W hj => by
                have := HY.out _ y W hj hy3
                unfold Out.enc at this
                rw [hy1] at this
                rw [hy2]
                exact this)
              clear hL hy1 hy2 hy3
              have B0 : Below wr.heap.size wr (wr.alloc (.cells #[.int .i64 x.id, .int .i64 x.fr, .int .i64 x.to, .int .i64 x.steps, .int .i64 x.paces] 45)).drew := below_drewN ((Below.refl _ _).alloc (Nat.le_refl _) _) 1
              have G0 : J (upto false p place t.links k) (wr.alloc (.cells #[.int .i64 x.id, .int .i64 x.fr, .int .i64 x.to, .int .i64 x.steps, .int .i64 x.paces] 45)).drew ∧ FromIn w1 g1 g2 #[.slice A nn c, .slice (some ⟨b, off, none⟩) m d, .bool false, .func (.func F) #[] C] place (wr.alloc (.cells #[.int .i64 x.id, .int .i64 x.fr, .int .i64 x.to, .int .i64 x.steps, .int .i64 x.paces] 45)).drew ∧ Blk (wr.alloc (.cells #[.int .i64 x.id, .int .i64 x.fr, .int .i64 x.to, .int .i64 x.steps, .int .i64 x.paces] 45)).drew wr.heap.size 45 #[.int .i64 x.id, .int .i64 x.fr, .int .i64 x.to, .int .i64 x.steps, .int .i64 x.paces] ∧ W0.heap.size ≤ (wr.alloc (.cells #[.int .i64 x.id, .int .i64 x.fr, .int .i64 x.to, .int .i64 x.steps, .int .i64 x.paces] 45)).drew.heap.size :=
                ⟨HJ.out _ _ _ none HJs.out (grown_of_below B0 none) (fun r e => by cases e), HI.out.grow B0, Blk.new wr _ _, Nat.le_trans hsz B0.size⟩
              clear B0
              gi_wp2
              refine wpIn_region_stepsD (by kernel_rfl) (by kernel_rfl) (fun σ : YGh × (Nat → Value) => { tmps := #[.func (.yield l) #[] #[], .pointer (some ⟨g1, 0, none⟩), .pointer (some ⟨g2, 0, none⟩), undef, undef, .pointer (some ⟨wr.heap.size, 0, none⟩), .pointer (some ⟨g1, 0, none⟩), .pointer (some ⟨g1, 1, none⟩), .slice (some ⟨b, off, none⟩) m d, .int .i64 (m : Int), .int .i64 (k : Int), .bool true, .pointer (some ⟨b, off + k * 5, none⟩), .agg #[.int .i64 x.id, .int .i64 x.fr, .int .i64 x.to, .int .i64 x.steps, .int .i64 x.paces], .pointer (some ⟨g1, 2, none⟩), .bool false, .bool false, undef, undef, undef, .bool false, .int .i64 place, .bool false, .pointer (some ⟨wr.heap.size, 1, none⟩), .int .i64 x.fr, .bool false, u26, u27, u28, u29, u30, u31, u32, u33, u34, u35, .bool true, .pointer (some ⟨wr.heap.size, 2, none⟩), .int .i64 x.to, .bool true, σ.2 40, σ.2 41, σ.2 42, σ.2 43, σ.2 44, σ.2 45, σ.2 46, σ.2 47, σ.2 48, σ.2 49, u50], defers := [] })
                (fun L σ W => (L 8 = false → J (upto false p place t.links k) W ∧ FromIn w1 g1 g2 #[.slice A nn c, .slice (some ⟨b, off, none⟩) m d, .bool false, .func (.func F) #[] C] place W ∧ Blk W wr.heap.size 45 #[.int .i64 x.id, .int .i64 x.fr, .int .i64 x.to, .int .i64 x.steps, .int .i64 x.paces] ∧ W0.heap.size ≤ W.heap.size) ∧ (L 8 = true → (σ.1.b = true ∧ J (upto false p place t.links (k + 1)) W ∧ FromIn w1 g1 g2 #[.slice A nn c, .slice (some ⟨b, off, none⟩) m d, .bool false, .func (.func F) #[] C] place W ∧ W0.heap.size ≤ W.heap.size) ∨ (σ.1.b = false ∧ Jx (upto false p place t.links (k + 1)) W)) ∧ (L 0 = true → σ.2 40 = .func (.yield l) #[] #[]) ∧ (L 1 = true → σ.2 41 = .agg #[.int .i64 x.id, .int .i64 x.fr, .int .i64 x.to, .int .i64 x.steps, .int .i64 x.paces]) ∧ (L 2 = true → σ.2 42 = .pointer (some ⟨wr.heap.size, 1, none⟩)) ∧ (L 3 = true → σ.2 43 = .int .i64 x.fr) ∧ (L 4 = true → σ.2 44 = .agg #[.slice A nn c, .slice (some ⟨b, off, none⟩) m d, .bool false, .func (.func F) #[] C]) ∧ (L 5 = true → σ.2 45 = .agg #[.int .i64 x.id, .int .i64 x.fr, .int .i64 x.to, .int .i64 x.steps, .int .i64 x.paces]) ∧ (L 6 = true → σ.2 46 = .agg #[.int .i64 (costOf p x false).a, .int .i64 (costOf p x false).b, .int .i64 (costOf p x false).c, .int .i64 (costOf p x false).d]) ∧ (L 7 = true → σ.2 47 = .agg #[.int .i64 x.fr, .int .i64 (costOf p x false).a, .int .i64 (costOf p x false).b, .int .i64 (costOf p x false).c, .int .i64 (costOf p x false).d, .slice none 0 0]) ∧ (L 8 = true → σ.2 48 = .bool σ.1.b) ∧ (L 9 = true → σ.2 49 = .bool (!σ.1.b)))
                (⟨false⟩, fun k => (#[u40, u41, u42, u43, u44, u45, u46, u47, u48, u49] : Array Value).getD (k - 40) undef) rfl ?_ ?_ ?_
              · exact ⟨(fun _ => G0), (fun h => by cases h), (fun h => by cases h), (fun h => by cases h), (fun h => by cases h), (fun h => by cases h), (fun h => by cases h), (fun h => by cases h), (fun h => by cases h), (fun h => by cases h), (fun h => by cases h), (fun h => by cases h)⟩
              · refine ⟨?_, ?_, ?_, ?_, ?_, ?_, ?_, ?_, ?_, ?_, trivial⟩
                · rintro L ⟨gh, s⟩ W hu hd hdn ⟨gJ, gY, f0, f1, f2, f3, f4, f5, f6, f7, f8, f9⟩ K Q hK
                  try dsimp only at gJ gY f0 f1 f2 f3 f4 f5 f6 f7 f8 f9 ⊢
                  have HF := Lib.hid (show (L 8 = false → J (upto false p place t.links k) W ∧ FromIn w1 g1 g2 #[.slice A nn c, .slice (some ⟨b, off, none⟩) m d, .bool false, .func (.func F) #[] C] place W ∧ Blk W wr.heap.size 45 #[.int .i64 x.id, .int .i64 x.fr, .int .i64 x.to, .int .i64 x.steps, .int .i64 x.paces] ∧ W0.heap.size ≤ W.heap.size) ∧ (L 8 = true → (gh.b = true ∧ J (upto false p place t.links (k + 1)) W ∧ FromIn w1 g1 g2 #[.slice A nn c, .slice (some ⟨b, off, none⟩) m d, .bool false, .func (.func F) #[] C] place W ∧ W0.heap.size ≤ W.heap.size) ∨ (gh.b = false ∧ Jx (upto false p place t.links (k + 1)) W)) ∧ (L 0 = true → s 40 = .func (.yield l) #[] #[]) ∧ (L 1 = true → s 41 = .agg #[.int .i64 x.id, .int .i64 x.fr, .int .i64 x.to, .int .i64 x.steps, .int .i64 x.paces]) ∧ (L 2 = true → s 42 = .pointer (some ⟨wr.heap.size, 1, none⟩)) ∧ (L 3 = true → s 43 = .int .i64 x.fr) ∧ (L 4 = true → s 44 = .agg #[.slice A nn c, .slice (some ⟨b, off, none⟩) m d, .bool false, .func (.func F) #[] C]) ∧ (L 5 = true → s 45 = .agg #[.int .i64 x.id, .int .i64 x.fr, .int .i64 x.to, .int .i64 x.steps, .int .i64 x.paces]) ∧ (L 6 = true → s 46 = .agg #[.int .i64 (costOf p x false).a, .int .i64 (costOf p x false).b, .int .i64 (costOf p x false).c, .int .i64 (costOf p x false).d]) ∧ (L 7 = true → s 47 = .agg #[.int .i64 x.fr, .int .i64 (costOf p x false).a, .int .i64 (costOf p x false).b, .int .i64 (costOf p x false).c, .int .i64 (costOf p x false).d, .slice none 0 0]) ∧ (L 8 = true → s 48 = .bool gh.b) ∧ (L 9 = true → s 49 = .bool (!gh.b)) from ⟨gJ, gY, f0, f1, f2, f3, f4, f5, f6, f7, f8, f9⟩)
                  clear f9 f8 f7 f6 f5 f4 f3 f2 f1 f0 gY gJ hd
                  try simp only
                  gi_wp2
                  obtain ⟨gJ, gY, f0, f1, f2, f3, f4, f5, f6, f7, f8, f9⟩ := HF.out
                  exact hK (gh, (upd s 40 (.func (.yield l) #[] #[]))) _ ⟨gJ, gY, (fun _ => rfl), f1, f2, f3, f4, f5, f6, f7, f8, f9⟩
                · rintro L ⟨gh, s⟩ W hu hd hdn ⟨gJ, gY, f0, f1, f2, f3, f4, f5, f6, f7, f8, f9⟩ K Q hK
                  try dsimp only at gJ gY f0 f1 f2 f3 f4 f5 f6 f7 f8 f9 ⊢
                  have h8 : L 8 = false := by
                    cases hc : L 8 with
                    | false => rfl
                    | true => exact hdn.no 8 1 hc rfl hu
                  have G := (gJ h8).2.2.1
                  have c0 : W.cell? ⟨wr.heap.size, 0, none⟩ = some (.int .i64 x.id) := G.cell 0
                  have c1 : W.cell? ⟨wr.heap.size, 1, none⟩ = some (.int .i64 x.fr) := G.cell 1
                  have c2 : W.cell? ⟨wr.heap.size, 2, none⟩ = some (.int .i64 x.to) := G.cell 2
                  have c3 : W.cell? ⟨wr.heap.size, 3, none⟩ = some (.int .i64 x.steps) := G.cell 3
                  have c4 : W.cell? ⟨wr.heap.size, 4, none⟩ = some (.int .i64 x.paces) := G.cell 4
                  clear G
                  have HF := Lib.hid (show (L 8 = false → J (upto false p place t.links k) W ∧ FromIn w1 g1 g2 #[.slice A nn c, .slice (some ⟨b, off, none⟩) m d, .bool false, .func (.func F) #[] C] place W ∧ Blk W wr.heap.size 45 #[.int .i64 x.id, .int .i64 x.fr, .int .i64 x.to, .int .i64 x.steps, .int .i64 x.paces] ∧ W0.heap.size ≤ W.heap.size) ∧ (L 8 = true → (gh.b = true ∧ J (upto false p place t.links (k + 1)) W ∧ FromIn w1 g1 g2 #[.slice A nn c, .slice (some ⟨b, off, none⟩) m d, .bool false, .func (.func F) #[] C] place W ∧ W0.heap.size ≤ W.heap.size) ∨ (gh.b = false ∧ Jx (upto false p place t.links (k + 1)) W)) ∧ (L 0 = true → s 40 = .func (.yield l) #[] #[]) ∧ (L 1 = true → s 41 = .agg #[.int .i64 x.id, .int .i64 x.fr, .int .i64 x.to, .int .i64 x.steps, .int .i64 x.paces]) ∧ (L 2 = true → s 42 = .pointer (some ⟨wr.heap.size, 1, none⟩)) ∧ (L 3 = true → s 43 = .int .i64 x.fr) ∧ (L 4 = true → s 44 = .agg #[.slice A nn c, .slice (some ⟨b, off, none⟩) m d, .bool false, .func (.func F) #[] C]) ∧ (L 5 = true → s 45 = .agg #[.int .i64 x.id, .int .i64 x.fr, .int .i64 x.to, .int .i64 x.steps, .int .i64 x.paces]) ∧ (L 6 = true → s 46 = .agg #[.int .i64 (costOf p x false).a, .int .i64 (costOf p x false).b, .int .i64 (costOf p x false).c, .int .i64 (costOf p x false).d]) ∧ (L 7 = true → s 47 = .agg #[.int .i64 x.fr, .int .i64 (costOf p x false).a, .int .i64 (costOf p x false).b, .int .i64 (costOf p x false).c, .int .i64 (costOf p x false).d, .slice none 0 0]) ∧ (L 8 = true → s 48 = .bool gh.b) ∧ (L 9 = true → s 49 = .bool (!gh.b)) from ⟨gJ, gY, f0, f1, f2, f3, f4, f5, f6, f7, f8, f9⟩)
                  clear f9 f8 f7 f6 f5 f4 f3 f2 f1 f0 gY gJ hd
                  try simp only
                  gi_wp2
                  obtain ⟨gJ, gY, f0, f1, f2, f3, f4, f5, f6, f7, f8, f9⟩ := HF.out
                  exact hK (gh, (upd s 41 (.agg #[.int .i64 x.id, .int .i64 x.fr, .int .i64 x.to, .int .i64 x.steps, .int .i64 x.paces]))) _ ⟨gJ, gY, f0, (fun _ => rfl), f2, f3, f4, f5, f6, f7, f8, f9⟩
                · rintro L ⟨gh, s⟩ W hu hd hdn ⟨gJ, gY, f0, f1, f2, f3, f4, f5, f6, f7, f8, f9⟩ K Q hK
                  try dsimp only at gJ gY f0 f1 f2 f3 f4 f5 f6 f7 f8 f9 ⊢
                  have HF := Lib.hid (show (L 8 = false → J (upto false p place t.links k) W ∧ FromIn w1 g1 g2 #[.slice A nn c, .slice (some ⟨b, off, none⟩) m d, .bool false, .func (.func F) #[] C] place W ∧ Blk W wr.heap.size 45 #[.int .i64 x.id, .int .i64 x.fr, .int .i64 x.to, .int .i64 x.steps, .int .i64 x.paces] ∧ W0.heap.size ≤ W.heap.size) ∧ (L 8 = true → (gh.b = true ∧ J (upto false p place t.links (k + 1)) W ∧ FromIn w1 g1 g2 #[.slice A nn c, .slice (some ⟨b, off, none⟩) m d, .bool false, .func (.func F) #[] C] place W ∧ W0.heap.size ≤ W.heap.size) ∨ (gh.b = false ∧ Jx (upto false p place t.links (k + 1)) W)) ∧ (L 0 = true → s 40 = .func (.yield l) #[] #[]) ∧ (L 1 = true → s 41 = .agg #[.int .i64 x.id, .int .i64 x.fr, .int .i64 x.to, .int .i64 x.steps, .int .i64 x.paces]) ∧ (L 2 = true → s 42 = .pointer (some ⟨wr.heap.size, 1, none⟩)) ∧ (L 3 = true → s 43 = .int .i64 x.fr) ∧ (L 4 = true → s 44 = .agg #[.slice A nn c, .slice (some ⟨b, off, none⟩) m d, .bool false, .func (.func F) #[] C]) ∧ (L 5 = true → s 45 = .agg #[.int .i64 x.id, .int .i64 x.fr, .int .i64 x.to, .int .i64 x.steps, .int .i64 x.paces]) ∧ (L 6 = true → s 46 = .agg #[.int .i64 (costOf p x false).a, .int .i64 (costOf p x false).b, .int .i64 (costOf p x false).c, .int .i64 (costOf p x false).d]) ∧ (L 7 = true → s 47 = .agg #[.int .i64 x.fr, .int .i64 (costOf p x false).a, .int .i64 (costOf p x false).b, .int .i64 (costOf p x false).c, .int .i64 (costOf p x false).d, .slice none 0 0]) ∧ (L 8 = true → s 48 = .bool gh.b) ∧ (L 9 = true → s 49 = .bool (!gh.b)) from ⟨gJ, gY, f0, f1, f2, f3, f4, f5, f6, f7, f8, f9⟩)
                  clear f9 f8 f7 f6 f5 f4 f3 f2 f1 f0 gY gJ hd
                  try simp only
                  gi_wp2
                  obtain ⟨gJ, gY, f0, f1, f2, f3, f4, f5, f6, f7, f8, f9⟩ := HF.out
                  exact hK (gh, (upd s 42 (.pointer (some ⟨wr.heap.size, 1, none⟩)))) _ ⟨gJ, gY, f0, f1, (fun _ => rfl), f3, f4, f5, f6, f7, f8, f9⟩
                · rintro L ⟨gh, s⟩ W hu hd hdn ⟨gJ, gY, f0, f1, f2, f3, f4, f5, f6, f7, f8, f9⟩ K Q hK
                  try dsimp only at gJ gY f0 f1 f2 f3 f4 f5 f6 f7 f8 f9 ⊢
                  have e2 := f2 (hd.at_ 2 rfl)
                  have h8 : L 8 = false := by
                    cases hc : L 8 with
                    | false => rfl
                    | true => exact hdn.no 7 3 (hdn.at_ 8 7 hc rfl) rfl hu
                  have G := (gJ h8).2.2.1
                  have c0 : W.cell? ⟨wr.heap.size, 0, none⟩ = some (.int .i64 x.id) := G.cell 0
                  have c1 : W.cell? ⟨wr.heap.size, 1, none⟩ = some (.int .i64 x.fr) := G.cell 1
                  have c2 : W.cell? ⟨wr.heap.size, 2, none⟩ = some (.int .i64 x.to) := G.cell 2
                  have c3 : W.cell? ⟨wr.heap.size, 3, none⟩ = some (.int .i64 x.steps) := G.cell 3
                  have c4 : W.cell? ⟨wr.heap.size, 4, none⟩ = some (.int .i64 x.paces) := G.cell 4
                  clear G
                  have HF := Lib.hid (show (L 8 = false → J (upto false p place t.links k) W ∧ FromIn w1 g1 g2 #[.slice A nn c, .slice (some ⟨b, off, none⟩) m d, .bool false, .func (.func F) #[] C] place W ∧ Blk W wr.heap.size 45 #[.int .i64 x.id, .int .i64 x.fr, .int .i64 x.to, .int .i64 x.steps, .int .i64 x.paces] ∧ W0.heap.size ≤ W.heap.size) ∧ (L 8 = true → (gh.b = true ∧ J (upto false p place t.links (k + 1)) W ∧ FromIn w1 g1 g2 #[.slice A nn c, .slice (some ⟨b, off, none⟩) m d, .bool false, .func (.func F) #[] C] place W ∧ W0.heap.size ≤ W.heap.size) ∨ (gh.b = false ∧ Jx (upto false p place t.links (k + 1)) W)) ∧ (L 0 = true → s 40 = .func (.yield l) #[] #[]) ∧ (L 1 = true → s 41 = .agg #[.int .i64 x.id, .int .i64 x.fr, .int .i64 x.to, .int .i64 x.steps, .int .i64 x.paces]) ∧ (L 2 = true → s 42 = .pointer (some ⟨wr.heap.size, 1, none⟩)) ∧ (L 3 = true → s 43 = .int .i64 x.fr) ∧ (L 4 = true → s 44 = .agg #[.slice A nn c, .slice (some ⟨b, off, none⟩) m d, .bool false, .func (.func F) #[] C]) ∧ (L 5 = true → s 45 = .agg #[.int .i64 x.id, .int .i64 x.fr, .int .i64 x.to, .int .i64 x.steps, .int .i64 x.paces]) ∧ (L 6 = true → s 46 = .agg #[.int .i64 (costOf p x false).a, .int .i64 (costOf p x false).b, .int .i64 (costOf p x false).c, .int .i64 (costOf p x false).d]) ∧ (L 7 = true → s 47 = .agg #[.int .i64 x.fr, .int .i64 (costOf p x false).a, .int .i64 (costOf p x false).b, .int .i64 (costOf p x false).c, .int .i64 (costOf p x false).d, .slice none 0 0]) ∧ (L 8 = true → s 48 = .bool gh.b) ∧ (L 9 = true → s 49 = .bool (!gh.b)) from ⟨gJ, gY, f0, f1, f2, f3, f4, f5, f6, f7, f8, f9⟩)
                  clear f9 f8 f7 f6 f5 f4 f3 f2 f1 f0 gY gJ hd
                  try simp only at e2 ⊢
                  gi_wp2
                  obtain ⟨gJ, gY, f0, f1, f2, f3, f4, f5, f6, f7, f8, f9⟩ := HF.out
                  exact hK (gh, (upd (upd s 42 (.pointer (some ⟨wr.heap.size, 1, none⟩))) 43 (.int .i64 x.fr))) _ ⟨gJ, gY, f0, f1, (fun _ => rfl), (fun _ => rfl), f4, f5, f6, f7, f8, f9⟩
                · rintro L ⟨gh, s⟩ W hu hd hdn ⟨gJ, gY, f0, f1, f2, f3, f4, f5, f6, f7, f8, f9⟩ K Q hK
                  try dsimp only at gJ gY f0 f1 f2 f3 f4 f5 f6 f7 f8 f9 ⊢
                  have h8 : L 8 = false := by
                    cases hc : L 8 with
                    | false => rfl
                    | true => exact hdn.no 6 4 (hdn.at_ 8 6 hc rfl) rfl hu
                  have G := (gJ h8).2.1.chart
                  have c0 : W.cell? ⟨g1, 0, none⟩ = some (.slice A nn c) := G.cell 0
                  have c1 : W.cell? ⟨g1, 1, none⟩ = some (.slice (some ⟨b, off, none⟩) m d) := G.cell 1
                  have c2 : W.cell? ⟨g1, 2, none⟩ = some (.bool false) := G.cell 2
                  have c3 : W.cell? ⟨g1, 3, none⟩ = some (.func (.func F) #[] C) := G.cell 3
                  clear G
                  have HF := Lib.hid (show (L 8 = false → J (upto false p place t.links k) W ∧ FromIn w1 g1 g2 #[.slice A nn c, .slice (some ⟨b, off, none⟩) m d, .bool false, .func (.func F) #[] C] place W ∧ Blk W wr.heap.size 45 #[.int .i64 x.id, .int .i64 x.fr, .int .i64 x.to, .int .i64 x.steps, .int .i64 x.paces] ∧ W0.heap.size ≤ W.heap.size) ∧ (L 8 = true → (gh.b = true ∧ J (upto false p place t.links (k + 1)) W ∧ FromIn w1 g1 g2 #[.slice A nn c, .slice (some ⟨b, off, none⟩) m d, .bool false, .func (.func F) #[] C] place W ∧ W0.heap.size ≤ W.heap.size) ∨ (gh.b = false ∧ Jx (upto false p place t.links (k + 1)) W)) ∧ (L 0 = true → s 40 = .func (.yield l) #[] #[]) ∧ (L 1 = true → s 41 = .agg #[.int .i64 x.id, .int .i64 x.fr, .int .i64 x.to, .int .i64 x.steps, .int .i64 x.paces]) ∧ (L 2 = true → s 42 = .pointer (some ⟨wr.heap.size, 1, none⟩)) ∧ (L 3 = true → s 43 = .int .i64 x.fr) ∧ (L 4 = true → s 44 = .agg #[.slice A nn c, .slice (some ⟨b, off, none⟩) m d, .bool false, .func (.func F) #[] C]) ∧ (L 5 = true → s 45 = .agg #[.int .i64 x.id, .int .i64 x.fr, .int .i64 x.to, .int .i64 x.steps, .int .i64 x.paces]) ∧ (L 6 = true → s 46 = .agg #[.int .i64 (costOf p x false).a, .int .i64 (costOf p x false).b, .int .i64 (costOf p x false).c, .int .i64 (costOf p x false).d]) ∧ (L 7 = true → s 47 = .agg #[.int .i64 x.fr, .int .i64 (costOf p x false).a, .int .i64 (costOf p x false).b, .int .i64 (costOf p x false).c, .int .i64 (costOf p x false).d, .slice none 0 0]) ∧ (L 8 = true → s 48 = .bool gh.b) ∧ (L 9 = true → s 49 = .bool (!gh.b)) from ⟨gJ, gY, f0, f1, f2, f3, f4, f5, f6, f7, f8, f9⟩)
                  clear f9 f8 f7 f6 f5 f4 f3 f2 f1 f0 gY gJ hd
                  try simp only
                  gi_wp2
                  obtain ⟨gJ, gY, f0, f1, f2, f3, f4, f5, f6, f7, f8, f9⟩ := HF.out
                  exact hK (gh, (upd s 44 (.agg #[.slice A nn c, .slice (some ⟨b, off, none⟩) m d, .bool false, .func (.func F) #[] C]))) _ ⟨gJ, gY, f0, f1, f2, f3, (fun _ => rfl), f5, f6, f7, f8, f9⟩
                · rintro L ⟨gh, s⟩ W hu hd hdn ⟨gJ, gY, f0, f1, f2, f3, f4, f5, f6, f7, f8, f9⟩ K Q hK
                  try dsimp only at gJ gY f0 f1 f2 f3 f4 f5 f6 f7 f8 f9 ⊢
                  have h8 : L 8 = false := by
                    cases hc : L 8 with
                    | false => rfl
                    | true => exact hdn.no 6 5 (hdn.at_ 8 6 hc rfl) rfl hu
                  have G := (gJ h8).2.2.1
                  have c0 : W.cell? ⟨wr.heap.size, 0, none⟩ = some (.int .i64 x.id) := G.cell 0
                  have c1 : W.cell? ⟨wr.heap.size, 1, none⟩ = some (.int .i64 x.fr) := G.cell 1
                  have c2 : W.cell? ⟨wr.heap.size, 2, none⟩ = some (.int .i64 x.to) := G.cell 2
                  have c3 : W.cell? ⟨wr.heap.size, 3, none⟩ = some (.int .i64 x.steps) := G.cell 3
                  have c4 : W.cell? ⟨wr.heap.size, 4, none⟩ = some (.int .i64 x.paces) := G.cell 4
                  clear G
                  have HF := Lib.hid (show (L 8 = false → J (upto false p place t.links k) W ∧ FromIn w1 g1 g2 #[.slice A nn c, .slice (some ⟨b, off, none⟩) m d, .bool false, .func (.func F) #[] C] place W ∧ Blk W wr.heap.size 45 #[.int .i64 x.id, .int .i64 x.fr, .int .i64 x.to, .int .i64 x.steps, .int .i64 x.paces] ∧ W0.heap.size ≤ W.heap.size) ∧ (L 8 = true → (gh.b = true ∧ J (upto false p place t.links (k + 1)) W ∧ FromIn w1 g1 g2 #[.slice A nn c, .slice (some ⟨b, off, none⟩) m d, .bool false, .func (.func F) #[] C] place W ∧ W0.heap.size ≤ W.heap.size) ∨ (gh.b = false ∧ Jx (upto false p place t.links (k + 1)) W)) ∧ (L 0 = true → s 40 = .func (.yield l) #[] #[]) ∧ (L 1 = true → s 41 = .agg #[.int .i64 x.id, .int .i64 x.fr, .int .i64 x.to, .int .i64 x.steps, .int .i64 x.paces]) ∧ (L 2 = true → s 42 = .pointer (some ⟨wr.heap.size, 1, none⟩)) ∧ (L 3 = true → s 43 = .int .i64 x.fr) ∧ (L 4 = true → s 44 = .agg #[.slice A nn c, .slice (some ⟨b, off, none⟩) m d, .bool false, .func (.func F) #[] C]) ∧ (L 5 = true → s 45 = .agg #[.int .i64 x.id, .int .i64 x.fr, .int .i64 x.to, .int .i64 x.steps, .int .i64 x.paces]) ∧ (L 6 = true → s 46 = .agg #[.int .i64 (costOf p x false).a, .int .i64 (costOf p x false).b, .int .i64 (costOf p x false).c, .int .i64 (costOf p x false).d]) ∧ (L 7 = true → s 47 = .agg #[.int .i64 x.fr, .int .i64 (costOf p x false).a, .int .i64 (costOf p x false).b, .int .i64 (costOf p x false).c, .int .i64 (costOf p x false).d, .slice none 0 0]) ∧ (L 8 = true → s 48 = .bool gh.b) ∧ (L 9 = true → s 49 = .bool (!gh.b)) from ⟨gJ, gY, f0, f1, f2, f3, f4, f5, f6, f7, f8, f9⟩)
                  clear f9 f8 f7 f6 f5 f4 f3 f2 f1 f0 gY gJ hd
                  try simp only
                  gi_wp2
                  obtain ⟨gJ, gY, f0, f1, f2, f3, f4, f5, f6, f7, f8, f9⟩ := HF.out
                  exact hK (gh, (upd s 45 (.agg #[.int .i64 x.id, .int .i64 x.fr, .int .i64 x.to, .int .i64 x.steps, .int .i64 x.paces]))) _ ⟨gJ, gY, f0, f1, f2, f3, f4, (fun _ => rfl), f6, f7, f8, f9⟩
                · rintro L ⟨gh, s⟩ W hu hd hdn ⟨gJ, gY, f0, f1, f2, f3, f4, f5, f6, f7, f8, f9⟩ K Q hK
                  try dsimp only at gJ gY f0 f1 f2 f3 f4 f5 f6 f7 f8 f9 ⊢
                  have e4 := f4 (hd.at_ 4 rfl)
                  have e5 := f5 (hd.at_ 5 rfl)
                  have h8 : L 8 = false := by
                    cases hc : L 8 with
                    | false => rfl
                    | true => exact hdn.no 8 6 hc rfl hu
                  have GJ := Lib.hid (gJ h8)
                  have HF := Lib.hid (show (L 8 = false → J (upto false p place t.links k) W ∧ FromIn w1 g1 g2 #[.slice A nn c, .slice (some ⟨b, off, none⟩) m d, .bool false, .func (.func F) #[] C] place W ∧ Blk W wr.heap.size 45 #[.int .i64 x.id, .int .i64 x.fr, .int .i64 x.to, .int .i64 x.steps, .int .i64 x.paces] ∧ W0.heap.size ≤ W.heap.size) ∧ (L 8 = true → (gh.b = true ∧ J (upto false p place t.links (k + 1)) W ∧ FromIn w1 g1 g2 #[.slice A nn c, .slice (some ⟨b, off, none⟩) m d, .bool false, .func (.func F) #[] C] place W ∧ W0.heap.size ≤ W.heap.size) ∨ (gh.b = false ∧ Jx (upto false p place t.links (k + 1)) W)) ∧ (L 0 = true → s 40 = .func (.yield l) #[] #[]) ∧ (L 1 = true → s 41 = .agg #[.int .i64 x.id, .int .i64 x.fr, .int .i64 x.to, .int .i64 x.steps, .int .i64 x.paces]) ∧ (L 2 = true → s 42 = .pointer (some ⟨wr.heap.size, 1, none⟩)) ∧ (L 3 = true → s 43 = .int .i64 x.fr) ∧ (L 4 = true → s 44 = .agg #[.slice A nn c, .slice (some ⟨b, off, none⟩) m d, .bool false, .func (.func F) #[] C]) ∧ (L 5 = true → s 45 = .agg #[.int .i64 x.id, .int .i64 x.fr, .int .i64 x.to, .int .i64 x.steps, .int .i64 x.paces]) ∧ (L 6 = true → s 46 = .agg #[.int .i64 (costOf p x false).a, .int .i64 (costOf p x false).b, .int .i64 (costOf p x false).c, .int .i64 (costOf p x false).d]) ∧ (L 7 = true → s 47 = .agg #[.int .i64 x.fr, .int .i64 (costOf p x false).a, .int .i64 (costOf p x false).b, .int .i64 (costOf p x false).c, .int .i64 (costOf p x false).d, .slice none 0 0]) ∧ (L 8 = true → s 48 = .bool gh.b) ∧ (L 9 = true → s 49 = .bool (!gh.b)) from ⟨gJ, gY, f0, f1, f2, f3, f4, f5, f6, f7, f8, f9⟩)
                  clear f9 f8 f7 f6 f5 f4 f3 f2 f1 f0 gY gJ hd
                  try simp only at e4 e5 ⊢
                  gi_wp2
                  refine ⟨trivial, fun _ => by omega, (callsIn_wide.2 (cost_any A nn c (some ⟨b, off, none⟩) m d false F C p x false W (HP.out.below GJ.out.2.1.below) HFX.out)).mono ?_⟩
                  rintro e W2 ⟨rfl, hb⟩
                  gi_wp2
                  obtain ⟨gJ, gY, f0, f1, f2, f3, f4, f5, f6, f7, f8, f9⟩ := HF.out
                  exact hK (gh, (upd (upd (upd s 44 (.agg #[.slice A nn c, .slice (some ⟨b, off, none⟩) m d, .bool false, .func (.func F) #[] C])) 45 (.agg #[.int .i64 x.id, .int .i64 x.fr, .int .i64 x.to, .int .i64 x.steps, .int .i64 x.paces])) 46 (.agg #[.int .i64 (costOf p x false).a, .int .i64 (costOf p x false).b, .int .i64 (costOf p x false).c, .int .i64 (costOf p x false).d]))) _ ⟨(fun _ => ⟨HJ.out _ _ _ none GJ.out.1 (grown_of_below hb none) (fun r e => by cases e), GJ.out.2.1.grow hb, GJ.out.2.2.1.below hb GJ.out.2.2.1.lt, Nat.le_trans GJ.out.2.2.2 hb.size⟩), (fun h => hdn.no 8 6 h rfl hu), f0, f1, f2, f3, (fun _ => rfl), (fun _ => rfl), (fun _ => rfl), f7, f8, f9⟩
                · rintro L ⟨gh, s⟩ W hu hd hdn ⟨gJ, gY, f0, f1, f2, f3, f4, f5, f6, f7, f8, f9⟩ K Q hK
                  try dsimp only at gJ gY f0 f1 f2 f3 f4 f5 f6 f7 f8 f9 ⊢
                  have e3 := f3 (hd.at_ 3 rfl)
                  have e6 := f6 (hd.at_ 6 rfl)
                  have HF := Lib.hid (show (L 8 = false → J (upto false p place t.links k) W ∧ FromIn w1 g1 g2 #[.slice A nn c, .slice (some ⟨b, off, none⟩) m d, .bool false, .func (.func F) #[] C] place W ∧ Blk W wr.heap.size 45 #[.int .i64 x.id, .int .i64 x.fr, .int .i64 x.to, .int .i64 x.steps, .int .i64 x.paces] ∧ W0.heap.size ≤ W.heap.size) ∧ (L 8 = true → (gh.b = true ∧ J (upto false p place t.links (k + 1)) W ∧ FromIn w1 g1 g2 #[.slice A nn c, .slice (some ⟨b, off, none⟩) m d, .bool false, .func (.func F) #[] C] place W ∧ W0.heap.size ≤ W.heap.size) ∨ (gh.b = false ∧ Jx (upto false p place t.links (k + 1)) W)) ∧ (L 0 = true → s 40 = .func (.yield l) #[] #[]) ∧ (L 1 = true → s 41 = .agg #[.int .i64 x.id, .int .i64 x.fr, .int .i64 x.to, .int .i64 x.steps, .int .i64 x.paces]) ∧ (L 2 = true → s 42 = .pointer (some ⟨wr.heap.size, 1, none⟩)) ∧ (L 3 = true → s 43 = .int .i64 x.fr) ∧ (L 4 = true → s 44 = .agg #[.slice A nn c, .slice (some ⟨b, off, none⟩) m d, .bool false, .func (.func F) #[] C]) ∧ (L 5 = true → s 45 = .agg #[.int .i64 x.id, .int .i64 x.fr, .int .i64 x.to, .int .i64 x.steps, .int .i64 x.paces]) ∧ (L 6 = true → s 46 = .agg #[.int .i64 (costOf p x false).a, .int .i64 (costOf p x false).b, .int .i64 (costOf p x false).c, .int .i64 (costOf p x false).d]) ∧ (L 7 = true → s 47 = .agg #[.int .i64 x.fr, .int .i64 (costOf p x false).a, .int .i64 (costOf p x false).b, .int .i64 (costOf p x false).c, .int .i64 (costOf p x false).d, .slice none 0 0]) ∧ (L 8 = true → s 48 = .bool gh.b) ∧ (L 9 = true → s 49 = .bool (!gh.b)) from ⟨gJ, gY, f0, f1, f2, f3, f4, f5, f6, f7, f8, f9⟩)
                  clear f9 f8 f7 f6 f5 f4 f3 f2 f1 f0 gY gJ hd
                  try simp only at e3 e6 ⊢
                  gi_wp2
                  obtain ⟨gJ, gY, f0, f1, f2, f3, f4, f5, f6, f7, f8, f9⟩ := HF.out
                  exact hK (gh, (upd (upd (upd s 43 (.int .i64 x.fr)) 46 (.agg #[.int .i64 (costOf p x false).a, .int .i64 (costOf p x false).b, .int .i64 (costOf p x false).c, .int .i64 (costOf p x false).d])) 47 (.agg #[.int .i64 x.fr, .int .i64 (costOf p x false).a, .int .i64 (costOf p x false).b, .int .i64 (costOf p x false).c, .int .i64 (costOf p x false).d, .slice none 0 0]))) _ ⟨gJ, gY, f0, f1, f2, (fun _ => rfl), f4, f5, (fun _ => rfl), (fun _ => rfl), f8, f9⟩
                · rintro L ⟨gh, s⟩ W hu hd hdn ⟨gJ, gY, f0, f1, f2, f3, f4, f5, f6, f7, f8, f9⟩ K Q hK
                  try dsimp only at gJ gY f0 f1 f2 f3 f4 f5 f6 f7 f8 f9 ⊢
                  have e0 := f0 (hd.at_ 0 rfl)
                  have e1 := f1 (hd.at_ 1 rfl)
                  have e7 := f7 (hd.at_ 7 rfl)
                  have h8 : L 8 = false := hu
                  have GJ := Lib.hid (gJ h8)
                  obtain ⟨fn, tmps, assign, body, hy, hR⟩ := HYY.out W GJ.out.1
                  have HF := Lib.hid (show (L 8 = false → J (upto false p place t.links k) W ∧ FromIn w1 g1 g2 #[.slice A nn c, .slice (some ⟨b, off, none⟩) m d, .bool false, .func (.func F) #[] C] place W ∧ Blk W wr.heap.size 45 #[.int .i64 x.id, .int .i64 x.fr, .int .i64 x.to, .int .i64 x.steps, .int .i64 x.paces] ∧ W0.heap.size ≤ W.heap.size) ∧ (L 8 = true → (gh.b = true ∧ J (upto false p place t.links (k + 1)) W ∧ FromIn w1 g1 g2 #[.slice A nn c, .slice (some ⟨b, off, none⟩) m d, .bool false, .func (.func F) #[] C] place W ∧ W0.heap.size ≤ W.heap.size) ∨ (gh.b = false ∧ Jx (upto false p place t.links (k + 1)) W)) ∧ (L 0 = true → s 40 = .func (.yield l) #[] #[]) ∧ (L 1 = true → s 41 = .agg #[.int .i64 x.id, .int .i64 x.fr, .int .i64 x.to, .int .i64 x.steps, .int .i64 x.paces]) ∧ (L 2 = true → s 42 = .pointer (some ⟨wr.heap.size, 1, none⟩)) ∧ (L 3 = true → s 43 = .int .i64 x.fr) ∧ (L 4 = true → s 44 = .agg #[.slice A nn c, .slice (some ⟨b, off, none⟩) m d, .bool false, .func (.func F) #[] C]) ∧ (L 5 = true → s 45 = .agg #[.int .i64 x.id, .int .i64 x.fr, .int .i64 x.to, .int .i64 x.steps, .int .i64 x.paces]) ∧ (L 6 = true → s 46 = .agg #[.int .i64 (costOf p x false).a, .int .i64 (costOf p x false).b, .int .i64 (costOf p x false).c, .int .i64 (costOf p x false).d]) ∧ (L 7 = true → s 47 = .agg #[.int .i64 x.fr, .int .i64 (costOf p x false).a, .int .i64 (costOf p x false).b, .int .i64 (costOf p x false).c, .int .i64 (costOf p x false).d, .slice none 0 0]) ∧ (L 8 = true → s 48 = .bool gh.b) ∧ (L 9 = true → s 49 = .bool (!gh.b)) from ⟨gJ, gY, f0, f1, f2, f3, f4, f5, f6, f7, f8, f9⟩)
                  clear f9 f8 f7 f6 f5 f4 f3 f2 f1 f0 gY gJ hd
                  try simp only at e0 e1 e7 ⊢
                  gi_wp2
                  refine ⟨fun _ => by omega, hR.mono ?_⟩
                  rintro e W3 hor
                  obtain ⟨bb, rfl, hor2⟩ := yieldedB hor
                  clear hor
                  gi_wp2
                  obtain ⟨gJ, gY, f0, f1, f2, f3, f4, f5, f6, f7, f8, f9⟩ := HF.out
                  exact hK ((⟨bb⟩ : YGh), (upd (upd (upd (upd s 40 (.func (.yield l) #[] #[])) 41 (.agg #[.int .i64 x.id, .int .i64 x.fr, .int .i64 x.to, .int .i64 x.steps, .int .i64 x.paces])) 47 (.agg #[.int .i64 x.fr, .int .i64 (costOf p x false).a, .int .i64 (costOf p x false).b, .int .i64 (costOf p x false).c, .int .i64 (costOf p x false).d, .slice none 0 0])) 48 (.bool bb))) _ ⟨(fun h => by cases h), (fun _ => by
            rcases hor2 with ⟨h1, h2, h3⟩ | ⟨h1, h2⟩
            · exact .inl ⟨h1, h2, GJ.out.2.1.kept h3, Nat.le_trans GJ.out.2.2.2 h3.1.size⟩
            · exact .inr ⟨h1, h2⟩), (fun _ => rfl), (fun _ => rfl), f2, f3, f4, f5, f6, (fun _ => rfl), (fun _ => rfl), (fun h => hdn.no 9 8 h rfl hu)⟩
                · rintro L ⟨gh, s⟩ W hu hd hdn ⟨gJ, gY, f0, f1, f2, f3, f4, f5, f6, f7, f8, f9⟩ K Q hK
                  try dsimp only at gJ gY f0 f1 f2 f3 f4 f5 f6 f7 f8 f9 ⊢
                  have e8 := f8 (hd.at_ 8 rfl)
                  have HF := Lib.hid (show (L 8 = false → J (upto false p place t.links k) W ∧ FromIn w1 g1 g2 #[.slice A nn c, .slice (some ⟨b, off, none⟩) m d, .bool false, .func (.func F) #[] C] place W ∧ Blk W wr.heap.size 45 #[.int .i64 x.id, .int .i64 x.fr, .int .i64 x.to, .int .i64 x.steps, .int .i64 x.paces] ∧ W0.heap.size ≤ W.heap.size) ∧ (L 8 = true → (gh.b = true ∧ J (upto false p place t.links (k + 1)) W ∧ FromIn w1 g1 g2 #[.slice A nn c, .slice (some ⟨b, off, none⟩) m d, .bool false, .func (.func F) #[] C] place W ∧ W0.heap.size ≤ W.heap.size) ∨ (gh.b = false ∧ Jx (upto false p place t.links (k + 1)) W)) ∧ (L 0 = true → s 40 = .func (.yield l) #[] #[]) ∧ (L 1 = true → s 41 = .agg #[.int .i64 x.id, .int .i64 x.fr, .int .i64 x.to, .int .i64 x.steps, .int .i64 x.paces]) ∧ (L 2 = true → s 42 = .pointer (some ⟨wr.heap.size, 1, none⟩)) ∧ (L 3 = true → s 43 = .int .i64 x.fr) ∧ (L 4 = true → s 44 = .agg #[.slice A nn c, .slice (some ⟨b, off, none⟩) m d, .bool false, .func (.func F) #[] C]) ∧ (L 5 = true → s 45 = .agg #[.int .i64 x.id, .int .i64 x.fr, .int .i64 x.to, .int .i64 x.steps, .int .i64 x.paces]) ∧ (L 6 = true → s 46 = .agg #[.int .i64 (costOf p x false).a, .int .i64 (costOf p x false).b, .int .i64 (costOf p x false).c, .int .i64 (costOf p x false).d]) ∧ (L 7 = true → s 47 = .agg #[.int .i64 x.fr, .int .i64 (costOf p x false).a, .int .i64 (costOf p x false).b, .int .i64 (costOf p x false).c, .int .i64 (costOf p x false).d, .slice none 0 0]) ∧ (L 8 = true → s 48 = .bool gh.b) ∧ (L 9 = true → s 49 = .bool (!gh.b)) from ⟨gJ, gY, f0, f1, f2, f3, f4, f5, f6, f7, f8, f9⟩)
                  clear f9 f8 f7 f6 f5 f4 f3 f2 f1 f0 gY gJ hd
                  try simp only at e8 ⊢
                  gi_wp2
                  obtain ⟨gJ, gY, f0, f1, f2, f3, f4, f5, f6, f7, f8, f9⟩ := HF.out
                  exact hK (gh, (upd (upd s 48 (.bool gh.b)) 49 (.bool (!gh.b)))) _ ⟨gJ, gY, f0, f1, f2, f3, f4, f5, f6, f7, (fun _ => rfl), (fun _ => rfl)⟩
              · rintro L ⟨gh, s⟩ W hall ⟨gJ, gY, f0, f1, f2, f3, f4, f5, f6, f7, f8, f9⟩
                have e9 := f9 (hall 9 (by decide))
                have GY := gY (hall 8 (by decide))
                clear hall gJ gY f0 f1 f2 f3 f4 f5 f6 f7 f8 f9
                rcases GY with ⟨hb, hj, hi, hsz'⟩ | ⟨hb, hjx⟩
                · rw [hb] at e9
                  have HJ3 := Lib.hid hj
                  have HI3 := Lib.hid hi
                  clear hj hi hb
                  replace e9 : s 49 = .bool false := e9
                  simp only
                  rw [e9]
                  gi_wp2
                  go_roundw
                  case rel => exact ⟨k + 1, by omega, by go_num, HJ3.out, HI3.out, by omega⟩
                  case measure => simp [intOf]; omega
                · rw [hb] at e9
                  have HJ3 := Lib.hid hjx
                  clear hjx hb
                  replace e9 : s 49 = .bool true := e9
                  simp only
                  rw [e9]
                  gi_wp2
                  unfold Exit.noGoto
                  refine bodyPost_ret (results_none rfl _ _ _) rfl ?_
                  exact ⟨⟨_, rfl⟩, .inr ⟨_, upto_pre _ _ _ _ _, HJ3.out⟩⟩
            · clear hskip
              have hL : leads true p x place = some (x.fr, (costOf p x false)) := by rw [HLD.out]; rw [if_neg (fun e => HFR.out e.symm), if_pos HTO.out.symm]; simp [costOf, priceOf]
              obtain ⟨y, hy1, hy2, hy3⟩ := upto_some HX.out hL
              have HYY : Hid (∀ W, J (upto true p place t.links k) W → YieldAt Fence.wide (n - 1) Tryd.prog l #[.agg #[.int .i64 x.id, .int .i64 x.fr, .int .i64 x.to, .int .i64 x.steps, .int .i64 x.paces], .agg #[.int .i64 x.fr, .int .i64 (costOf p x false).a, .int .i64 (costOf p x false).b, .int .i64 (costOf p x false).c, .int .i64 (costOf p x false).d, .slice none 0 0]] W fun e W' =>
                  (e = .returned (.bool true) ∧ J (upto true p place t.links (k + 1)) W' ∧ FromK w1.heap.size g1 g2 W W') ∨ (e = .returned (.bool false) ∧ Jx (upto true p place t.links (k + 1)) W')) := Lib.hid (fun W hj => by
                have := HY.out _ y W hj hy3
                unfold Out.enc at this
                rw [hy1] at this
                rw [hy2]
                exact this)
              clear hL hy1 hy2 hy3
              have B0 : Below wr.heap.size wr (wr.alloc (.cells #[.int .i64 x.id, .int .i64 x.fr, .int .i64 x.to, .int .i64 x.steps, .int .i64 x.paces] 45)).drew := below_drewN ((Below.refl _ _).alloc (Nat.le_refl _) _) 1
              have G0 : J (upto true p place t.links k) (wr.alloc (.cells #[.int .i64 x.id, .int .i64 x.fr, .int .i64 x.to, .int .i64 x.steps, .int .i64 x.paces] 45)).drew ∧ FromIn w1 g1 g2 #[.slice A nn c, .slice (some ⟨b, off, none⟩) m d, .bool true, .func (.func F) #[] C] place (wr.alloc (.cells #[.int .i64 x.id, .int .i64 x.fr, .int .i64 x.to, .int .i64 x.steps, .int .i64 x.paces] 45)).drew ∧ Blk (wr.alloc (.cells #[.int .i64 x.id, .int .i64 x.fr, .int .i64 x.to, .int .i64 x.steps, .int .i64 x.paces] 45)).drew wr.heap.size 45 #[.int .i64 x.id, .int .i64 x.fr, .int .i64 x.to, .int .i64 x.steps, .int .i64 x.paces] ∧ W0.heap.size ≤ (wr.alloc (.cells #[.int .i64 x.id, .int .i64 x.fr, .int .i64 x.to, .int .i64 x.steps, .int .i64 x.paces] 45)).drew.heap.size :=
                ⟨HJ.out _ _ _ none HJs.out (grown_of_below B0 none) (fun r e => by cases e), HI.out.grow B0, Blk.new wr _ _, Nat.le_trans hsz B0.size⟩
              clear B0
              gi_wp2
              refine wpIn_region_stepsD (by kernel_rfl) (by kernel_rfl) (fun σ : YGh × (Nat → Value) => { tmps := #[.func (.yield l) #[] #[], .pointer (some ⟨g1, 0, none⟩), .pointer (some ⟨g2, 0, none⟩), undef, undef, .pointer (some ⟨wr.heap.size, 0, none⟩), .pointer (some ⟨g1, 0, none⟩), .pointer (some ⟨g1, 1, none⟩), .slice (some ⟨b, off, none⟩) m d, .int .i64 (m : Int), .int .i64 (k : Int), .bool true, .pointer (some ⟨b, off + k * 5, none⟩), .agg #[.int .i64 x.id, .int .i64 x.fr, .int .i64 x.to, .int .i64 x.steps, .int .i64 x.paces], .pointer (some ⟨g1, 2, none⟩), .bool true, .bool true, .pointer (some ⟨wr.heap.size, 3, none⟩), .int .i64 x.steps, .bool false, .bool false, .int .i64 place, .bool false, .pointer (some ⟨wr.heap.size, 1, none⟩), .int .i64 x.fr, .bool false, u26, u27, u28, u29, u30, u31, u32, u33, u34, u35, .bool true, .pointer (some ⟨wr.heap.size, 2, none⟩), .int .i64 x.to, .bool true, σ.2 40, σ.2 41, σ.2 42, σ.2 43, σ.2 44, σ.2 45, σ.2 46, σ.2 47, σ.2 48, σ.2 49, u50], defers := [] })
                (fun L σ W => (L 8 = false → J (upto true p place t.links k) W ∧ FromIn w1 g1 g2 #[.slice A nn c, .slice (some ⟨b, off, none⟩) m d, .bool true, .func (.func F) #[] C] place W ∧ Blk W wr.heap.size 45 #[.int .i64 x.id, .int .i64 x.fr, .int .i64 x.to, .int .i64 x.steps, .int .i64 x.paces] ∧ W0.heap.size ≤ W.heap.size) ∧ (L 8 = true → (σ.1.b = true ∧ J (upto true p place t.links (k + 1)) W ∧ FromIn w1 g1 g2 #[.slice A nn c, .slice (some ⟨b, off, none⟩) m d, .bool true, .func (.func F) #[] C] place W ∧ W0.heap.size ≤ W.heap.size) ∨ (σ.1.b = false ∧ Jx (upto true p place t.links (k + 1)) W)) ∧ (L 0 = true → σ.2 40 = .func (.yield l) #[] #[]) ∧ (L 1 = true → σ.2 41 = .agg #[.int .i64 x.id, .int .i64 x.fr, .int .i64 x.to, .int .i64 x.steps, .int .i64 x.paces]) ∧ (L 2 = true → σ.2 42 = .pointer (some ⟨wr.heap.size, 1, none⟩)) ∧ (L 3 = true → σ.2 43 = .int .i64 x.fr) ∧ (L 4 = true → σ.2 44 = .agg #[.slice A nn c, .slice (some ⟨b, off, none⟩) m d, .bool true, .func (.func F) #[] C]) ∧ (L 5 = true → σ.2 45 = .agg #[.int .i64 x.id, .int .i64 x.fr, .int .i64 x.to, .int .i64 x.steps, .int .i64 x.paces]) ∧ (L 6 = true → σ.2 46 = .agg #[.int .i64 (costOf p x false).a, .int .i64 (costOf p x false).b, .int .i64 (costOf p x false).c, .int .i64 (costOf p x false).d]) ∧ (L 7 = true → σ.2 47 = .agg #[.int .i64 x.fr, .int .i64 (costOf p x false).a, .int .i64 (costOf p x false).b, .int .i64 (costOf p x false).c, .int .i64 (costOf p x false).d, .slice none 0 0]) ∧ (L 8 = true → σ.2 48 = .bool σ.1.b) ∧ (L 9 = true → σ.2 49 = .bool (!σ.1.b)))
                (⟨false⟩, fun k => (#[u40, u41, u42, u43, u44, u45, u46, u47, u48, u49] : Array Value).getD (k - 40) undef) rfl ?_ ?_ ?_
              · exact ⟨(fun _ => G0), (fun h => by cases h), (fun h => by cases h), (fun h => by cases h), (fun h => by cases h), (fun h => by cases h), (fun h => by cases h), (fun h => by cases h), (fun h => by cases h), (fun h => by cases h), (fun h => by cases h), (fun h => by cases h)⟩
              · refine ⟨?_, ?_, ?_, ?_, ?_, ?_, ?_, ?_, ?_, ?_, trivial⟩
                · rintro L ⟨gh, s⟩ W hu hd hdn ⟨gJ, gY, f0, f1, f2, f3, f4, f5, f6, f7, f8, f9⟩ K Q hK
                  try dsimp only at gJ gY f0 f1 f2 f3 f4 f5 f6 f7 f8 f9 ⊢
                  have HF := Lib.hid (show (L 8 = false → J (upto true p place t.links k) W ∧ FromIn w1 g1 g2 #[.slice A nn c, .slice (some ⟨b, off, none⟩) m d, .bool true, .func (.func F) #[] C] place W ∧ Blk W wr.heap.size 45 #[.int .i64 x.id, .int .i64 x.fr, .int .i64 x.to, .int .i64 x.steps, .int .i64 x.paces] ∧ W0.heap.size ≤ W.heap.size) ∧ (L 8 = true → (gh.b = true ∧ J (upto true p place t.links (k + 1)) W ∧ FromIn w1 g1 g2 #[.slice A nn c, .slice (some ⟨b, off, none⟩) m d, .bool true, .func (.func F) #[] C] place W ∧ W0.heap.size ≤ W.heap.size) ∨ (gh.b = false ∧ Jx (upto true p place t.links (k + 1)) W)) ∧ (L 0 = true → s 40 = .func (.yield l) #[] #[]) ∧ (L 1 = true → s 41 = .agg #[.int .i64 x.id, .int .i64 x.fr, .int .i64 x.to, .int .i64 x.steps, .int .i64 x.paces]) ∧ (L 2 = true → s 42 = .pointer (some ⟨wr.heap.size, 1, none⟩)) ∧ (L 3 = true → s 43 = .int .i64 x.fr) ∧ (L 4 = true → s 44 = .agg #[.slice A nn c, .slice (some ⟨b, off, none⟩) m d, .bool true, .func (.func F) #[] C]) ∧ (L 5 = true → s 45 = .agg #[.int .i64 x.id, .int .i64 x.fr, .int .i64 x.to, .int .i64 x.steps, .int .i64 x.paces]) ∧ (L 6 = true → s 46 = .agg #[.int .i64 (costOf p x false).a, .int .i64 (costOf p x false).b, .int .i64 (costOf p x false).c, .int .i64 (costOf p x false).d]) ∧ (L 7 = true → s 47 = .agg #[.int .i64 x.fr, .int .i64 (costOf p x false).a, .int .i64 (costOf p x false).b, .int .i64 (costOf p x false).c, .int .i64 (costOf p x false).d, .slice none 0 0]) ∧ (L 8 = true → s 48 = .bool gh.b) ∧ (L 9 = true → s 49 = .bool (!gh.b)) from ⟨gJ, gY, f0, f1, f2, f3, f4, f5, f6, f7, f8, f9⟩)
                  clear f9 f8 f7 f6 f5 f4 f3 f2 f1 f0 gY gJ hd
                  try simp only
                  gi_wp2
                  obtain ⟨gJ, gY, f0, f1, f2, f3, f4, f5, f6, f7, f8, f9⟩ := HF.out
                  exact hK (gh, (upd s 40 (.func (.yield l) #[] #[]))) _ ⟨gJ, gY, (fun _ => rfl), f1, f2, f3, f4, f5, f6, f7, f8, f9⟩
                · rintro L ⟨gh, s⟩ W hu hd hdn ⟨gJ, gY, f0, f1, f2, f3, f4, f5, f6, f7, f8, f9⟩ K Q hK
                  try dsimp only at gJ gY f0 f1 f2 f3 f4 f5 f6 f7 f8 f9 ⊢
                  have h8 : L 8 = false := by
                    cases hc : L 8 with
                    | false => rfl
                    | true => exact hdn.no 8 1 hc rfl hu
                  have G := (gJ h8).2.2.1
                  have c0 : W.cell? ⟨wr.heap.size, 0, none⟩ = some (.int .i64 x.id) := G.cell 0
                  have c1 : W.cell? ⟨wr.heap.size, 1, none⟩ = some (.int .i64 x.fr) := G.cell 1
                  have c2 : W.cell? ⟨wr.heap.size, 2, none⟩ = some (.int .i64 x.to) := G.cell 2
                  have c3 : W.cell? ⟨wr.heap.size, 3, none⟩ = some (.int .i64 x.steps) := G.cell 3
                  have c4 : W.cell? ⟨wr.heap.size, 4, none⟩ = some (.int .i64 x.paces) := G.cell 4
                  clear G
                  have HF := Lib.hid (show (L 8 = false → J (upto true p place t.links k) W ∧ FromIn w1 g1 g2 #[.slice A nn c, .slice (some ⟨b, off, none⟩) m d, .bool true, .func (.func F) #[] C] place W ∧ Blk W wr.heap.size 45 #[.int .i64 x.id, .int .i64 x.fr, .int .i64 x.to, .int .i64 x.steps, .int .i64 x.paces] ∧ W0.heap.size ≤ W.heap.size) ∧ (L 8 = true → (gh.b = true ∧ J (upto true p place t.links (k + 1)) W ∧ FromIn w1 g1 g2 #[.slice A nn c, .slice (some ⟨b, off, none⟩) m d, .bool true, .func (.func F) #[] C] place W ∧ W0.heap.size ≤ W.heap.size) ∨ (gh.b = false ∧ Jx (upto true p place t.links (k + 1)) W)) ∧ (L 0 = true → s 40 = .func (.yield l) #[] #[]) ∧ (L 1 = true → s 41 = .agg #[.int .i64 x.id, .int .i64 x.fr, .int .i64 x.to, .int .i64 x.steps, .int .i64 x.paces]) ∧ (L 2 = true → s 42 = .pointer (some ⟨wr.heap.size, 1, none⟩)) ∧ (L 3 = true → s 43 = .int .i64 x.fr) ∧ (L 4 = true → s 44 = .agg #[.slice A nn c, .slice (some ⟨b, off, none⟩) m d, .bool true, .func (.func F) #[] C]) ∧ (L 5 = true → s 45 = .agg #[.int .i64 x.id, .int .i64 x.fr, .int .i64 x.to, .int .i64 x.steps, .int .i64 x.paces]) ∧ (L 6 = true → s 46 = .agg #[.int .i64 (costOf p x false).a, .int .i64 (costOf p x false).b, .int .i64 (costOf p x false).c, .int .i64 (costOf p x false).d]) ∧ (L 7 = true → s 47 = .agg #[.int .i64 x.fr, .int .i64 (costOf p x false).a, .int .i64 (costOf p x false).b, .int .i64 (costOf p x false).c, .int .i64 (costOf p x false).d, .slice none 0 0]) ∧ (L 8 = true → s 48 = .bool gh.b) ∧ (L 9 = true → s 49 = .bool (!gh.b)) from ⟨gJ, gY, f0, f1, f2, f3, f4, f5, f6, f7, f8, f9⟩)
                  clear f9 f8 f7 f6 f5 f4 f3 f2 f1 f0 gY gJ hd
                  try simp only
                  gi_wp2
                  obtain ⟨gJ, gY, f0, f1, f2, f3, f4, f5, f6, f7, f8, f9⟩ := HF.out
                  exact hK (gh, (upd s 41 (.agg #[.int .i64 x.id, .int .i64 x.fr, .int .i64 x.to, .int .i64 x.steps, .int .i64 x.paces]))) _ ⟨gJ, gY, f0, (fun _ => rfl), f2, f3, f4, f5, f6, f7, f8, f9⟩
                · rintro L ⟨gh, s⟩ W hu hd hdn ⟨gJ, gY, f0, f1, f2, f3, f4, f5, f6, f7, f8, f9⟩ K Q hK
                  try dsimp only at gJ gY f0 f1 f2 f3 f4 f5 f6 f7 f8 f9 ⊢
                  have HF := Lib.hid (show (L 8 = false → J (upto true p place t.links k) W ∧ FromIn w1 g1 g2 #[.slice A nn c, .slice (some ⟨b, off, none⟩) m d, .bool true, .func (.func F) #[] C] place W ∧ Blk W wr.heap.size 45 #[.int .i64 x.id, .int .i64 x.fr, .int .i64 x.to, .int .i64 x.steps, .int .i64 x.paces] ∧ W0.heap.size ≤ W.heap.size) ∧ (L 8 = true → (gh.b = true ∧ J (upto true p place t.links (k + 1)) W ∧ FromIn w1 g1 g2 #[.slice A nn c, .slice (some ⟨b, off, none⟩) m d, .bool true, .func (.func F) #[] C] place W ∧ W0.heap.size ≤ W.heap.size) ∨ (gh.b = false ∧ Jx (upto true p place t.links (k + 1)) W)) ∧ (L 0 = true → s 40 = .func (.yield l) #[] #[]) ∧ (L 1 = true → s 41 = .agg #[.int .i64 x.id, .int .i64 x.fr, .int .i64 x.to, .int .i64 x.steps, .int .i64 x.paces]) ∧ (L 2 = true → s 42 = .pointer (some ⟨wr.heap.size, 1, none⟩)) ∧ (L 3 = true → s 43 = .int .i64 x.fr) ∧ (L 4 = true → s 44 = .agg #[.slice A nn c, .slice (some ⟨b, off, none⟩) m d, .bool true, .func (.func F) #[] C]) ∧ (L 5 = true → s 45 = .agg #[.int .i64 x.id, .int .i64 x.fr, .int .i64 x.to, .int .i64 x.steps, .int .i64 x.paces]) ∧ (L 6 = true → s 46 = .agg #[.int .i64 (costOf p x false).a, .int .i64 (costOf p x false).b, .int .i64 (costOf p x false).c, .int .i64 (costOf p x false).d]) ∧ (L 7 = true → s 47 = .agg #[.int .i64 x.fr, .int .i64 (costOf p x false).a, .int .i64 (costOf p x false).b, .int .i64 (costOf p x false).c, .int .i64 (costOf p x false).d, .slice none 0 0]) ∧ (L 8 = true → s 48 = .bool gh.b) ∧ (L 9 = true → s 49 = .bool (!gh.b)) from ⟨gJ, gY, f0, f1, f2, f3, f4, f5, f6, f7, f8, f9⟩)
                  clear f9 f8 f7 f6 f5 f4 f3 f2 f1 f0 gY gJ hd
                  try simp only
                  gi_wp2
                  obtain ⟨gJ, gY, f0, f1, f2, f3, f4, f5, f6, f7, f8, f9⟩ := HF.out
                  exact hK (gh, (upd s 42 (.pointer (some ⟨wr.heap.size, 1, none⟩)))) _ ⟨gJ, gY, f0, f1, (fun _ => rfl), f3, f4, f5, f6, f7, f8, f9⟩
                · rintro L ⟨gh, s⟩ W hu hd hdn ⟨gJ, gY, f0, f1, f2, f3, f4, f5, f6, f7, f8, f9⟩ K Q hK
                  try dsimp only at gJ gY f0 f1 f2 f3 f4 f5 f6 f7 f8 f9 ⊢
                  have e2 := f2 (hd.at_ 2 rfl)
                  have h8 : L 8 = false := by
                    cases hc : L 8 with
                    | false => rfl
                    | true => exact hdn.no 7 3 (hdn.at_ 8 7 hc rfl) rfl hu
                  have G := (gJ h8).2.2.1
                  have c0 : W.cell? ⟨wr.heap.size, 0, none⟩ = some (.int .i64 x.id) := G.cell 0
                  have c1 : W.cell? ⟨wr.heap.size, 1, none⟩ = some (.int .i64 x.fr) := G.cell 1
                  have c2 : W.cell? ⟨wr.heap.size, 2, none⟩ = some (.int .i64 x.to) := G.cell 2
                  have c3 : W.cell? ⟨wr.heap.size, 3, none⟩ = some (.int .i64 x.steps) := G.cell 3
                  have c4 : W.cell? ⟨wr.heap.size, 4, none⟩ = some (.int .i64 x.paces) := G.cell 4
                  clear G
                  have HF := Lib.hid (show (L 8 = false → J (upto true p place t.links k) W ∧ FromIn w1 g1 g2 #[.slice A nn c, .slice (some ⟨b, off, none⟩) m d, .bool true, .func (.func F) #[] C] place W ∧ Blk W wr.heap.size 45 #[.int .i64 x.id, .int .i64 x.fr, .int .i64 x.to, .int .i64 x.steps, .int .i64 x.paces] ∧ W0.heap.size ≤ W.heap.size) ∧ (L 8 = true → (gh.b = true ∧ J (upto true p place t.links (k + 1)) W ∧ FromIn w1 g1 g2 #[.slice A nn c, .slice (some ⟨b, off, none⟩) m d, .bool true, .func (.func F) #[] C] place W ∧ W0.heap.size ≤ W.heap.size) ∨ (gh.b = false ∧ Jx (upto true p place t.links (k + 1)) W)) ∧ (L 0 = true → s 40 = .func (.yield l) #[] #[]) ∧ (L 1 = true → s 41 = .agg #[.int .i64 x.id, .int .i64 x.fr, .int .i64 x.to, .int .i64 x.steps, .int .i64 x.paces]) ∧ (L 2 = true → s 42 = .pointer (some ⟨wr.heap.size, 1, none⟩)) ∧ (L 3 = true → s 43 = .int .i64 x.fr) ∧ (L 4 = true → s 44 = .agg #[.slice A nn c, .slice (some ⟨b, off, none⟩) m d, .bool true, .func (.func F) #[] C]) ∧ (L 5 = true → s 45 = .agg #[.int .i64 x.id, .int .i64 x.fr, .int .i64 x.to, .int .i64 x.steps, .int .i64 x.paces]) ∧ (L 6 = true → s 46 = .agg #[.int .i64 (costOf p x false).a, .int .i64 (costOf p x false).b, .int .i64 (costOf p x false).c, .int .i64 (costOf p x false).d]) ∧ (L 7 = true → s 47 = .agg #[.int .i64 x.fr, .int .i64 (costOf p x false).a, .int .i64 (costOf p x false).b, .int .i64 (costOf p x false).c, .int .i64 (costOf p x false).d, .slice none 0 0]) ∧ (L 8 = true → s 48 = .bool gh.b) ∧ (L 9 = true → s 49 = .bool (!gh.b)) from ⟨gJ, gY, f0, f1, f2, f3, f4, f5, f6, f7, f8, f9⟩)
                  clear f9 f8 f7 f6 f5 f4 f3 f2 f1 f0 gY gJ hd
                  try simp only at e2 ⊢
                  gi_wp2
                  obtain ⟨gJ, gY, f0, f1, f2, f3, f4, f5, f6, f7, f8, f9⟩ := HF.out
                  exact hK (gh, (upd (upd s 42 (.pointer (some ⟨wr.heap.size, 1, none⟩))) 43 (.int .i64 x.fr))) _ ⟨gJ, gY, f0, f1, (fun _ => rfl), (fun _ => rfl), f4, f5, f6, f7, f8, f9⟩
                · rintro L ⟨gh, s⟩ W hu hd hdn ⟨gJ, gY, f0, f1, f2, f3, f4, f5, f6, f7, f8, f9⟩ K Q hK
                  try dsimp only at gJ gY f0 f1 f2 f3 f4 f5 f6 f7 f8 f9 ⊢
                  have h8 : L 8 = false := by
                    cases hc : L 8 with
                    | false => rfl
                    | true => exact hdn.no 6 4 (hdn.at_ 8 6 hc rfl) rfl hu
                  have G := (gJ h8).2.1.chart
                  have c0 : W.cell? ⟨g1, 0, none⟩ = some (.slice A nn c) := G.cell 0
                  have c1 : W.cell? ⟨g1, 1, none⟩ = some (.slice (some ⟨b, off, none⟩) m d) := G.cell 1
                  have c2 : W.cell? ⟨g1, 2, none⟩ = some (.bool true) := G.cell 2
                  have c3 : W.cell? ⟨g1, 3, none⟩ = some (.func (.func F) #[] C) := G.cell 3
                  clear G
                  have HF := Lib.hid (show (L 8 = false → J (upto true p place t.links k) W ∧ FromIn w1 g1 g2 #[.slice A nn c, .slice (some ⟨b, off, none⟩) m d, .bool true, .func (.func F) #[] C] place W ∧ Blk W wr.heap.size 45 #[.int .i64 x.id, .int .i64 x.fr, .int .i64 x.to, .int .i64 x.steps, .int .i64 x.paces] ∧ W0.heap.size ≤ W.heap.size) ∧ (L 8 = true → (gh.b = true ∧ J (upto true p place t.links (k + 1)) W ∧ FromIn w1 g1 g2 #[.slice A nn c, .slice (some ⟨b, off, none⟩) m d, .bool true, .func (.func F) #[] C] place W ∧ W0.heap.size ≤ W.heap.size) ∨ (gh.b = false ∧ Jx (upto true p place t.links (k + 1)) W)) ∧ (L 0 = true → s 40 = .func (.yield l) #[] #[]) ∧ (L 1 = true → s 41 = .agg #[.int .i64 x.id, .int .i64 x.fr, .int .i64 x.to, .int .i64 x.steps, .int .i64 x.paces]) ∧ (L 2 = true → s 42 = .pointer (some ⟨wr.heap.size, 1, none⟩)) ∧ (L 3 = true → s 43 = .int .i64 x.fr) ∧ (L 4 = true → s 44 = .agg #[.slice A nn c, .slice (some ⟨b, off, none⟩) m d, .bool true, .func (.func F) #[] C]) ∧ (L 5 = true → s 45 = .agg #[.int .i64 x.id, .int .i64 x.fr, .int .i64 x.to, .int .i64 x.steps, .int .i64 x.paces]) ∧ (L 6 = true → s 46 = .agg #[.int .i64 (costOf p x false).a, .int .i64 (costOf p x false).b, .int .i64 (costOf p x false).c, .int .i64 (costOf p x false).d]) ∧ (L 7 = true → s 47 = .agg #[.int .i64 x.fr, .int .i64 (costOf p x false).a, .int .i64 (costOf p x false).b, .int .i64 (costOf p x false).c, .int .i64 (costOf p x false).d, .slice none 0 0]) ∧ (L 8 = true → s 48 = .bool gh.b) ∧ (L 9 = true → s 49 = .bool (!gh.b)) from ⟨gJ, gY, f0, f1, f2, f3, f4, f5, f6, f7, f8, f9⟩)
                  clear f9 f8 f7 f6 f5 f4 f3 f2 f1 f0 gY gJ hd
                  try simp only
                  gi_wp2
                  obtain ⟨gJ, gY, f0, f1, f2, f3, f4, f5, f6, f7, f8, f9⟩ := HF.out
                  exact hK (gh, (upd s 44 (.agg #[.slice A nn c, .slice (some ⟨b, off, none⟩) m d, .bool true, .func (.func F) #[] C]))) _ ⟨gJ, gY, f0, f1, f2, f3, (fun _ => rfl), f5, f6, f7, f8, f9⟩
                · rintro L ⟨gh, s⟩ W hu hd hdn ⟨gJ, gY, f0, f1, f2, f3, f4, f5, f6, f7, f8, f9⟩ K Q hK
                  try dsimp only at gJ gY f0 f1 f2 f3 f4 f5 f6 f7 f8 f9 ⊢
                  have h8 : L 8 = false := by
                    cases hc : L 8 with
                    | false => rfl
                    | true => exact hdn.no 6 5 (hdn.at_ 8 6 hc rfl) rfl hu
                  have G := (gJ h8).2.2.1
                  have c0 : W.cell? ⟨wr.heap.size, 0, none⟩ = some (.int .i64 x.id) := G.cell 0
                  have c1 : W.cell? ⟨wr.heap.size, 1, none⟩ = some (.int .i64 x.fr) := G.cell 1
                  have c2 : W.cell? ⟨wr.heap.size, 2, none⟩ = some (.int .i64 x.to) := G.cell 2
                  have c3 : W.cell? ⟨wr.heap.size, 3, none⟩ = some (.int .i64 x.steps) := G.cell 3
                  have c4 : W.cell? ⟨wr.heap.size, 4, none⟩ = some (.int .i64 x.paces) := G.cell 4
                  clear G
                  have HF := Lib.hid (show (L 8 = false → J (upto true p place t.links k) W ∧ FromIn w1 g1 g2 #[.slice A nn c, .slice (some ⟨b, off, none⟩) m d, .bool true, .func (.func F) #[] C] place W ∧ Blk W wr.heap.size 45 #[.int .i64 x.id, .int .i64 x.fr, .int .i64 x.to, .int .i64 x.steps, .int .i64 x.paces] ∧ W0.heap.size ≤ W.heap.size) ∧ (L 8 = true → (gh.b = true ∧ J (upto true p place t.links (k + 1)) W ∧ FromIn w1 g1 g2 #[.slice A nn c, .slice (some ⟨b, off, none⟩) m d, .bool true, .func (.func F) #[] C] place W ∧ W0.heap.size ≤ W.heap.size) ∨ (gh.b = false ∧ Jx (upto true p place t.links (k + 1)) W)) ∧ (L 0 = true → s 40 = .func (.yield l) #[] #[]) ∧ (L 1 = true → s 41 = .agg #[.int .i64 x.id, .int .i64 x.fr, .int .i64 x.to, .int .i64 x.steps, .int .i64 x.paces]) ∧ (L 2 = true → s 42 = .pointer (some ⟨wr.heap.size, 1, none⟩)) ∧ (L 3 = true → s 43 = .int .i64 x.fr) ∧ (L 4 = true → s 44 = .agg #[.slice A nn c, .slice (some ⟨b, off, none⟩) m d, .bool true, .func (.func F) #[] C]) ∧ (L 5 = true → s 45 = .agg #[.int .i64 x.id, .int .i64 x.fr, .int .i64 x.to, .int .i64 x.steps, .int .i64 x.paces]) ∧ (L 6 = true → s 46 = .agg #[.int .i64 (costOf p x false).a, .int .i64 (costOf p x false).b, .int .i64 (costOf p x false).c, .int .i64 (costOf p x false).d]) ∧ (L 7 = true → s 47 = .agg #[.int .i64 x.fr, .int .i64 (costOf p x false).a, .int .i64 (costOf p x false).b, .int .i64 (costOf p x false).c, .int .i64 (costOf p x false).d, .slice none 0 0]) ∧ (L 8 = true → s 48 = .bool gh.b) ∧ (L 9 = true → s 49 = .bool (!gh.b)) from ⟨gJ, gY, f0, f1, f2, f3, f4, f5, f6, f7, f8, f9⟩)
                  clear f9 f8 f7 f6 f5 f4 f3 f2 f1 f0 gY gJ hd
                  try simp only
                  gi_wp2
                  obtain ⟨gJ, gY, f0, f1, f2, f3, f4, f5, f6, f7, f8, f9⟩ := HF.out
                  exact hK (gh, (upd s 45 (.agg #[.int .i64 x.id, .int .i64 x.fr, .int .i64 x.to, .int .i64 x.steps, .int .i64 x.paces]))) _ ⟨gJ, gY, f0, f1, f2, f3, f4, (fun _ => rfl), f6, f7, f8, f9⟩
                · rintro L ⟨gh, s⟩ W hu hd hdn ⟨gJ, gY, f0, f1, f2, f3, f4, f5, f6, f7, f8, f9⟩ K Q hK
                  try dsimp only at gJ gY f0 f1 f2 f3 f4 f5 f6 f7 f8 f9 ⊢
                  have e4 := f4 (hd.at_ 4 rfl)
                  have e5 := f5 (hd.at_ 5 rfl)
                  have h8 : L 8 = false := by
                    cases hc : L 8 with
                    | false => rfl
                    | true => exact hdn.no 8 6 hc rfl hu
                  have GJ := Lib.hid (gJ h8)
                  have HF := Lib.hid (show (L 8 = false → J (upto true p place t.links k) W ∧ FromIn w1 g1 g2 #[.slice A nn c, .slice (some ⟨b, off, none⟩) m d, .bool true, .func (.func F) #[] C] place W ∧ Blk W wr.heap.size 45 #[.int .i64 x.id, .int .i64 x.fr, .int .i64 x.to, .int .i64 x.steps, .int .i64 x.paces] ∧ W0.heap.size ≤ W.heap.size) ∧ (L 8 = true → (gh.b = true ∧ J (upto true p place t.links (k + 1)) W ∧ FromIn w1 g1 g2 #[.slice A nn c, .slice (some ⟨b, off, none⟩) m d, .bool true, .func (.func F) #[] C] place W ∧ W0.heap.size ≤ W.heap.size) ∨ (gh.b = false ∧ Jx (upto true p place t.links (k + 1)) W)) ∧ (L 0 = true → s 40 = .func (.yield l) #[] #[]) ∧ (L 1 = true → s 41 = .agg #[.int .i64 x.id, .int .i64 x.fr, .int .i64 x.to, .int .i64 x.steps, .int .i64 x.paces]) ∧ (L 2 = true → s 42 = .pointer (some ⟨wr.heap.size, 1, none⟩)) ∧ (L 3 = true → s 43 = .int .i64 x.fr) ∧ (L 4 = true → s 44 = .agg #[.slice A nn c, .slice (some ⟨b, off, none⟩) m d, .bool true, .func (.func F) #[] C]) ∧ (L 5 = true → s 45 = .agg #[.int .i64 x.id, .int .i64 x.fr, .int .i64 x.to, .int .i64 x.steps, .int .i64 x.paces]) ∧ (L 6 = true → s 46 = .agg #[.int .i64 (costOf p x false).a, .int .i64 (costOf p x false).b, .int .i64 (costOf p x false).c, .int .i64 (costOf p x false).d]) ∧ (L 7 = true → s 47 = .agg #[.int .i64 x.fr, .int .i64 (costOf p x false).a, .int .i64 (costOf p x false).b, .int .i64 (costOf p x false).c, .int .i64 (costOf p x false).d, .slice none 0 0]) ∧ (L 8 = true → s 48 = .bool gh.b) ∧ (L 9 = true → s 49 = .bool (!gh.b)) from ⟨gJ, gY, f0, f1, f2, f3, f4, f5, f6, f7, f8, f9⟩)
                  clear f9 f8 f7 f6 f5 f4 f3 f2 f1 f0 gY gJ hd
                  try simp only at e4 e5 ⊢
                  gi_wp2
                  refine ⟨trivial, fun _ => by omega, (callsIn_wide.2 (cost_any A nn c (some ⟨b, off, none⟩) m d true F C p x false W (HP.out.below GJ.out.2.1.below) HFX.out)).mono ?_⟩
                  rintro e W2 ⟨rfl, hb⟩
                  gi_wp2
                  obtain ⟨gJ, gY, f0, f1, f2, f3, f4, f5, f6, f7, f8, f9⟩ := HF.out
                  exact hK (gh, (upd (upd (upd s 44 (.agg #[.slice A nn c, .slice (some ⟨b, off, none⟩) m d, .bool true, .func (.func F) #[] C])) 45 (.agg #[.int .i64 x.id, .int .i64 x.fr, .int .i64 x.to, .int .i64 x.steps, .int .i64 x.paces])) 46 (.agg #[.int .i64 (costOf p x false).a, .int .i64 (costOf p x false).b, .int .i64 (costOf p x false).c, .int .i64 (costOf p x false).d]))) _ ⟨(fun _ => ⟨HJ.out _ _ _ none GJ.out.1 (grown_of_below hb none) (fun r e => by cases e), GJ.out.2.1.grow hb, GJ.out.2.2.1.below hb GJ.out.2.2.1.lt, Nat.le_trans GJ.out.2.2.2 hb.size⟩), (fun h => hdn.no 8 6 h rfl hu), f0, f1, f2, f3, (fun _ => rfl), (fun _ => rfl), (fun _ => rfl), f7, f8, f9⟩
                · rintro L ⟨gh, s⟩ W hu hd hdn ⟨gJ, gY, f0, f1, f2, f3, f4, f5, f6, f7, f8, f9⟩ K Q hK
                  try dsimp only at gJ gY f0 f1 f2 f3 f4 f5 f6 f7 f8 f9 ⊢
                  have e3 := f3 (hd.at_ 3 rfl)
                  have e6 := f6 (hd.at_ 6 rfl)
                  have HF := Lib.hid (show (L 8 = false → J (upto true p place t.links k) W ∧ FromIn w1 g1 g2 #[.slice A nn c, .slice (some ⟨b, off, none⟩) m d, .bool true, .func (.func F) #[] C] place W ∧ Blk W wr.heap.size 45 #[.int .i64 x.id, .int .i64 x.fr, .int .i64 x.to, .int .i64 x.steps, .int .i64 x.paces] ∧ W0.heap.size ≤ W.heap.size) ∧ (L 8 = true → (gh.b = true ∧ J (upto true p place t.links (k + 1)) W ∧ FromIn w1 g1 g2 #[.slice A nn c, .slice (some ⟨b, off, none⟩) m d, .bool true, .func (.func F) #[] C] place W ∧ W0.heap.size ≤ W.heap.size) ∨ (gh.b = false ∧ Jx (upto true p place t.links (k + 1)) W)) ∧ (L 0 = true → s 40 = .func (.yield l) #[] #[]) ∧ (L 1 = true → s 41 = .agg #[.int .i64 x.id, .int .i64 x.fr, .int .i64 x.to, .int .i64 x.steps, .int .i64 x.paces]) ∧ (L 2 = true → s 42 = .pointer (some ⟨wr.heap.size, 1, none⟩)) ∧ (L 3 = true → s 43 = .int .i64 x.fr) ∧ (L 4 = true → s 44 = .agg #[.slice A nn c, .slice (some ⟨b, off, none⟩) m d, .bool true, .func (.func F) #[] C]) ∧ (L 5 = true → s 45 = .agg #[.int .i64 x.id, .int .i64 x.fr, .int .i64 x.to, .int .i64 x.steps, .int .i64 x.paces]) ∧ (L 6 = true → s 46 = .agg #[.int .i64 (costOf p x false).a, .int .i64 (costOf p x false).b, .int .i64 (costOf p x false).c, .int .i64 (costOf p x false).d]) ∧ (L 7 = true → s 47 = .agg #[.int .i64 x.fr, .int .i64 (costOf p x false).a, .int .i64 (costOf p x false).b, .int .i64 (costOf p x false).c, .int .i64 (costOf p x false).d, .slice none 0 0]) ∧ (L 8 = true → s 48 = .bool gh.b) ∧ (L 9 = true → s 49 = .bool (!gh.b)) from ⟨gJ, gY, f0, f1, f2, f3, f4, f5, f6, f7, f8, f9⟩)
                  clear f9 f8 f7 f6 f5 f4 f3 f2 f1 f0 gY gJ hd
                  try simp only at e3 e6 ⊢
                  gi_wp2
                  obtain ⟨gJ, gY, f0, f1, f2, f3, f4, f5, f6, f7, f8, f9⟩ := HF.out
                  exact hK (gh, (upd (upd (upd s 43 (.int .i64 x.fr)) 46 (.agg #[.int .i64 (costOf p x false).a, .int .i64 (costOf p x false).b, .int .i64 (costOf p x false).c, .int .i64 (costOf p x false).d])) 47 (.agg #[.int .i64 x.fr, .int .i64 (costOf p x false).a, .int .i64 (costOf p x false).b, .int .i64 (costOf p x false).c, .int .i64 (costOf p x false).d, .slice none 0 0]))) _ ⟨gJ, gY, f0, f1, f2, (fun _ => rfl), f4, f5, (fun _ => rfl), (fun _ => rfl), f8, f9⟩
                · rintro L ⟨gh, s⟩ W hu hd hdn ⟨gJ, gY, f0, f1, f2, f3, f4, f5, f6, f7, f8, f9⟩ K Q hK
                  try dsimp only at gJ gY f0 f1 f2 f3 f4 f5 f6 f7 f8 f9 ⊢
                  have e0 := f0 (hd.at_ 0 rfl)
                  have e1 := f1 (hd.at_ 1 rfl)
                  have e7 := f7 (hd.at_ 7 rfl)
                  have h8 : L 8 = false := hu
                  have GJ := Lib.hid (gJ h8)
                  obtain ⟨fn, tmps, assign, body, hy, hR⟩ := HYY.out W GJ.out.1
                  have HF := Lib.hid (show (L 8 = false → J (upto true p place t.links k) W ∧ FromIn w1 g1 g2 #[.slice A nn c, .slice (some ⟨b, off, none⟩) m d, .bool true, .func (.func F) #[] C] place W ∧ Blk W wr.heap.size 45 #[.int .i64 x.id, .int .i64 x.fr, .int .i64 x.to, .int .i64 x.steps, .int .i64 x.paces] ∧ W0.heap.size ≤ W.heap.size) ∧ (L 8 = true → (gh.b = true ∧ J (upto true p place t.links (k + 1)) W ∧ FromIn w1 g1 g2 #[.slice A nn c, .slice (some ⟨b, off, none⟩) m d, .bool true, .func (.func F) #[] C] place W ∧ W0.heap.size ≤ W.heap.size) ∨ (gh.b = false ∧ Jx (upto true p place t.links (k + 1)) W)) ∧ (L 0 = true → s 40 = .func (.yield l) #[] #[]) ∧ (L 1 = true → s 41 = .agg #[.int .i64 x.id, .int .i64 x.fr, .int .i64 x.to, .int .i64 x.steps, .int .i64 x.paces]) ∧ (L 2 = true → s 42 = .pointer (some ⟨wr.heap.size, 1, none⟩)) ∧ (L 3 = true → s 43 = .int .i64 x.fr) ∧ (L 4 = true → s 44 = .agg #[.slice A nn c, .slice (some ⟨b, off, none⟩) m d, .bool true, .func (.func F) #[] C]) ∧ (L 5 = true → s 45 = .agg #[.int .i64 x.id, .int .i64 x.fr, .int .i64 x.to, .int .i64 x.steps, .int .i64 x.paces]) ∧ (L 6 = true → s 46 = .agg #[.int .i64 (costOf p x false).a, .int .i64 (costOf p x false).b, .int .i64 (costOf p x false).c, .int .i64 (costOf p x false).d]) ∧ (L 7 = true → s 47 = .agg #[.int .i64 x.fr, .int .i64 (costOf p x false).a, .int .i64 (costOf p x false).b, .int .i64 (costOf p x false).c, .int .i64 (costOf p x false).d, .slice none 0 0]) ∧ (L 8 = true → s 48 = .bool gh.b) ∧ (L 9 = true → s 49 = .bool (!gh.b)) from ⟨gJ, gY, f0, f1, f2, f3, f4, f5, f6, f7, f8, f9⟩)
                  clear f9 f8 f7 f6 f5 f4 f3 f2 f1 f0 gY gJ hd
                  try simp only at e0 e1 e7 ⊢
                  gi_wp2
                  refine ⟨fun _ => by omega, hR.mono ?_⟩
                  rintro e W3 hor
                  obtain ⟨bb, rfl, hor2⟩ := yieldedB hor
                  clear hor
                  gi_wp2
                  obtain ⟨gJ, gY, f0, f1, f2, f3, f4, f5, f6, f7, f8, f9⟩ := HF.out
                  exact hK ((⟨bb⟩ : YGh), (upd (upd (upd (upd s 40 (.func (.yield l) #[] #[])) 41 (.agg #[.int .i64 x.id, .int .i64 x.fr, .int .i64 x.to, .int .i64 x.steps, .int .i64 x.paces])) 47 (.agg #[.int .i64 x.fr, .int .i64 (costOf p x false).a, .int .i64 (costOf p x false).b, .int .i64 (costOf p x false).c, .int .i64 (costOf p x false).d, .slice none 0 0])) 48 (.bool bb))) _ ⟨(fun h => by cases h), (fun _ => by
            rcases hor2 with ⟨h1, h2, h3⟩ | ⟨h1, h2⟩
            · exact .inl ⟨h1, h2, GJ.out.2.1.kept h3, Nat.le_trans GJ.out.2.2.2 h3.1.size⟩
            · exact .inr ⟨h1, h2⟩), (fun _ => rfl), (fun _ => rfl), f2, f3, f4, f5, f6, (fun _ => rfl), (fun _ => rfl), (fun h => hdn.no 9 8 h rfl hu)⟩
                · rintro L ⟨gh, s⟩ W hu hd hdn ⟨gJ, gY, f0, f1, f2, f3, f4, f5, f6, f7, f8, f9⟩ K Q hK
                  try dsimp only at gJ gY f0 f1 f2 f3 f4 f5 f6 f7 f8 f9 ⊢
                  have e8 := f8 (hd.at_ 8 rfl)
                  have HF := Lib.hid (show (L 8 = false → J (upto true p place t.links k) W ∧ FromIn w1 g1 g2 #[.slice A nn c, .slice (some ⟨b, off, none⟩) m d, .bool true, .func (.func F) #[] C] place W ∧ Blk W wr.heap.size 45 #[.int .i64 x.id, .int .i64 x.fr, .int .i64 x.to, .int .i64 x.steps, .int .i64 x.paces] ∧ W0.heap.size ≤ W.heap.size) ∧ (L 8 = true → (gh.b = true ∧ J (upto true p place t.links (k + 1)) W ∧ FromIn w1 g1 g2 #[.slice A nn c, .slice (some ⟨b, off, none⟩) m d, .bool true, .func (.func F) #[] C] place W ∧ W0.heap.size ≤ W.heap.size) ∨ (gh.b = false ∧ Jx (upto true p place t.links (k + 1)) W)) ∧ (L 0 = true → s 40 = .func (.yield l) #[] #[]) ∧ (L 1 = true → s 41 = .agg #[.int .i64 x.id, .int .i64 x.fr, .int .i64 x.to, .int .i64 x.steps, .int .i64 x.paces]) ∧ (L 2 = true → s 42 = .pointer (some ⟨wr.heap.size, 1, none⟩)) ∧ (L 3 = true → s 43 = .int .i64 x.fr) ∧ (L 4 = true → s 44 = .agg #[.slice A nn c, .slice (some ⟨b, off, none⟩) m d, .bool true, .func (.func F) #[] C]) ∧ (L 5 = true → s 45 = .agg #[.int .i64 x.id, .int .i64 x.fr, .int .i64 x.to, .int .i64 x.steps, .int .i64 x.paces]) ∧ (L 6 = true → s 46 = .agg #[.int .i64 (costOf p x false).a, .int .i64 (costOf p x false).b, .int .i64 (costOf p x false).c, .int .i64 (costOf p x false).d]) ∧ (L 7 = true → s 47 = .agg #[.int .i64 x.fr, .int .i64 (costOf p x false).a, .int .i64 (costOf p x false).b, .int .i64 (costOf p x false).c, .int .i64 (costOf p x false).d, .slice none 0 0]) ∧ (L 8 = true → s 48 = .bool gh.b) ∧ (L 9 = true → s 49 = .bool (!gh.b)) from ⟨gJ, gY, f0, f1, f2, f3, f4, f5, f6, f7, f8, f9⟩)
                  clear f9 f8 f7 f6 f5 f4 f3 f2 f1 f0 gY gJ hd
                  try simp only at e8 ⊢
                  gi_wp2
                  obtain ⟨gJ, gY, f0, f1, f2, f3, f4, f5, f6, f7, f8, f9⟩ := HF.out
                  exact hK (gh, (upd (upd s 48 (.bool gh.b)) 49 (.bool (!gh.b)))) _ ⟨gJ, gY, f0, f1, f2, f3, f4, f5, f6, f7, (fun _ => rfl), (fun _ => rfl)⟩
              · rintro L ⟨gh, s⟩ W hall ⟨gJ, gY, f0, f1, f2, f3, f4, f5, f6, f7, f8, f9⟩
                have e9 := f9 (hall 9 (by decide))
                have GY := gY (hall 8 (by decide))
                clear hall gJ gY f0 f1 f2 f3 f4 f5 f6 f7 f8 f9
                rcases GY with ⟨hb, hj, hi, hsz'⟩ | ⟨hb, hjx⟩
                · rw [hb] at e9
                  have HJ3 := Lib.hid hj
                  have HI3 := Lib.hid hi
                  clear hj hi hb
                  replace e9 : s 49 = .bool false := e9
                  simp only
                  rw [e9]
                  gi_wp2
                  go_roundw
                  case rel => exact ⟨k + 1, by omega, by go_num, HJ3.out, HI3.out, by omega⟩
                  case measure => simp [intOf]; omega
                · rw [hb] at e9
                  have HJ3 := Lib.hid hjx
                  clear hjx hb
                  replace e9 : s 49 = .bool true := e9
                  simp only
                  rw [e9]
                  gi_wp2
                  unfold Exit.noGoto
                  refine bodyPost_ret (results_none rfl _ _ _) rfl ?_
                  exact ⟨⟨_, rfl⟩, .inr ⟨_, upto_pre _ _ _ _ _, HJ3.out⟩⟩
          · have hto' : (place == x.to) = false := by simpa using hto
            have HTO := Lib.hid hto
            clear hto
            rcases (show dk = false ∨ dk = true ∧ ¬ 0 < x.steps by cases dk <;> simp_all) with rfl | ⟨rfl, hst⟩
            all_goals
              clear hskip
              gi_wp2
              go_roundw
              case rel => exact ⟨k + 1, by omega, by go_num, by rw [upto_none HX.out (by rw [HLD.out, if_neg (fun e => HFR.out e.symm), if_neg (fun e => HTO.out e.symm)])]; exact HJ.out _ _ _ none HJs.out (World.grownBy_alloc _ _ none) (fun r e => by cases e), HI.out.grow ((Below.refl _ _).alloc (Nat.le_refl _) _), by simp; omega⟩
              case measure => simp [intOf]; omega
    · obtain rfl : k = m := by omega
      gi_wp2
      unfold Exit.noGoto
      go_end0
      exact ⟨⟨_, rfl⟩, .inl ⟨_, upto_all _ _ _ _ (by have := HLm.out; omega), HJs.out⟩⟩
end Go.Proofs.YtahkjagjcogeiaaDoor
/- climb.chart.from hands back its iterator. -/
namespace Go.Proofs.YtahkjagjcogeiaaDoor
open Go.RowKit Go.Shelf
set_option linter.unusedVariables false

set_option maxRecDepth 100000 in
set_option maxHeartbeats 2000000 in
/-- The iterator's value, and its two boxes. -/
theorem from_any (T : Array Value) (v0 v1 v2 v3 : Value) (hT : T = #[v0, v1, v2, v3]) (place : Int) (w : World) :
    Calls Tryd.prog 117 #[.agg T, .int .i64 place] w fun e w' =>
      e = .returned (.func (.func 140) #[] #[.pointer (some ⟨w.heap.size, 0, none⟩), .pointer (some ⟨w.heap.size + 1, 0, none⟩)]) ∧ w' = (w.alloc (.cells T 115)).alloc (.cells #[.int .i64 place] 3) := by
  subst hT
  go_enter Tryd.func117, Tryd.ntmps117
  go_wp2_with fail
  go_ret
  exact ⟨rfl, rfl⟩

theorem from_in (w : World) (T : Array Value) (place : Int) : FromIn w w.heap.size (w.heap.size + 1) T place ((w.alloc (.cells T 115)).alloc (.cells #[.int .i64 place] 3)) := by
  have Y := Blk.new (w.alloc (.cells T 115)) 3 #[.int .i64 place]
  rw [World.size_alloc] at Y
  exact ⟨(Blk.new w _ _).alloc _, Y, ((Below.refl _ _).alloc (Nat.le_refl _) _).alloc (by simp) _⟩
theorem FromIn.base {w w1 W : World} {g1 g2 : Nat} {T : Array Value} {place : Int} (h : FromIn w g1 g2 T place W) (hb : Below w1.heap.size w1 w) : FromIn w1 g1 g2 T place W := ⟨h.chart, h.place, hb.trans (h.below.mono hb.size)⟩
end Go.Proofs.YtahkjagjcogeiaaDoor
/- Costs added up, and the toil of one: climb.cost.plus, cost.toil. The prices: climb.free, drips, takes. -/
namespace Go.Proofs.YtahkjagjcogeiaaDoor
open Go.RowKit
set_option linter.unusedVariables false

def mixC (k : Nat) (x y : Cost) : Cost := ⟨if 0 < k then x.a + y.a else x.a, if 1 < k then x.b + y.b else x.b, if 2 < k then x.c + y.c else x.c, if 3 < k then x.d + y.d else x.d⟩
/-- A cost far within an int's reach. -/
structure Small (x : Cost) : Prop where
  a : 0 ≤ x.a ∧ x.a ≤ 1000000000000
  b : 0 ≤ x.b ∧ x.b ≤ 1000000000000
  c : 0 ≤ x.c ∧ x.c ≤ 1000000000000
  d : 0 ≤ x.d ∧ x.d ≤ 1000000000000

set_option maxRecDepth 100000 in
set_option maxHeartbeats 2000000 in
theorem toil_any (x : Cost) (w : World) :
    Calls Tryd.prog 81 #[costV x] w fun e w' => e = .returned (.agg #[.int .i64 x.b, .int .i64 x.c]) ∧ Below w.heap.size w w' := by
  go_enter Tryd.func81, Tryd.ntmps81
  go_wp2_with fail
  exact bodyPost_ret (v := .agg #[.int .i64 x.b, .int .i64 x.c]) (by simp [results, Tryd.results81, go_sem]) rfl ⟨rfl, (((Below.refl _ _).alloc (Nat.le_refl _) _).alloc (by simp) _)⟩

set_option maxRecDepth 100000 in
set_option maxHeartbeats 4000000 in
theorem plus_any (x y : Cost) (w : World) (hx : Small x) (hy : Small y) :
    Calls Tryd.prog 118 #[costV x, costV y] w fun e w' => e = .returned (costV (addC x y)) ∧ Below w.heap.size w w' := by
  have HX := Lib.hid hx
  have HY := Lib.hid hy
  clear hx hy
  go_enter Tryd.func118, Tryd.ntmps118
  go_wp2_with fail
  have X1 := ((Blk.new w 109 #[.int .i64 x.a, .int .i64 x.b, .int .i64 x.c, .int .i64 x.d]).alloc (.cells #[.int .i64 y.a, .int .i64 y.b, .int .i64 y.c, .int .i64 y.d] 109)).alloc (.cells #[.int .i64 0, .int .i64 0, .int .i64 0, .int .i64 0] 109)
  have Y1 := (Blk.new (w.alloc (.cells #[.int .i64 x.a, .int .i64 x.b, .int .i64 x.c, .int .i64 x.d] 109)) 109 #[.int .i64 y.a, .int .i64 y.b, .int .i64 y.c, .int .i64 y.d]).alloc (.cells #[.int .i64 0, .int .i64 0, .int .i64 0, .int .i64 0] 109)
  have Z1 := Blk.new ((w.alloc (.cells #[.int .i64 x.a, .int .i64 x.b, .int .i64 x.c, .int .i64 x.d] 109)).alloc (.cells #[.int .i64 y.a, .int .i64 y.b, .int .i64 y.c, .int .i64 y.d] 109)) 109 #[.int .i64 0, .int .i64 0, .int .i64 0, .int .i64 0]
  have B1 : Below w.heap.size w (((w.alloc (.cells #[.int .i64 x.a, .int .i64 x.b, .int .i64 x.c, .int .i64 x.d] 109)).alloc (.cells #[.int .i64 y.a, .int .i64 y.b, .int .i64 y.c, .int .i64 y.d] 109)).alloc (.cells #[.int .i64 0, .int .i64 0, .int .i64 0, .int .i64 0] 109)) := (((Below.refl _ _).alloc (Nat.le_refl _) _).alloc (by simp) _).alloc (by simp; omega) _
  rw [World.size_alloc] at Y1
  rw [World.size_alloc, World.size_alloc] at Z1
  generalize ((w.alloc (.cells #[.int .i64 x.a, .int .i64 x.b, .int .i64 x.c, .int .i64 x.d] 109)).alloc (.cells #[.int .i64 y.a, .int .i64 y.b, .int .i64 y.c, .int .i64 y.d] 109)).alloc (.cells #[.int .i64 0, .int .i64 0, .int .i64 0, .int .i64 0] 109) = w0 at *
  go_loopw [6] (fun i wr => ∃ k : Nat, k ≤ 4 ∧ i = .int .i64 k ∧ Blk wr w.heap.size 109 #[.int .i64 (mixC k x y).a, .int .i64 (mixC k x y).b, .int .i64 (mixC k x y).c, .int .i64 (mixC k x y).d] ∧ Blk wr (w.heap.size + 1) 109 #[.int .i64 y.a, .int .i64 y.b, .int .i64 y.c, .int .i64 y.d] ∧ Blk wr (w.heap.size + 1 + 1) 109 #[.int .i64 0, .int .i64 0, .int .i64 0, .int .i64 0] ∧ Below w.heap.size w wr)
    (fun i _ => 4 - (intOf i).toNat)
  case atStart => exact ⟨0, by omega, rfl, X1, Y1, Z1, B1⟩
  case round =>
    obtain ⟨k, hk, rfl, hX, hY, hZ, hbel⟩ := hrel
    have x0 := hX.cell 0
    have x1 := hX.cell 1
    have x2 := hX.cell 2
    have x3 := hX.cell 3
    have q0 := hX.frozen 0
    have q1 := hX.frozen 1
    have q2 := hX.frozen 2
    have q3 := hX.frozen 3
    have y0 := hY.cell 0
    have y1 := hY.cell 1
    have y2 := hY.cell 2
    have y3 := hY.cell 3
    have c0 := hZ.cell 0
    have c1 := hZ.cell 1
    have c2 := hZ.cell 2
    have c3 := hZ.cell 3
    have z0 := hZ.frozen 0
    have z1 := hZ.frozen 1
    have z2 := hZ.frozen 2
    have z3 := hZ.frozen 3
    have hlX := hX.lt
    have hlZ := hZ.lt
    have HX' := Lib.hid hX
    have HY' := Lib.hid hY
    have HZ' := Lib.hid hZ
    clear hX hY hZ
    simp only [List.getElem?_toArray, List.getElem?_cons_zero, List.getElem?_cons_succ] at x0 x1 x2 x3 y0 y1 y2 y3 c0 c1 c2 c3
    clear X1 Y1 Z1 B1
    rcases (show k = 0 ∨ k = 1 ∨ k = 2 ∨ k = 3 ∨ k = 4 by omega) with rfl | rfl | rfl | rfl | rfl
    · obtain ⟨hx1, hx2⟩ := HX.out.a
      obtain ⟨hy1, hy2⟩ := HY.out.a
      replace x0 : wr.cell? ⟨w.heap.size, 0, none⟩ = some (.int .i64 x.a) := x0
      go_wp2_with fail
      go_region
      go_wp2_with fail
      go_roundw
      case rel => exact ⟨1, by omega, by go_num, (HX'.out.set_ 0 (.int .i64 (x.a + y.a))).drewN 1, (HY'.out.far (p := ⟨w.heap.size, 0, none⟩) (by simp) _).drewN 1, (HZ'.out.far (p := ⟨w.heap.size, 0, none⟩) (by simp; omega) _).drewN 1, below_drewN (hbel.setCell (p := ⟨w.heap.size, 0, none⟩) (Nat.le_refl _) _) 1⟩
      case measure => simp [intOf]
    · obtain ⟨hx1, hx2⟩ := HX.out.b
      obtain ⟨hy1, hy2⟩ := HY.out.b
      replace x1 : wr.cell? ⟨w.heap.size, 1, none⟩ = some (.int .i64 x.b) := x1
      go_wp2_with fail
      go_region
      go_wp2_with fail
      go_roundw
      case rel => exact ⟨2, by omega, by go_num, (HX'.out.set_ 1 (.int .i64 (x.b + y.b))).drewN 1, (HY'.out.far (p := ⟨w.heap.size, 1, none⟩) (by simp) _).drewN 1, (HZ'.out.far (p := ⟨w.heap.size, 1, none⟩) (by simp; omega) _).drewN 1, below_drewN (hbel.setCell (p := ⟨w.heap.size, 1, none⟩) (Nat.le_refl _) _) 1⟩
      case measure => simp [intOf]
    · obtain ⟨hx1, hx2⟩ := HX.out.c
      obtain ⟨hy1, hy2⟩ := HY.out.c
      replace x2 : wr.cell? ⟨w.heap.size, 2, none⟩ = some (.int .i64 x.c) := x2
      go_wp2_with fail
      go_region
      go_wp2_with fail
      go_roundw
      case rel => exact ⟨3, by omega, by go_num, (HX'.out.set_ 2 (.int .i64 (x.c + y.c))).drewN 1, (HY'.out.far (p := ⟨w.heap.size, 2, none⟩) (by simp) _).drewN 1, (HZ'.out.far (p := ⟨w.heap.size, 2, none⟩) (by simp; omega) _).drewN 1, below_drewN (hbel.setCell (p := ⟨w.heap.size, 2, none⟩) (Nat.le_refl _) _) 1⟩
      case measure => simp [intOf]
    · obtain ⟨hx1, hx2⟩ := HX.out.d
      obtain ⟨hy1, hy2⟩ := HY.out.d
      replace x3 : wr.cell? ⟨w.heap.size, 3, none⟩ = some (.int .i64 x.d) := x3
      go_wp2_with fail
      go_region
      go_wp2_with fail
      go_roundw
      case rel => exact ⟨4, by omega, by go_num, (HX'.out.set_ 3 (.int .i64 (x.d + y.d))).drewN 1, (HY'.out.far (p := ⟨w.heap.size, 3, none⟩) (by simp) _).drewN 1, (HZ'.out.far (p := ⟨w.heap.size, 3, none⟩) (by simp; omega) _).drewN 1, below_drewN (hbel.setCell (p := ⟨w.heap.size, 3, none⟩) (Nat.le_refl _) _) 1⟩
      case measure => simp [intOf]
    · replace x0 : wr.cell? ⟨w.heap.size, 0, none⟩ = some (.int .i64 (x.a + y.a)) := x0
      replace x1 : wr.cell? ⟨w.heap.size, 1, none⟩ = some (.int .i64 (x.b + y.b)) := x1
      replace x2 : wr.cell? ⟨w.heap.size, 2, none⟩ = some (.int .i64 (x.c + y.c)) := x2
      replace x3 : wr.cell? ⟨w.heap.size, 3, none⟩ = some (.int .i64 (x.d + y.d)) := x3
      go_wp2_with fail
      exact bodyPost_ret (v := costV (addC x y)) (by simp [results, Tryd.results118, go_sem, c0, c1, c2, c3, addC]) rfl ⟨rfl, (((hbel.setCell (by simp; omega) _).setCell (by simp; omega) _).setCell (by simp; omega) _).setCell (by simp; omega) _⟩
end Go.Proofs.YtahkjagjcogeiaaDoor
/- A list of links followed from a place: plain Lean. -/
namespace Go.Proofs.YtahkjagjcogeiaaDoor
set_option linter.unusedVariables false

/-- By which link of an Id, where to, and what it costs. -/
def stepF (t : Town) (p : Price) (u : Int) (id : Int) : Option (Int × Cost) := t.links.findSome? fun x => if x.id = id then leads false p x u else none
/-- A list followed. -/
def walkS (t : Town) (p : Price) : Int × Cost → List Int → Option (Int × Cost)
  | s, [] => some s
  | s, i :: r => match stepF t p s.1 i with
    | none => none
    | some (m, c) => walkS t p (m, addC s.2 c) r
/-- The same, up to 40 links. -/
def walkedF (t : Town) (p : Price) (u : Int) (l : List Int) : Option (Int × Cost) := if 40 < l.length then none else walkS t p (u, zeroC) l

section
variable {t : Town} {p : Price} {u m : Int} {c d : Cost} {i : Int} {l r : List Int}
theorem walkS_append : ∀ (l r : List Int) (s : Int × Cost), walkS t p s (l ++ r) = (walkS t p s l).bind fun s' => walkS t p s' r
  | [], _, _ => rfl
  | i :: l, r, s => by
    simp only [List.cons_append, walkS]
    cases stepF t p s.1 i with
    | none => rfl
    | some q => obtain ⟨m, c⟩ := q; exact walkS_append l r _
theorem stepF_leads {x : Link} (hi : t.links.Pairwise fun x y => x.id < y.id) (hx : x ∈ t.links) : stepF t p u x.id = leads false p x u := by
  unfold stepF
  generalize t.links = ls at hi hx
  induction ls with
  | nil => cases hx
  | cons y ys ih =>
    rw [List.pairwise_cons] at hi
    rw [List.findSome?_cons]
    rcases List.mem_cons.1 hx with rfl | hx
    · rw [if_pos rfl]
      cases h : leads false p x u with
      | some r => rfl
      | none =>
        simp only
        rw [List.findSome?_eq_none_iff]
        intro z hz
        have := hi.1 z hz
        rw [if_neg (by omega)]
    · have := hi.1 x hx
      rw [if_neg (by omega)]
      exact ih hi.2 hx
theorem stepF_some (h : stepF t p u i = some (m, c)) : ∃ x ∈ t.links, x.id = i ∧ leads false p x u = some (m, c) := by
  unfold stepF at h
  obtain ⟨x, hx, h1⟩ := List.exists_of_findSome?_eq_some h
  split at h1
  · rename_i e; exact ⟨x, hx, e, h1⟩
  · cases h1
end
end Go.Proofs.YtahkjagjcogeiaaDoor
/- A function that holds loops over functions, one behind another or in a loop, leaves with many marks among its deferred calls: each is shut, no call is made. -/
namespace Go.Proofs.YtahkjagjcogeiaaDoor
open Go.RowKit
set_option linter.unusedVariables false

/-- The marks: blocks of deferred calls without a call, at or above B, each but once. -/
def Marks (B : Nat) (w : World) : List Deferred → Prop
  | [] => True
  | d :: ds => (∃ r, B ≤ r ∧ d.target = .collected r ∧ w.heap[r]? = some (.deferred (some [])) ∧ ∀ d' ∈ ds, d'.target ≠ .collected r) ∧ Marks B w ds

theorem Marks.keep {B : Nat} {w w' : World} : ∀ {ds : List Deferred}, Marks B w ds → (∀ d ∈ ds, ∀ r, d.target = .collected r → w.heap[r]? = some (.deferred (some [])) → w'.heap[r]? = some (.deferred (some []))) → Marks B w' ds
  | [], _, _ => trivial
  | d :: ds, ⟨⟨r, h1, h2, h3, h4⟩, h5⟩, hk => ⟨⟨r, h1, h2, hk d (by simp) r h2 h3, h4⟩, Marks.keep h5 fun d' hd => hk d' (by simp [hd])⟩
theorem Marks.lt {B : Nat} {w : World} : ∀ {ds : List Deferred}, Marks B w ds → ∀ d ∈ ds, ∀ r, d.target = .collected r → r < w.heap.size
  | d :: ds, ⟨⟨r', h1, h2, h3, h4⟩, h5⟩, x, hx, r, hr => by
    rcases List.mem_cons.1 hx with rfl | hx
    · rw [h2] at hr
      cases hr
      exact (Array.getElem?_eq_some_iff.1 h3).1
    · exact Marks.lt h5 x hx r hr
theorem Marks.below {B : Nat} {w w' : World} {ds : List Deferred} (h : Marks B w ds) (hb : Below w.heap.size w w') : Marks B w' ds :=
  h.keep fun d hd r hr h0 => (hb.block r (h.lt d hd r hr)).trans h0
theorem Marks.more {B : Nat} {w : World} {ds : List Deferred} {D : Nat} (h : Marks B w ds) (hD : B ≤ D) (hd : w.heap[D]? = some (.deferred (some []))) (hn : ∀ d ∈ ds, ∀ r, d.target = .collected r → r < D) (a : Array Value) : Marks B w ({ target := .collected D, args := a } :: ds) :=
  ⟨⟨D, hD, rfl, hd, fun d' hd' e => absurd (hn d' hd' D e) (by omega)⟩, h⟩

/-- What shutting the marks leaves. -/
structure Shut (B : Nat) (w w' : World) : Prop where
  below : Below B w w'
  cells : ∀ (b : Nat) cs t fr, w.heap[b]? = some (.cells cs t fr) → w'.heap[b]? = some (.cells cs t fr)
theorem Shut.refl (B : Nat) (w : World) : Shut B w w := ⟨Below.refl _ _, fun _ _ _ _ h => h⟩
theorem Shut.trans {B : Nat} {w w' w'' : World} (h : Shut B w w') (k : Shut B w' w'') : Shut B w w'' := ⟨h.below.trans k.below, fun b cs t fr e => k.cells b cs t fr (h.cells b cs t fr e)⟩
theorem Shut.blk {B g : Nat} {w w' : World} {t : TypeId} {cs : Array Value} (h : Shut B w w') (b : Blk w g t cs) : Blk w' g t cs := h.cells _ _ _ _ b

theorem shut_put {B r : Nat} {w : World} (hB : B ≤ r) (h : w.heap[r]? = some (.deferred (some []))) : Shut B w (w.putObj r (.deferred none)) := by
  have hlt := (Array.getElem?_eq_some_iff.1 h).1
  refine ⟨(Below.refl B w).grown (grownBy_putObj' w r (.deferred none)) (by omega) (fun k e => by cases e; exact hB), fun b cs t fr e => ?_⟩
  have hne : b ≠ r := by
    intro e'
    subst e'
    rw [h] at e
    cases e
  exact (World.putObj_heap_other hne).trans e

theorem leaves_marks {F : Fence} {n : Nat} {P : Program} {fn : Func} {tmps : Array Value} {R : Ending → World → Prop} {B : Nat} : ∀ (ds : List Deferred) (w : World), Marks B w ds →
    (∀ w', Shut B w w' → LeavesIn F n P fn tmps R [] .returning w') → LeavesInM F n P fn tmps R ds .returning w
  | [], w, _, h => h w (Shut.refl _ _)
  | d :: ds, w, ⟨⟨r, h1, h2, h3, h4⟩, h5⟩, h => by
    refine ⟨by simp, .inl ⟨r, _, h2, run_takeDeferred h3, ?_⟩⟩
    refine leaves_marks ds _ (h5.keep fun d' hd r' hr h0 => ?_) (fun w' hs => h w' ((shut_put h1 h3).trans hs))
    have hne : r' ≠ r := by
      intro e
      subst e
      exact h4 d' hd hr
    exact (World.putObj_heap_other hne).trans h0
end Go.Proofs.YtahkjagjcogeiaaDoor
/- A region that draws its order, inside a fence, in a round or not: a head whose operations leave one value in every world of a class, and a tail that waits for the head: one walk of the lexical order serves. -/
namespace Go.Proofs.YtahkjagjcogeiaaDoor
open Go.RowKit
set_option linter.unusedVariables false

section
variable {F : Fence} {n : Nat} {P : Program} {ops : Array Oper} {md : Region.Mode} {C : World → Prop}

/-- No operation is a defer statement. -/
def noDefer (ops : Array Oper) : Prop := ∀ (i : Nat) o, ops[i]? = some o → ∀ c, o.op ≠ .defer c
def noDeferB (l : List Oper) : Bool := l.all fun o => match o.op with
  | .defer _ => false
  | _ => true
theorem noDefer_of {l : List Oper} (h : noDeferB l = true) : noDefer l.toArray := by
  intro i o ho c hc
  have := List.all_eq_true.1 h o (by simpa using List.mem_of_getElem? (by simpa using ho))
  rw [hc] at this
  cases this

theorem wpIn_of_quiet' {o : Oper} {a : Act} {K : Act → Prop} {K' : Act → World → Prop} {Q' : Exit → Act → World → Prop} {w : World} (hnd : ∀ c, o.op ≠ .defer c) (hw : C w) (h : ∀ a w', C w' → K a → K' a w')
    (ha : o.askedIn F P a C) (hh : o.quietIn F n P a C K) : o.wpIn F n P a w K' Q' := by
  obtain ⟨v, h1, h2⟩ := hh
  have h3 := h1 w hw
  unfold Oper.quietAtIn at h3
  unfold Oper.wpIn
  refine ⟨ha w hw, ?_⟩
  rw [Oper.semAt_eq _ _ _ hnd]
  generalize (execOp a.eval o).run P w = r at *
  cases r with
  | ok x w' =>
    cases x <;> simp only [Oper.quietUponIn] at h3 <;> simp only [Oper.uponIn]
    case value u =>
      obtain ⟨e1, e2⟩ := h3
      rw [e1, e2]
      exact h _ _ hw h2
    case skip =>
      obtain ⟨e1, e2⟩ := h3
      rw [e1, ← e2]
      exact h _ _ hw h2
    case enter f args =>
      obtain ⟨e1, hd, hc⟩ := h3
      rw [e1]
      exact ⟨hd, hc.mono fun e w'' ⟨he, hw''⟩ => by subst he; exact h _ _ hw'' h2⟩
  | halt x w' => simp only [Oper.quietUponIn] at h3

theorem wpOpIn_of_qOpIn' {i : Nat} {a : Act} {K : Act → Prop} {K' : Act → World → Prop} {Q' : Exit → Act → World → Prop} {w : World} (hnd : noDefer ops) (hC : C w) (h : ∀ a w', C w' → K a → K' a w')
    (hh : qOpIn F n P ops C i K a) : wpOpIn F n P ops Q' i K' a w := by
  unfold qOpIn at hh
  unfold wpOpIn
  split
  · rename_i ho; simp only [ho] at hh; exact h _ _ hC hh
  · rename_i o ho
    simp only [ho] at hh
    obtain ⟨ha, hh⟩ := hh
    split
    · rename_i hw; simp only [hw, if_true] at hh; exact wpIn_of_quiet' (hnd i o ho) hC h ha hh
    · rename_i hw; simp only [hw] at hh; exact ⟨ha w hC, h _ _ hC hh⟩

theorem wpAnyIn_of_quiet' {Q : Act → Prop} {Q' : Exit → Act → World → Prop} (hnd : noDefer ops) (hQ : ∀ a w, C w → Q a → Q' .normal a w) : ∀ (fuel : Nat) (listed : Array Bool) (a : Act) (w : World), C w →
    wpAnyQIn F n P md ops C Q fuel listed a → wpAnyIn F n P md ops Q' fuel listed a w
  | 0, _, _, _, hw, h => ⟨h.1, hQ _ _ hw h.2⟩
  | fuel + 1, _, _, _, hw, h => ⟨fun h0 => hQ _ _ hw (h.1 h0), fun i hi => wpOpIn_of_qOpIn' hnd hw (fun a' w' hw' => wpAnyIn_of_quiet' hnd hQ fuel _ a' w' hw') (h.2 i hi)⟩

/-- The head alone: whatever order is picked. -/
def wpHeadIn (F : Fence) (n : Nat) (P : Program) (md : Region.Mode) (ops : Array Oper) (C : World → Prop) (k : Nat) (L : Array Bool → Act → Prop) : Nat → Array Bool → Act → Prop
  | 0, listed, a => L listed a
  | f + 1, listed, a =>
    Region.ready md ops listed ≠ [] ∧ ∀ i ∈ Region.ready md ops listed, i < k ∧ qOpIn F n P ops C i (wpHeadIn F n P md ops C k L f (listed.setIfInBounds i true)) a

theorem wpAnyIn_of_head {k g : Nat} {L : Array Bool → Act → Prop} {Q' : Exit → Act → World → Prop} (hnd : noDefer ops) (hL : ∀ listed a w, C w → L listed a → wpAnyIn F n P md ops Q' g listed a w) :
    ∀ (f : Nat) (listed : Array Bool) (a : Act) (w : World), C w → wpHeadIn F n P md ops C k L f listed a → wpAnyIn F n P md ops Q' (f + g) listed a w
  | 0, listed, a, w, hw, h => by rw [Nat.zero_add]; exact hL _ _ _ hw h
  | f + 1, listed, a, w, hw, h => by
    rw [show f + 1 + g = (f + g) + 1 by omega]
    exact ⟨fun h0 => absurd h0 h.1, fun i hi => wpOpIn_of_qOpIn' hnd hw (fun a' w' hw' h' => wpAnyIn_of_head hnd hL f _ a' w' hw' h') (h.2 i hi).2⟩

theorem wpHeadIn_first {k i : Nat} {oi : Oper} {v : Value} {L : Array Bool → Act → Prop} (hi : ops[i]? = some oi) (hsel : ∀ (j : Nat) (o : Oper) cs b, ops[j]? = some o → o.op ≠ .select cs b)
    (hs : Region.sinkB md ops k = true) (hc : Region.chainB md ops k = true) (hn : k < ops.size) (hin : i < k)
    (hdone : ∀ listed a, L listed a → ∀ j ∈ Region.ready md ops listed, k ≤ j) :
    ∀ (f : Nat) (listed : Array Bool) (a : Act), HeadInv md ops k listed →
      (∀ j oj, ops[j]? = some oj → j ≠ i → listed.getD j true = false → (∀ e ∈ oj.after, Region.binds md e = true → e.on ≠ i) → oi.apart ops oj = true) →
      i ∈ Region.ready md ops listed → YieldsQuiet F n P ops C oi v a →
      wpHeadIn F n P md ops C k L f (listed.setIfInBounds i true) (a.put oi.dst v) → wpHeadIn F n P md ops C k L (f + 1) listed a := by
  intro f
  induction f with
  | zero =>
    intro listed a inv _ hr hy H
    have hun := (mem_ready.1 hr).1
    refine ⟨fun h => (by rw [h] at hr; cases hr), fun j hj => ?_⟩
    have hjn : j < k := by
      rcases Nat.lt_or_ge j k with h | h
      · exact h
      · exact absurd hj (tail_waits hs hc hn inv _ i rfl hin hun j h)
    refine ⟨hjn, ?_⟩
    by_cases hji : j = i
    · subst hji; exact hy.qOpIn hi H
    · have := hdone _ _ H j (ready_mono hj hji)
      omega
  | succ f ih =>
    intro listed a inv hfree hr hy H
    have hun := (mem_ready.1 hr).1
    refine ⟨fun h => (by rw [h] at hr; cases hr), fun j hj => ?_⟩
    have hjn : j < k := by
      rcases Nat.lt_or_ge j k with h | h
      · exact h
      · exact absurd hj (tail_waits hs hc hn inv _ i rfl hin hun j h)
    refine ⟨hjn, ?_⟩
    by_cases hji : j = i
    · subst hji; exact hy.qOpIn hi H
    · have h1 := (H.2 j (ready_mono hj hji)).2
      obtain ⟨hjun, oj, hoj, hall⟩ := mem_ready.1 hj
      have hnot : ∀ e ∈ oj.after, Region.binds md e = true → e.on ≠ i := fun e he hb heq => by
        have h1 := hall e he hb
        rw [heq, getD_both hun] at h1
        cases h1
      have h2 := qOpIn_put hoj (hfree j oj hoj hji hjun hnot) (fun cs b => hsel i oi cs b hi) (fun cs b => hsel j oj cs b hoj) hy h1
      have hfree' : ∀ k ok, ops[k]? = some ok → k ≠ i → (listed.setIfInBounds j true).getD k true = false →
          (∀ e ∈ ok.after, Region.binds md e = true → e.on ≠ i) → oi.apart ops ok = true := fun k ok hk hki hun hno => by
        refine hfree k ok hk hki ?_ hno
        by_cases hjk : j = k
        · subst hjk; exact hjun
        · rw [getD_set_ne true hjk] at hun; exact hun
      refine qOpIn_mono (fun a' h3 => ih (listed.setIfInBounds j true) a' (inv.set hj hjn) hfree' (ready_mono hr (Ne.symm hji)) h3.1 ?_) h2
      rw [Array.setIfInBounds_comm _ _ hji]
      exact h3.2

theorem wpAnyIn_of_seq {Q' : Exit → Act → World → Prop} : ∀ (l : List Oper) (k : Nat) (listed : Array Bool) (a : Act) (w : World), (∀ j, l[j]? = ops[k + j]?) →
    Region.seqB md ops l.length k listed = true → wpListIn F n P ops Q' l a w → wpAnyIn F n P md ops Q' l.length listed a w
  | [], _, _, _, _, _, hB, h => ⟨by simpa [Region.seqB] using hB, h⟩
  | o :: l, k, listed, a, w, hl, hB, h => by
    have h0 : ops[k]? = some o := by simpa using (hl 0).symm
    simp only [List.length_cons, Region.seqB, Bool.and_eq_true, decide_eq_true_eq] at hB
    refine ⟨fun h1 => (by rw [hB.1] at h1; cases h1), fun i hi => ?_⟩
    rw [hB.1] at hi
    have hik : i = k := by simpa using hi
    subst hik
    have hw : wpOpIn F n P ops Q' i (wpListIn F n P ops Q' l) a w := by unfold wpOpIn; simp only [h0]; exact h
    exact wpOpIn_mono (fun a' w' h' => wpAnyIn_of_seq l (i + 1) _ a' w' (fun j => by have := hl (j + 1); simpa [Nat.add_assoc, Nat.add_comm 1 j] using this) hB.2 h') hw

theorem wpHeadIn_lex {k g : Nat} {Lq : Act → Prop} (hsel : Region.noSelect ops = true) (hs : Region.sinkB md ops k = true) (hc : Region.chainB md ops k = true) (hn : k < ops.size) :
    ∀ (l : List Oper) (i : Nat) (listed : Array Bool) (a : Act), (∀ j, j < l.length → l[j]? = ops[i + j]?) → i + l.length = k → HeadInv md ops k listed →
    Region.lexHead md ops g l.length i listed = true → wpQuietIn F n P ops C Lq l a →
    wpHeadIn F n P md ops C k (fun listed' a' => Region.seqB md ops g k listed' = true ∧ Lq a') l.length listed a
  | [], i, listed, a, _, hk, _, hB, h => by
    have : i = k := by simpa using hk
    subst this
    exact ⟨by simpa [Region.lexHead] using hB, h⟩
  | o :: l, i, listed, a, hl, hk, inv, hB, h => by
    have h0 : ops[i]? = some o := by simpa using (hl 0 (by simp)).symm
    simp only [List.length_cons, Region.lexHead, Bool.and_eq_true] at hB
    obtain ⟨⟨hr, hf⟩, hB'⟩ := hB
    have hkn : i < k := by simp only [List.length_cons] at hk; omega
    have hr' : i ∈ Region.ready md ops listed := by simpa using hr
    have hst : qOpIn F n P ops C i (wpQuietIn F n P ops C Lq l) a := by unfold qOpIn; simp only [h0]; exact h
    obtain ⟨v, hy, hK⟩ := yieldsQuiet_of_qOpIn h0 hst
    exact wpHeadIn_first h0 (Region.noSelect_spec hsel) hs hc hn hkn (fun listed' a' hL => seqB_ready hL.1) l.length listed a inv (Region.free_spec h0 hf) hr' hy
      (wpHeadIn_lex hsel hs hc hn l (i + 1) _ _ (fun j hj => by have := hl (j + 1) (by simp; omega); simpa [Nat.add_assoc, Nat.add_comm 1 j] using this) (by simp only [List.length_cons] at hk; omega) (inv.set hr' hkn) hB' hK)

/-- THE LAW: a head of k operations, quiet in the class C; then a tail. -/
theorem wpIn_region_tail {id : Nat} {Q : Exit → Act → World → Prop} {a : Act} {w : World} {l : List Oper} (C : World → Prop) (k : Nat) (hm : P.follows .mixedOrders = true) (hnd : noDeferB l = true) (hB : Region.lexTailB .any l.toArray k = true) (hC : C w.drew)
    (h : wpQuietIn F n P l.toArray C (fun a' => ∀ w', C w' → wpListIn F n P l.toArray Q (l.drop k) a' w') (l.take k) a) : (Code.region id l.toArray true).wpIn F n P Q a w := by
  simp only [Region.lexTailB, Bool.and_eq_true, decide_eq_true_eq] at hB
  obtain ⟨⟨⟨⟨hsel, hn⟩, hs⟩, hc⟩, hlex⟩ := hB
  have hn' : k < l.length := by simpa using hn
  have htl : (l.take k).length = k := by simp; omega
  have hdl : (l.drop k).length = l.toArray.size - k := by simp
  have inv0 : HeadInv .any l.toArray k (Array.replicate l.toArray.size false) :=
    ⟨by simp, fun j oj _ hl => (by rw [getD_replicate_false] at hl; cases hl), fun t _ ht => getD_in (by simpa using ht) (getD_replicate_false _ _)⟩
  have H := wpHeadIn_lex (F := F) (n := n) (P := P) (C := C) (md := .any) (g := l.toArray.size - k) hsel hs hc hn (l.take k) 0 _ a (fun j hj => by
    have hj' : j < k := by rw [htl] at hj; exact hj
    simp [hj']) (by simpa using htl) inv0 (by rw [htl]; exact hlex) h
  refine wpIn_region_any hm ?_
  have := wpAnyIn_of_head (Q' := Q) (g := l.toArray.size - k) (noDefer_of hnd) (fun listed a' w' hw' hL => by
    have := wpAnyIn_of_seq (md := .any) (Q' := Q) (l.drop k) k listed a' w' (fun j => by simp [List.getElem?_drop]) (by rw [hdl]; exact hL.1) (hL.2 w' hw')
    rwa [hdl] at this) _ _ _ w.drew hC H
  rw [htl, show k + (l.toArray.size - k) = l.toArray.size by omega] at this
  exact this

/-- THE LAW: all operations quiet in the class C. -/
theorem wpIn_region_class {id : Nat} {Q : Exit → Act → World → Prop} {a : Act} {w : World} {l : List Oper} (C : World → Prop) (hm : P.follows .mixedOrders = true) (hnd : noDeferB l = true) (hB : Region.lexB .any l.toArray = true) (hC : C w.drew)
    (h : wpQuietIn F n P l.toArray C (fun a' => ∀ w', C w' → Q .normal a' w') l a) : (Code.region id l.toArray true).wpIn F n P Q a w := by
  simp only [Region.lexB, Bool.and_eq_true] at hB
  refine wpIn_region_any hm (wpAnyIn_of_quiet' (Q := fun a' => ∀ w', C w' → Q .normal a' w') (noDefer_of hnd) (fun _ w' hw' h => h w' hw') _ _ _ _ hC ?_)
  have := wpAnyQIn_lex (F := F) (n := n) (P := P) (C := C) (md := .any) hB.1 l 0 (Array.replicate l.toArray.size false) a (by simp) (by simpa using hB.2) h
  simpa using this
end

/-- Worlds of a class, as letters: what is known of each is a rule of the walk. -/
abbrev Cls {σ : Type} (of : σ → World) : World → Prop := fun W => ∃ z : σ, W = of z
theorem cls_open {C : World → Prop} {w : World} (h : C w) {goal : Prop} (k : ∀ (σ : Type) (_ : Nonempty σ) (of : σ → World), (∀ z, C (of z)) → (∀ W, C W → Cls of W) → goal) : goal :=
  k { W : World // C W } ⟨⟨w, h⟩⟩ (fun z => z.1) (fun z => z.2) (fun W hW => ⟨⟨W, hW⟩, rfl⟩)
end Go.Proofs.YtahkjagjcogeiaaDoor
/- What a loop over a function turns by itself: an invariant on cells, and on what lay ahead of the loop, abides it. -/
namespace Go.Proofs.YtahkjagjcogeiaaDoor
open Go.RowKit Go.Shelf
set_option linter.unusedVariables false

theorem shut_of_grown {B : Nat} {W W' : World} {row : Option Nat} (hg : W.grownBy W' row) (hr : ∀ r, row = some r → B ≤ r ∧ ∃ o : Obj, W.heap[r]? = some o ∧ o.isCells = false) (hB : B ≤ W.heap.size) : Shut B W W' := by
  refine ⟨(Below.refl B W).grown hg hB (fun k e => (hr k e).1), fun b cs t fr h => ?_⟩
  have hlt := (Array.getElem?_eq_some_iff.1 h).1
  refine (hg.block b hlt ?_).trans h
  intro e
  obtain ⟨_, o, ho, hc⟩ := hr b e.symm
  rw [h] at ho
  cases ho
  simp [Obj.isCells] at hc
theorem ownFrom_shut {β : Type} {B : Nat} {I : β → World → Prop} (hB : ∀ s W, I s W → B ≤ W.heap.size) (h : ∀ s W W', I s W → Shut B W W' → I s W') : OwnFrom B I :=
  fun s W W' row hs hg hr => h s W W' hs (shut_of_grown hg hr (hB s W hs))
theorem abides_shut {β : Type} {B : Nat} {I : β → World → Prop} (hB : ∀ s W, I s W → B ≤ W.heap.size) (h : ∀ s W W', I s W → Shut B W W' → I s W') : AbidesFrom B I :=
  fun s W W' row hs hg hr => h s W W' hs (shut_of_grown hg (fun r e => by obtain ⟨h1, o, h2, h3⟩ := hr r e; exact ⟨h1, o, h2, Obj.not_cells_of_walk h3⟩) (hB s W hs))
theorem Shut.mono {B B' : Nat} {W W' : World} (h : Shut B W W') (hB : B' ≤ B) : Shut B' W W' := ⟨h.below.mono hB, h.cells⟩
/-- The marks lie ahead of the loop. -/
theorem Marks.shut {B S : Nat} {W W' : World} {ds : List Deferred} (h : Marks B W ds) (hs : Shut S W W') (hlt : ∀ d ∈ ds, ∀ r, d.target = .collected r → r < S) : Marks B W' ds :=
  h.keep fun d hd r hr h0 => (hs.below.block r (hlt d hd r hr)).trans h0
theorem keepsFrom_below {B : Nat} {W W' : World} (h : Below W.heap.size W W') : KeepsFrom B W W' :=
  ⟨h.size, fun k o _ hk _ => (h.block k (Array.getElem?_eq_some_iff.1 hk).1).trans hk⟩
theorem keepsFrom_setCell (B : Nat) (W : World) (p : Addr) (v : Value) : KeepsFrom B W (W.setCell p v) := (KeepsOthers.setCell W p v).from B
end Go.Proofs.YtahkjagjcogeiaaDoor
