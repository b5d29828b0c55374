/- Part 4 of the texts of this claim, joined. -/
import Derived.Sort.BigQuietIn
import Derived.StillTail
import Derived.Maps.RangeWalk
import Derived.Maps.OwnIn
import Derived.Test.YtahkjagjcogeiaaDoorRn3
/- climb.chart.from hands back its iterator. -/
namespace Go.Proofs.YtahkjagjcogeiaaDoor
open Go.RowKit Go.Shelf
set_option linter.unusedVariables false

set_option maxRecDepth 100000 in
set_option maxHeartbeats 2000000 in
/-- The iterator's value, and its two boxes. -/
theorem from_any (T : Array Value) (v0 v1 v2 v3 : Value) (hT : T = #[v0, v1, v2, v3]) (place : Int) (w : World) :
    Calls Tryd.prog 117 #[.agg T, .int .i64 place] w fun e w' =>
      e = .returned (.func (.func 140) #[] #[.pointer (some ⟨w.heap.size, 0, none⟩), .pointer (some ⟨w.heap.size + 1, 0, none⟩)]) ∧ w' = (w.alloc (.cells T 115)).alloc (.cells #[.int .i64 place] 3) := by
  subst hT
  go_enter Tryd.func117, Tryd.ntmps117
  go_wp2_with fail
  go_ret
  exact ⟨rfl, rfl⟩

theorem from_in (w : World) (T : Array Value) (place : Int) : FromIn w w.heap.size (w.heap.size + 1) T place ((w.alloc (.cells T 115)).alloc (.cells #[.int .i64 place] 3)) := by
  have Y := Blk.new (w.alloc (.cells T 115)) 3 #[.int .i64 place]
  rw [World.size_alloc] at Y
  exact ⟨(Blk.new w _ _).alloc _, Y, ((Below.refl _ _).alloc (Nat.le_refl _) _).alloc (by simp) _⟩
theorem FromIn.base {w w1 W : World} {g1 g2 : Nat} {T : Array Value} {place : Int} (h : FromIn w g1 g2 T place W) (hb : Below w1.heap.size w1 w) : FromIn w1 g1 g2 T place W := ⟨h.chart, h.place, hb.trans (h.below.mono hb.size)⟩
end Go.Proofs.YtahkjagjcogeiaaDoor
/- Costs added up, and the toil of one: climb.cost.plus, cost.toil. The prices: climb.free, drips, takes. -/
namespace Go.Proofs.YtahkjagjcogeiaaDoor
open Go.RowKit
set_option linter.unusedVariables false

def mixC (k : Nat) (x y : Cost) : Cost := ⟨if 0 < k then x.a + y.a else x.a, if 1 < k then x.b + y.b else x.b, if 2 < k then x.c + y.c else x.c, if 3 < k then x.d + y.d else x.d⟩
/-- A cost far within an int's reach. -/
structure Small (x : Cost) : Prop where
  a : 0 ≤ x.a ∧ x.a ≤ 1000000000000
  b : 0 ≤ x.b ∧ x.b ≤ 1000000000000
  c : 0 ≤ x.c ∧ x.c ≤ 1000000000000
  d : 0 ≤ x.d ∧ x.d ≤ 1000000000000

set_option maxRecDepth 100000 in
set_option maxHeartbeats 2000000 in
theorem toil_any (x : Cost) (w : World) :
    Calls Tryd.prog 81 #[costV x] w fun e w' => e = .returned (.agg #[.int .i64 x.b, .int .i64 x.c]) ∧ Below w.heap.size w w' := by
  go_enter Tryd.func81, Tryd.ntmps81
  go_wp2_with fail
  exact bodyPost_ret (v := .agg #[.int .i64 x.b, .int .i64 x.c]) (by simp [results, Tryd.results81, go_sem]) rfl ⟨rfl, (((Below.refl _ _).alloc (Nat.le_refl _) _).alloc (by simp) _)⟩

set_option maxRecDepth 100000 in
set_option maxHeartbeats 4000000 in
theorem plus_any (x y : Cost) (w : World) (hx : Small x) (hy : Small y) :
    Calls Tryd.prog 118 #[costV x, costV y] w fun e w' => e = .returned (costV (addC x y)) ∧ Below w.heap.size w w' := by
  have HX := Lib.hid hx
  have HY := Lib.hid hy
  clear hx hy
  go_enter Tryd.func118, Tryd.ntmps118
  go_wp2_with fail
  have X1 := ((Blk.new w 109 #[.int .i64 x.a, .int .i64 x.b, .int .i64 x.c, .int .i64 x.d]).alloc (.cells #[.int .i64 y.a, .int .i64 y.b, .int .i64 y.c, .int .i64 y.d] 109)).alloc (.cells #[.int .i64 0, .int .i64 0, .int .i64 0, .int .i64 0] 109)
  have Y1 := (Blk.new (w.alloc (.cells #[.int .i64 x.a, .int .i64 x.b, .int .i64 x.c, .int .i64 x.d] 109)) 109 #[.int .i64 y.a, .int .i64 y.b, .int .i64 y.c, .int .i64 y.d]).alloc (.cells #[.int .i64 0, .int .i64 0, .int .i64 0, .int .i64 0] 109)
  have Z1 := Blk.new ((w.alloc (.cells #[.int .i64 x.a, .int .i64 x.b, .int .i64 x.c, .int .i64 x.d] 109)).alloc (.cells #[.int .i64 y.a, .int .i64 y.b, .int .i64 y.c, .int .i64 y.d] 109)) 109 #[.int .i64 0, .int .i64 0, .int .i64 0, .int .i64 0]
  have B1 : Below w.heap.size w (((w.alloc (.cells #[.int .i64 x.a, .int .i64 x.b, .int .i64 x.c, .int .i64 x.d] 109)).alloc (.cells #[.int .i64 y.a, .int .i64 y.b, .int .i64 y.c, .int .i64 y.d] 109)).alloc (.cells #[.int .i64 0, .int .i64 0, .int .i64 0, .int .i64 0] 109)) := (((Below.refl _ _).alloc (Nat.le_refl _) _).alloc (by simp) _).alloc (by simp; omega) _
  rw [World.size_alloc] at Y1
  rw [World.size_alloc, World.size_alloc] at Z1
  generalize ((w.alloc (.cells #[.int .i64 x.a, .int .i64 x.b, .int .i64 x.c, .int .i64 x.d] 109)).alloc (.cells #[.int .i64 y.a, .int .i64 y.b, .int .i64 y.c, .int .i64 y.d] 109)).alloc (.cells #[.int .i64 0, .int .i64 0, .int .i64 0, .int .i64 0] 109) = w0 at *
  go_loopw [6] (fun i wr => ∃ k : Nat, k ≤ 4 ∧ i = .int .i64 k ∧ Blk wr w.heap.size 109 #[.int .i64 (mixC k x y).a, .int .i64 (mixC k x y).b, .int .i64 (mixC k x y).c, .int .i64 (mixC k x y).d] ∧ Blk wr (w.heap.size + 1) 109 #[.int .i64 y.a, .int .i64 y.b, .int .i64 y.c, .int .i64 y.d] ∧ Blk wr (w.heap.size + 1 + 1) 109 #[.int .i64 0, .int .i64 0, .int .i64 0, .int .i64 0] ∧ Below w.heap.size w wr)
    (fun i _ => 4 - (intOf i).toNat)
  case atStart => exact ⟨0, by omega, rfl, X1, Y1, Z1, B1⟩
  case round =>
    obtain ⟨k, hk, rfl, hX, hY, hZ, hbel⟩ := hrel
    have x0 := hX.cell 0
    have x1 := hX.cell 1
    have x2 := hX.cell 2
    have x3 := hX.cell 3
    have q0 := hX.frozen 0
    have q1 := hX.frozen 1
    have q2 := hX.frozen 2
    have q3 := hX.frozen 3
    have y0 := hY.cell 0
    have y1 := hY.cell 1
    have y2 := hY.cell 2
    have y3 := hY.cell 3
    have c0 := hZ.cell 0
    have c1 := hZ.cell 1
    have c2 := hZ.cell 2
    have c3 := hZ.cell 3
    have z0 := hZ.frozen 0
    have z1 := hZ.frozen 1
    have z2 := hZ.frozen 2
    have z3 := hZ.frozen 3
    have hlX := hX.lt
    have hlZ := hZ.lt
    have HX' := Lib.hid hX
    have HY' := Lib.hid hY
    have HZ' := Lib.hid hZ
    clear hX hY hZ
    simp only [List.getElem?_toArray, List.getElem?_cons_zero, List.getElem?_cons_succ] at x0 x1 x2 x3 y0 y1 y2 y3 c0 c1 c2 c3
    clear X1 Y1 Z1 B1
    rcases (show k = 0 ∨ k = 1 ∨ k = 2 ∨ k = 3 ∨ k = 4 by omega) with rfl | rfl | rfl | rfl | rfl
    · obtain ⟨hx1, hx2⟩ := HX.out.a
      obtain ⟨hy1, hy2⟩ := HY.out.a
      replace x0 : wr.cell? ⟨w.heap.size, 0, none⟩ = some (.int .i64 x.a) := x0
      go_wp2_with fail
      go_region
      go_wp2_with fail
      go_roundw
      case rel => exact ⟨1, by omega, by go_num, (HX'.out.set_ 0 (.int .i64 (x.a + y.a))).drewN 1, (HY'.out.far (p := ⟨w.heap.size, 0, none⟩) (by simp) _).drewN 1, (HZ'.out.far (p := ⟨w.heap.size, 0, none⟩) (by simp; omega) _).drewN 1, below_drewN (hbel.setCell (p := ⟨w.heap.size, 0, none⟩) (Nat.le_refl _) _) 1⟩
      case measure => simp [intOf]
    · obtain ⟨hx1, hx2⟩ := HX.out.b
      obtain ⟨hy1, hy2⟩ := HY.out.b
      replace x1 : wr.cell? ⟨w.heap.size, 1, none⟩ = some (.int .i64 x.b) := x1
      go_wp2_with fail
      go_region
      go_wp2_with fail
      go_roundw
      case rel => exact ⟨2, by omega, by go_num, (HX'.out.set_ 1 (.int .i64 (x.b + y.b))).drewN 1, (HY'.out.far (p := ⟨w.heap.size, 1, none⟩) (by simp) _).drewN 1, (HZ'.out.far (p := ⟨w.heap.size, 1, none⟩) (by simp; omega) _).drewN 1, below_drewN (hbel.setCell (p := ⟨w.heap.size, 1, none⟩) (Nat.le_refl _) _) 1⟩
      case measure => simp [intOf]
    · obtain ⟨hx1, hx2⟩ := HX.out.c
      obtain ⟨hy1, hy2⟩ := HY.out.c
      replace x2 : wr.cell? ⟨w.heap.size, 2, none⟩ = some (.int .i64 x.c) := x2
      go_wp2_with fail
      go_region
      go_wp2_with fail
      go_roundw
      case rel => exact ⟨3, by omega, by go_num, (HX'.out.set_ 2 (.int .i64 (x.c + y.c))).drewN 1, (HY'.out.far (p := ⟨w.heap.size, 2, none⟩) (by simp) _).drewN 1, (HZ'.out.far (p := ⟨w.heap.size, 2, none⟩) (by simp; omega) _).drewN 1, below_drewN (hbel.setCell (p := ⟨w.heap.size, 2, none⟩) (Nat.le_refl _) _) 1⟩
      case measure => simp [intOf]
    · obtain ⟨hx1, hx2⟩ := HX.out.d
      obtain ⟨hy1, hy2⟩ := HY.out.d
      replace x3 : wr.cell? ⟨w.heap.size, 3, none⟩ = some (.int .i64 x.d) := x3
      go_wp2_with fail
      go_region
      go_wp2_with fail
      go_roundw
      case rel => exact ⟨4, by omega, by go_num, (HX'.out.set_ 3 (.int .i64 (x.d + y.d))).drewN 1, (HY'.out.far (p := ⟨w.heap.size, 3, none⟩) (by simp) _).drewN 1, (HZ'.out.far (p := ⟨w.heap.size, 3, none⟩) (by simp; omega) _).drewN 1, below_drewN (hbel.setCell (p := ⟨w.heap.size, 3, none⟩) (Nat.le_refl _) _) 1⟩
      case measure => simp [intOf]
    · replace x0 : wr.cell? ⟨w.heap.size, 0, none⟩ = some (.int .i64 (x.a + y.a)) := x0
      replace x1 : wr.cell? ⟨w.heap.size, 1, none⟩ = some (.int .i64 (x.b + y.b)) := x1
      replace x2 : wr.cell? ⟨w.heap.size, 2, none⟩ = some (.int .i64 (x.c + y.c)) := x2
      replace x3 : wr.cell? ⟨w.heap.size, 3, none⟩ = some (.int .i64 (x.d + y.d)) := x3
      go_wp2_with fail
      exact bodyPost_ret (v := costV (addC x y)) (by simp [results, Tryd.results118, go_sem, c0, c1, c2, c3, addC]) rfl ⟨rfl, (((hbel.setCell (by simp; omega) _).setCell (by simp; omega) _).setCell (by simp; omega) _).setCell (by simp; omega) _⟩
end Go.Proofs.YtahkjagjcogeiaaDoor
/- A function that holds loops over functions, one behind another or in a loop, leaves with many marks among its deferred calls: each is shut, no call is made. -/
namespace Go.Proofs.YtahkjagjcogeiaaDoor
open Go.RowKit
set_option linter.unusedVariables false

/-- The marks: blocks of deferred calls without a call, at or above B, each but once. -/
def Marks (B : Nat) (w : World) : List Deferred → Prop
  | [] => True
  | d :: ds => (∃ r, B ≤ r ∧ d.target = .collected r ∧ w.heap[r]? = some (.deferred (some [])) ∧ ∀ d' ∈ ds, d'.target ≠ .collected r) ∧ Marks B w ds

theorem Marks.keep {B : Nat} {w w' : World} : ∀ {ds : List Deferred}, Marks B w ds → (∀ d ∈ ds, ∀ r, d.target = .collected r → w.heap[r]? = some (.deferred (some [])) → w'.heap[r]? = some (.deferred (some []))) → Marks B w' ds
  | [], _, _ => trivial
  | d :: ds, ⟨⟨r, h1, h2, h3, h4⟩, h5⟩, hk => ⟨⟨r, h1, h2, hk d (by simp) r h2 h3, h4⟩, Marks.keep h5 fun d' hd => hk d' (by simp [hd])⟩
theorem Marks.lt {B : Nat} {w : World} : ∀ {ds : List Deferred}, Marks B w ds → ∀ d ∈ ds, ∀ r, d.target = .collected r → r < w.heap.size
  | d :: ds, ⟨⟨r', h1, h2, h3, h4⟩, h5⟩, x, hx, r, hr => by
    rcases List.mem_cons.1 hx with rfl | hx
    · rw [h2] at hr
      cases hr
      exact (Array.getElem?_eq_some_iff.1 h3).1
    · exact Marks.lt h5 x hx r hr
theorem Marks.below {B : Nat} {w w' : World} {ds : List Deferred} (h : Marks B w ds) (hb : Below w.heap.size w w') : Marks B w' ds :=
  h.keep fun d hd r hr h0 => (hb.block r (h.lt d hd r hr)).trans h0
theorem Marks.more {B : Nat} {w : World} {ds : List Deferred} {D : Nat} (h : Marks B w ds) (hD : B ≤ D) (hd : w.heap[D]? = some (.deferred (some []))) (hn : ∀ d ∈ ds, ∀ r, d.target = .collected r → r < D) (a : Array Value) : Marks B w ({ target := .collected D, args := a } :: ds) :=
  ⟨⟨D, hD, rfl, hd, fun d' hd' e => absurd (hn d' hd' D e) (by omega)⟩, h⟩

/-- What shutting the marks leaves. -/
structure Shut (B : Nat) (w w' : World) : Prop where
  below : Below B w w'
  cells : ∀ (b : Nat) cs t fr, w.heap[b]? = some (.cells cs t fr) → w'.heap[b]? = some (.cells cs t fr)
theorem Shut.refl (B : Nat) (w : World) : Shut B w w := ⟨Below.refl _ _, fun _ _ _ _ h => h⟩
theorem Shut.trans {B : Nat} {w w' w'' : World} (h : Shut B w w') (k : Shut B w' w'') : Shut B w w'' := ⟨h.below.trans k.below, fun b cs t fr e => k.cells b cs t fr (h.cells b cs t fr e)⟩
theorem Shut.blk {B g : Nat} {w w' : World} {t : TypeId} {cs : Array Value} (h : Shut B w w') (b : Blk w g t cs) : Blk w' g t cs := h.cells _ _ _ _ b

theorem shut_put {B r : Nat} {w : World} (hB : B ≤ r) (h : w.heap[r]? = some (.deferred (some []))) : Shut B w (w.putObj r (.deferred none)) := by
  have hlt := (Array.getElem?_eq_some_iff.1 h).1
  refine ⟨(Below.refl B w).grown (grownBy_putObj' w r (.deferred none)) (by omega) (fun k e => by cases e; exact hB), fun b cs t fr e => ?_⟩
  have hne : b ≠ r := by
    intro e'
    subst e'
    rw [h] at e
    cases e
  exact (World.putObj_heap_other hne).trans e

theorem leaves_marks {F : Fence} {n : Nat} {P : Program} {fn : Func} {tmps : Array Value} {R : Ending → World → Prop} {B : Nat} : ∀ (ds : List Deferred) (w : World), Marks B w ds →
    (∀ w', Shut B w w' → LeavesIn F n P fn tmps R [] .returning w') → LeavesInM F n P fn tmps R ds .returning w
  | [], w, _, h => h w (Shut.refl _ _)
  | d :: ds, w, ⟨⟨r, h1, h2, h3, h4⟩, h5⟩, h => by
    refine ⟨by simp, .inl ⟨r, _, h2, run_takeDeferred h3, ?_⟩⟩
    refine leaves_marks ds _ (h5.keep fun d' hd r' hr h0 => ?_) (fun w' hs => h w' ((shut_put h1 h3).trans hs))
    have hne : r' ≠ r := by
      intro e
      subst e
      exact h4 d' hd hr
    exact (World.putObj_heap_other hne).trans h0
end Go.Proofs.YtahkjagjcogeiaaDoor
/- A region that draws its order, inside a fence, in a round or not: a head whose operations leave one value in every world of a class, and a tail that waits for the head: one walk of the lexical order serves. -/
namespace Go.Proofs.YtahkjagjcogeiaaDoor
open Go.RowKit
set_option linter.unusedVariables false

section
variable {F : Fence} {n : Nat} {P : Program} {ops : Array Oper} {md : Region.Mode} {C : World → Prop}

/-- No operation is a defer statement. -/
def noDefer (ops : Array Oper) : Prop := ∀ (i : Nat) o, ops[i]? = some o → ∀ c, o.op ≠ .defer c
def noDeferB (l : List Oper) : Bool := l.all fun o => match o.op with
  | .defer _ => false
  | _ => true
theorem noDefer_of {l : List Oper} (h : noDeferB l = true) : noDefer l.toArray := by
  intro i o ho c hc
  have := List.all_eq_true.1 h o (by simpa using List.mem_of_getElem? (by simpa using ho))
  rw [hc] at this
  cases this

theorem wpIn_of_quiet' {o : Oper} {a : Act} {K : Act → Prop} {K' : Act → World → Prop} {Q' : Exit → Act → World → Prop} {w : World} (hnd : ∀ c, o.op ≠ .defer c) (hw : C w) (h : ∀ a w', C w' → K a → K' a w')
    (ha : o.askedIn F P a C) (hh : o.quietIn F n P a C K) : o.wpIn F n P a w K' Q' := by
  obtain ⟨v, h1, h2⟩ := hh
  have h3 := h1 w hw
  unfold Oper.quietAtIn at h3
  unfold Oper.wpIn
  refine ⟨ha w hw, ?_⟩
  rw [Oper.semAt_eq _ _ _ hnd]
  generalize (execOp a.eval o).run P w = r at *
  cases r with
  | ok x w' =>
    cases x <;> simp only [Oper.quietUponIn] at h3 <;> simp only [Oper.uponIn]
    case value u =>
      obtain ⟨e1, e2⟩ := h3
      rw [e1, e2]
      exact h _ _ hw h2
    case skip =>
      obtain ⟨e1, e2⟩ := h3
      rw [e1, ← e2]
      exact h _ _ hw h2
    case enter f args =>
      obtain ⟨e1, hd, hc⟩ := h3
      rw [e1]
      exact ⟨hd, hc.mono fun e w'' ⟨he, hw''⟩ => by subst he; exact h _ _ hw'' h2⟩
  | halt x w' => simp only [Oper.quietUponIn] at h3

end

/-- Worlds of a class, as letters: what is known of each is a rule of the walk. -/
abbrev Cls {σ : Type} (of : σ → World) : World → Prop := fun W => ∃ z : σ, W = of z
end Go.Proofs.YtahkjagjcogeiaaDoor
/- What a loop over a function turns by itself: an invariant on cells, and on what lay ahead of the loop, abides it. -/
namespace Go.Proofs.YtahkjagjcogeiaaDoor
open Go.RowKit Go.Shelf
set_option linter.unusedVariables false

theorem shut_of_grown {B : Nat} {W W' : World} {row : Option Nat} (hg : W.grownBy W' row) (hr : ∀ r, row = some r → B ≤ r ∧ ∃ o : Obj, W.heap[r]? = some o ∧ o.isCells = false) (hB : B ≤ W.heap.size) : Shut B W W' := by
  refine ⟨(Below.refl B W).grown hg hB (fun k e => (hr k e).1), fun b cs t fr h => ?_⟩
  have hlt := (Array.getElem?_eq_some_iff.1 h).1
  refine (hg.block b hlt ?_).trans h
  intro e
  obtain ⟨_, o, ho, hc⟩ := hr b e.symm
  rw [h] at ho
  cases ho
  simp [Obj.isCells] at hc
theorem ownFrom_shut {β : Type} {B : Nat} {I : β → World → Prop} (hB : ∀ s W, I s W → B ≤ W.heap.size) (h : ∀ s W W', I s W → Shut B W W' → I s W') : OwnFrom B I :=
  fun s W W' row hs hg hr => h s W W' hs (shut_of_grown hg hr (hB s W hs))
theorem Shut.mono {B B' : Nat} {W W' : World} (h : Shut B W W') (hB : B' ≤ B) : Shut B' W W' := ⟨h.below.mono hB, h.cells⟩
/-- The marks lie ahead of the loop. -/
theorem Marks.shut {B S : Nat} {W W' : World} {ds : List Deferred} (h : Marks B W ds) (hs : Shut S W W') (hlt : ∀ d ∈ ds, ∀ r, d.target = .collected r → r < S) : Marks B W' ds :=
  h.keep fun d hd r hr h0 => (hs.below.block r (hlt d hd r hr)).trans h0
theorem keepsFrom_below {B : Nat} {W W' : World} (h : Below W.heap.size W W') : KeepsFrom B W W' :=
  ⟨h.size, fun k o _ hk _ => (h.block k (Array.getElem?_eq_some_iff.1 hk).1).trans hk⟩
theorem keepsFrom_setCell (B : Nat) (W : World) (p : Addr) (v : Value) : KeepsFrom B W (W.setCell p v) := (KeepsOthers.setCell W p v).from B
end Go.Proofs.YtahkjagjcogeiaaDoor
/- climb.chart.walked: a list of links followed. -/
namespace Go.Proofs.YtahkjagjcogeiaaDoor
open Go.RowKit Go.Shelf
attribute [local go_sem] Oper.semAt_some
set_option linter.unusedVariables false

theorem fromK_t {n₀ g1 g2 : Nat} {A B C : World} (h : FromK n₀ g1 g2 A B) (k : FromK n₀ g1 g2 B C) : FromK n₀ g1 g2 A C := ⟨h.1.trans k.1, k.2.1.trans h.2.1, k.2.2.trans h.2.2⟩
theorem fromK_b {n₀ g1 g2 : Nat} {w : World} (h1 : g1 < w.heap.size) (h2 : g2 < w.heap.size) (h0 : n₀ ≤ w.heap.size) (W : World) (l : Nat) (o o' : Obj) (hl : w.heap.size ≤ l) (h : W.heap[l]? = some o) (hc : o.isCells = false) (hw : o.isWalk = false) : FromK n₀ g1 g2 W (W.putObj l o') :=
  ⟨belowK_b h0 W l o o' hl h hc hw, World.putObj_heap_other (by omega), World.putObj_heap_other (by omega)⟩
theorem fromK_below {n₀ g1 g2 : Nat} {W W' : World} (hb : Below W.heap.size W W') (h1 : g1 < W.heap.size) (h2 : g2 < W.heap.size) (h0 : n₀ ≤ W.heap.size) : FromK n₀ g1 g2 W W' := ⟨hb.mono h0, hb.block _ h1, hb.block _ h2⟩

theorem outs_leads {dk : Bool} {p : Price} {u : Int} {l : List Link} {y : Link × Int × Cost} (h : y ∈ outs dk p u l) : y.1 ∈ l ∧ leads dk p y.1 u = some (y.2.1, y.2.2) := by
  unfold outs at h
  rw [List.mem_filterMap] at h
  obtain ⟨x, hx, h1⟩ := h
  cases hl : leads dk p x u with
  | none => rw [hl] at h1; cases h1
  | some r => rw [hl] at h1; cases h1; exact ⟨hx, hl⟩

/-- At work: so many links are over. -/
structure WalkSt (w : World) (T : Array Value) (t : Town) (p : Price) (place : Int) (l : List Int) (k : Nat) (at_ : Int) (co : Cost) (W : World) : Prop where
  bel : Below w.heap.size w W
  ch : Blk W w.heap.size 115 T
  rs : Blk W (w.heap.size + 1) 111 #[.int .i64 0, .int .i64 0, .int .i64 0, .int .i64 0, .int .i64 0, .slice none 0 0]
  wk : Blk W (w.heap.size + 1 + 1) 111 #[.int .i64 at_, .int .i64 co.a, .int .i64 co.b, .int .i64 co.c, .int .i64 co.d, .slice none 0 0]
theorem WalkSt.below {w W W' : World} {T : Array Value} {t : Town} {p : Price} {place : Int} {l : List Int} {k : Nat} {at_ : Int} {co : Cost} (h : WalkSt w T t p place l k at_ co W) (hb : Below W.heap.size W W') : WalkSt w T t p place l k at_ co W' :=
  ⟨h.bel.trans (hb.mono h.bel.size), h.ch.below hb h.ch.lt, h.rs.below hb h.rs.lt, h.wk.below hb h.wk.lt⟩
theorem WalkSt.shut {w W W' : World} {S : Nat} {T : Array Value} {t : Town} {p : Price} {place : Int} {l : List Int} {k : Nat} {at_ : Int} {co : Cost} (h : WalkSt w T t p place l k at_ co W) (hs : Shut S W W') (hS : w.heap.size ≤ S) : WalkSt w T t p place l k at_ co W' :=
  ⟨h.bel.trans (hs.below.mono hS), hs.blk h.ch, hs.blk h.rs, hs.blk h.wk⟩


theorem Marks.setCell {B : Nat} {W : World} {ds : List Deferred} (h : Marks B W ds) {g : Nat} {t : TypeId} {cs : Array Value} (hb : Blk W g t cs) (i : Nat) (v : Value) : Marks B (W.setCell ⟨g, i, none⟩ v) ds :=
  h.keep fun d hd r hr h0 => (Below.heap_setCell W ⟨g, i, none⟩ v r (by
    intro e
    have e' : r = g := e
    subst e'
    unfold Blk at hb
    rw [hb] at h0
    cases h0)).trans h0

/-- Within a round of the list. -/
structure WalkIn (w : World) (T : Array Value) (t : Town) (p : Price) (place : Int) (l : List Int) (k : Nat) (at_ : Int) (co : Cost) (id : Int) (ds : List Deferred) (B10 : Nat) (found : Bool) (S : Nat) (W : World) : Prop where
  st : WalkSt w T t p place l k at_ co W
  b10 : Blk W B10 3 #[.int .i64 id]
  b11 : Blk W (B10 + 1) 4 #[.bool found]
  marks : Marks w.heap.size W ds
  sz : S ≤ W.heap.size
section
variable {w W W' : World} {T : Array Value} {t : Town} {p : Price} {place : Int} {l : List Int} {k : Nat} {at_ : Int} {co : Cost} {id : Int} {ds : List Deferred} {B10 : Nat} {found : Bool} {S : Nat}
theorem WalkIn.below (h : WalkIn w T t p place l k at_ co id ds B10 found S W) (hb : Below W.heap.size W W') : WalkIn w T t p place l k at_ co id ds B10 found S W' :=
  ⟨h.st.below hb, h.b10.below hb h.b10.lt, h.b11.below hb h.b11.lt, h.marks.below hb, Nat.le_trans h.sz hb.size⟩
theorem WalkIn.shut (h : WalkIn w T t p place l k at_ co id ds B10 found S W) (hs : Shut S W W') (hS : w.heap.size ≤ S) (hd : ∀ d ∈ ds, ∀ r, d.target = .collected r → r < S) : WalkIn w T t p place l k at_ co id ds B10 found S W' :=
  ⟨h.st.shut hs hS, hs.blk h.b10, hs.blk h.b11, h.marks.shut hs hd, Nat.le_trans h.sz hs.below.size⟩
/-- Another place and cost laid down. -/
theorem WalkSt.put (h : WalkSt w T t p place l k at_ co W) (v : Int) (c : Cost) : WalkSt w T t p place l k v c (((((W.setCell ⟨w.heap.size + 1 + 1, 0, none⟩ (.int .i64 v)).setCell ⟨w.heap.size + 1 + 1, 1, none⟩ (.int .i64 c.a)).setCell ⟨w.heap.size + 1 + 1, 2, none⟩ (.int .i64 c.b)).setCell ⟨w.heap.size + 1 + 1, 3, none⟩ (.int .i64 c.c)).setCell ⟨w.heap.size + 1 + 1, 4, none⟩ (.int .i64 c.d)) := by
  have f : ∀ {g : Nat} {ty : TypeId} {cs : Array Value}, Blk W g ty cs → g ≠ w.heap.size + 1 + 1 → Blk (((((W.setCell ⟨w.heap.size + 1 + 1, 0, none⟩ (.int .i64 v)).setCell ⟨w.heap.size + 1 + 1, 1, none⟩ (.int .i64 c.a)).setCell ⟨w.heap.size + 1 + 1, 2, none⟩ (.int .i64 c.b)).setCell ⟨w.heap.size + 1 + 1, 3, none⟩ (.int .i64 c.c)).setCell ⟨w.heap.size + 1 + 1, 4, none⟩ (.int .i64 c.d)) g ty cs :=
    fun b hne => ((((b.far (p := ⟨w.heap.size + 1 + 1, 0, none⟩) hne _).far (p := ⟨w.heap.size + 1 + 1, 1, none⟩) hne _).far (p := ⟨w.heap.size + 1 + 1, 2, none⟩) hne _).far (p := ⟨w.heap.size + 1 + 1, 3, none⟩) hne _).far (p := ⟨w.heap.size + 1 + 1, 4, none⟩) hne _
  exact ⟨((((h.bel.setCell (p := ⟨w.heap.size + 1 + 1, 0, none⟩) (by simp; omega) _).setCell (p := ⟨w.heap.size + 1 + 1, 1, none⟩) (by simp; omega) _).setCell (p := ⟨w.heap.size + 1 + 1, 2, none⟩) (by simp; omega) _).setCell (p := ⟨w.heap.size + 1 + 1, 3, none⟩) (by simp; omega) _).setCell (p := ⟨w.heap.size + 1 + 1, 4, none⟩) (by simp; omega) _,
    f h.ch (by omega), f h.rs (by omega), ((((h.wk.set_ 0 _).set_ 1 _).set_ 2 _).set_ 3 _).set_ 4 _⟩
theorem WalkIn.put (h : WalkIn w T t p place l k at_ co id ds B10 found S W) (hB : w.heap.size + 1 + 1 < B10) (v : Int) (c : Cost) : WalkIn w T t p place l k v c id ds B10 true S ((((((W.setCell ⟨w.heap.size + 1 + 1, 0, none⟩ (.int .i64 v)).setCell ⟨w.heap.size + 1 + 1, 1, none⟩ (.int .i64 c.a)).setCell ⟨w.heap.size + 1 + 1, 2, none⟩ (.int .i64 c.b)).setCell ⟨w.heap.size + 1 + 1, 3, none⟩ (.int .i64 c.c)).setCell ⟨w.heap.size + 1 + 1, 4, none⟩ (.int .i64 c.d)).setCell ⟨B10 + 1, 0, none⟩ (.bool true)) ∧ KeepsFrom S W ((((((W.setCell ⟨w.heap.size + 1 + 1, 0, none⟩ (.int .i64 v)).setCell ⟨w.heap.size + 1 + 1, 1, none⟩ (.int .i64 c.a)).setCell ⟨w.heap.size + 1 + 1, 2, none⟩ (.int .i64 c.b)).setCell ⟨w.heap.size + 1 + 1, 3, none⟩ (.int .i64 c.c)).setCell ⟨w.heap.size + 1 + 1, 4, none⟩ (.int .i64 c.d)).setCell ⟨B10 + 1, 0, none⟩ (.bool true)) := by
  have s5 := h.st.put v c
  have f : ∀ {g : Nat} {ty : TypeId} {cs : Array Value}, Blk W g ty cs → g ≠ w.heap.size + 1 + 1 → Blk (((((W.setCell ⟨w.heap.size + 1 + 1, 0, none⟩ (.int .i64 v)).setCell ⟨w.heap.size + 1 + 1, 1, none⟩ (.int .i64 c.a)).setCell ⟨w.heap.size + 1 + 1, 2, none⟩ (.int .i64 c.b)).setCell ⟨w.heap.size + 1 + 1, 3, none⟩ (.int .i64 c.c)).setCell ⟨w.heap.size + 1 + 1, 4, none⟩ (.int .i64 c.d)) g ty cs :=
    fun b hne => ((((b.far (p := ⟨w.heap.size + 1 + 1, 0, none⟩) hne _).far (p := ⟨w.heap.size + 1 + 1, 1, none⟩) hne _).far (p := ⟨w.heap.size + 1 + 1, 2, none⟩) hne _).far (p := ⟨w.heap.size + 1 + 1, 3, none⟩) hne _).far (p := ⟨w.heap.size + 1 + 1, 4, none⟩) hne _
  have b0 := f h.b10 (by omega)
  have b1 := f h.b11 (by omega)
  have far : ∀ {g : Nat} {ty : TypeId} {cs : Array Value}, Blk (((((W.setCell ⟨w.heap.size + 1 + 1, 0, none⟩ (.int .i64 v)).setCell ⟨w.heap.size + 1 + 1, 1, none⟩ (.int .i64 c.a)).setCell ⟨w.heap.size + 1 + 1, 2, none⟩ (.int .i64 c.b)).setCell ⟨w.heap.size + 1 + 1, 3, none⟩ (.int .i64 c.c)).setCell ⟨w.heap.size + 1 + 1, 4, none⟩ (.int .i64 c.d)) g ty cs → g ≠ B10 + 1 → Blk ((((((W.setCell ⟨w.heap.size + 1 + 1, 0, none⟩ (.int .i64 v)).setCell ⟨w.heap.size + 1 + 1, 1, none⟩ (.int .i64 c.a)).setCell ⟨w.heap.size + 1 + 1, 2, none⟩ (.int .i64 c.b)).setCell ⟨w.heap.size + 1 + 1, 3, none⟩ (.int .i64 c.c)).setCell ⟨w.heap.size + 1 + 1, 4, none⟩ (.int .i64 c.d)).setCell ⟨B10 + 1, 0, none⟩ (.bool true)) g ty cs := fun b hne => b.far (p := ⟨B10 + 1, 0, none⟩) hne _
  have W1 := h.st.wk.set_ 0 (.int .i64 v)
  have W2 := W1.set_ 1 (.int .i64 c.a)
  have W3 := W2.set_ 2 (.int .i64 c.b)
  have W4 := W3.set_ 3 (.int .i64 c.c)
  have m5 := ((((h.marks.setCell h.st.wk 0 (.int .i64 v)).setCell W1 1 (.int .i64 c.a)).setCell W2 2 (.int .i64 c.b)).setCell W3 3 (.int .i64 c.c)).setCell W4 4 (.int .i64 c.d)
  refine ⟨⟨⟨s5.bel.setCell (p := ⟨B10 + 1, 0, none⟩) (by simp; omega) _, far s5.ch (by omega), far s5.rs (by omega), far s5.wk (by omega)⟩, far b0 (by omega), b1.set_ 0 _, m5.setCell b1 0 _, ?_⟩, ?_⟩
  · have := h.sz
    simpa [World.setCell] using this
  · exact (((((keepsFrom_setCell S W _ _).trans (keepsFrom_setCell S _ _ _)).trans (keepsFrom_setCell S _ _ _)).trans (keepsFrom_setCell S _ _ _)).trans (keepsFrom_setCell S _ _ _)).trans (keepsFrom_setCell S _ _ _)
theorem Small.walk (h : Walk t false p place at_ co l) (ht : Fine t) (hp : Fair p) (hl : l.length ≤ 40) : Small co := by
  have := h.bound ht hp
  exact ⟨by omega, by omega, by omega, by omega⟩
end

/-- A block of six cells written anew. -/
theorem ret6 {w W : World} {B g : Nat} {t : TypeId} {ds : List Deferred} {z0 z1 z2 z3 z4 z5 : Value} (R : Blk W g t #[z0, z1, z2, z3, z4, z5]) (M : Marks B W ds) (L : Below B w W) (hg : B ≤ g) (v0 v1 v2 v3 v4 v5 : Value) :
    Blk ((((((W.setCell ⟨g, 0, none⟩ v0).setCell ⟨g, 1, none⟩ v1).setCell ⟨g, 2, none⟩ v2).setCell ⟨g, 3, none⟩ v3).setCell ⟨g, 4, none⟩ v4).setCell ⟨g, 5, none⟩ v5) g t #[v0, v1, v2, v3, v4, v5] ∧
    Marks B ((((((W.setCell ⟨g, 0, none⟩ v0).setCell ⟨g, 1, none⟩ v1).setCell ⟨g, 2, none⟩ v2).setCell ⟨g, 3, none⟩ v3).setCell ⟨g, 4, none⟩ v4).setCell ⟨g, 5, none⟩ v5) ds ∧
    Below B w ((((((W.setCell ⟨g, 0, none⟩ v0).setCell ⟨g, 1, none⟩ v1).setCell ⟨g, 2, none⟩ v2).setCell ⟨g, 3, none⟩ v3).setCell ⟨g, 4, none⟩ v4).setCell ⟨g, 5, none⟩ v5) := by
  have R1 := R.set_ 0 v0
  have R2 := R1.set_ 1 v1
  have R3 := R2.set_ 2 v2
  have R4 := R3.set_ 3 v3
  have R5 := R4.set_ 4 v4
  exact ⟨R5.set_ 5 v5, (((((M.setCell R 0 v0).setCell R1 1 v1).setCell R2 2 v2).setCell R3 3 v3).setCell R4 4 v4).setCell R5 5 v5,
    (((((L.setCell (p := ⟨g, 0, none⟩) hg _).setCell (p := ⟨g, 1, none⟩) hg _).setCell (p := ⟨g, 2, none⟩) hg _).setCell (p := ⟨g, 3, none⟩) hg _).setCell (p := ⟨g, 4, none⟩) hg _).setCell (p := ⟨g, 5, none⟩) hg _⟩
theorem Small.leads {t : Town} {p : Price} {u v : Int} {x : Link} {c : Cost} (hx : x ∈ t.links) (ht : Fine t) (hp : Fair p) (h : leads false p x u = some (v, c)) : Small c := by
  have := leads_cost hx ht hp h
  exact ⟨by omega, by omega, by omega, by omega⟩

end Go.Proofs.YtahkjagjcogeiaaDoor
/- A map as an association list: made, looked up, stored into, deleted from, ranged over. -/
namespace Go.Proofs.YtahkjagjcogeiaaDoor
open Go.RowKit Go.MapKept
open Go.ChangeMaps (setBlock heap_setBlock_other heap_setBlock_same)
open Go.Maps (Keyed)
set_option linter.unusedVariables false
set_option linter.unusedSectionVars false

/-- How keys and elements lie. -/
structure MapTy (P : Program) (t k e : TypeId) (α β : Type) (encK : α → Value) (encV : β → Value) (ok : α → Prop) (zero : Value) : Prop where
  und : P.underlying t = some (.map k e)
  keyed : Keyed P k
  reads : ∀ x, ok x → ∃ l, keyOf P k (encK x) = some l
  inj : ∀ x y, encK x = encK y → x = y
  zero : ∀ w, (zeroValue e).run P w = .ok zero w

/-- Block r is a map that holds m. -/
def MapIs {α β : Type} (encK : α → Value) (encV : β → Value) (ok : α → Prop) (w : World) (r : Nat) (m : List (α × β)) : Prop :=
  ∃ es clock, w.heap[r]? = some (.map es clock) ∧ es.toList.map (fun e => (e.key, e.val)) = m.map (fun p => (encK p.1, encV p.2)) ∧ Stamped es clock ∧ ∀ p ∈ m, ok p.1

def look {α β : Type} [DecidableEq α] (m : List (α × β)) (x : α) : Option β := (m.find? fun p => decide (p.1 = x)).map Prod.snd
def put {α β : Type} [DecidableEq α] (m : List (α × β)) (x : α) (v : β) : List (α × β) :=
  if m.any (fun p => decide (p.1 = x)) then m.map (fun p => if p.1 = x then (x, v) else p) else m ++ [(x, v)]
def cut {α β : Type} [DecidableEq α] (m : List (α × β)) (x : α) : List (α × β) := m.filter fun p => !decide (p.1 = x)

section
variable {α β : Type} [DecidableEq α] {m : List (α × β)} {x y : α} {v : β}
theorem look_none : look m x = none ↔ ∀ p ∈ m, p.1 ≠ x := by
  unfold look
  simp [List.find?_eq_none]
theorem look_mem (h : look m x = some v) : (x, v) ∈ m := by
  unfold look at h
  cases hf : m.find? (fun p => decide (p.1 = x)) with
  | none => rw [hf] at h; cases h
  | some p =>
    rw [hf] at h
    have h1 := List.find?_some hf
    have h2 := List.mem_of_find?_eq_some hf
    simp at h h1
    obtain ⟨a, b⟩ := p
    simp at h h1
    subst h h1
    exact h2
theorem look_of_mem (hn : (m.map Prod.fst).Nodup) (h : (x, v) ∈ m) : look m x = some v := by
  unfold look
  induction m with
  | nil => simp at h
  | cons p m ih =>
    rw [List.map_cons, List.nodup_cons] at hn
    rcases List.mem_cons.1 h with h | h
    · subst h; simp
    · have hne : p.1 ≠ x := fun e => hn.1 (by rw [e]; exact List.mem_map.2 ⟨_, h, rfl⟩)
      rw [List.find?_cons_of_neg (by simpa using hne)]
      exact ih hn.2 h
theorem look_put : look (put m x v) y = if y = x then some v else look m y := by
  unfold put
  by_cases hany : m.any (fun p => decide (p.1 = x)) = true
  · rw [if_pos hany]
    induction m with
    | nil => simp at hany
    | cons p m ih =>
      by_cases hp : p.1 = x
      · by_cases hy : y = x
        · subst hy; simp [look, hp]
        · rw [if_neg hy]
          by_cases hm : m.any (fun p => decide (p.1 = x)) = true
          · have := ih hm
            rw [if_neg hy] at this
            unfold look at this ⊢
            rw [List.map_cons, if_pos hp, List.find?_cons_of_neg (by simpa using fun e => hy e.symm), List.find?_cons_of_neg (by rw [hp]; simpa using fun e => hy e.symm)]
            exact this
          · have hid : m.map (fun p => if p.1 = x then (x, v) else p) = m := by
              have h1 : m.map (fun p => if p.1 = x then (x, v) else p) = m.map id := List.map_congr_left fun q hq => by
                have : q.1 ≠ x := fun e => hm (List.any_eq_true.2 ⟨q, hq, by simpa using e⟩)
                simp [this]
              simpa using h1
            unfold look
            rw [List.map_cons, if_pos hp, hid, List.find?_cons_of_neg (by simpa using fun e => hy e.symm), List.find?_cons_of_neg (by rw [hp]; simpa using fun e => hy e.symm)]
      · have hm : m.any (fun p => decide (p.1 = x)) = true := by simpa [hp] using hany
        have := ih hm
        unfold look at this ⊢
        rw [List.map_cons, if_neg hp]
        by_cases hpy : p.1 = y
        · rw [List.find?_cons_of_pos (by simpa using hpy), List.find?_cons_of_pos (by simpa using hpy), if_neg (fun e => hp (hpy.trans e))]
        · rw [List.find?_cons_of_neg (by simpa using hpy), List.find?_cons_of_neg (by simpa using hpy)]
          exact this
  · rw [if_neg hany]
    have hno : ∀ p ∈ m, p.1 ≠ x := fun p hp e => hany (List.any_eq_true.2 ⟨p, hp, by simpa using e⟩)
    by_cases hy : y = x
    · subst hy
      have hf : m.find? (fun p => decide (p.1 = y)) = none := by rw [List.find?_eq_none]; simpa using hno
      unfold look
      rw [List.find?_append, hf]
      simp
    · rw [if_neg hy]
      unfold look
      rw [List.find?_append]
      have hxy : ¬ x = y := fun e => hy e.symm
      have hl : [(x, v)].find? (fun p => decide (p.1 = y)) = none := by simp [hxy]
      rw [hl]
      simp
theorem mem_cut {p : α × β} : p ∈ cut m x ↔ p ∈ m ∧ p.1 ≠ x := by unfold cut; simp
theorem look_cut : look (cut m x) y = if y = x then none else look m y := by
  by_cases hy : y = x
  · rw [if_pos hy, look_none]
    intro p hp e
    exact (mem_cut.1 hp).2 (e.trans hy)
  · rw [if_neg hy]
    unfold look cut
    rw [List.find?_filter]
    congr 2
    funext p
    by_cases hp : p.1 = y
    · simp [hp, hy]
    · simp [hp]
theorem mem_put {p : α × β} (h : p ∈ put m x v) : p = (x, v) ∨ (p ∈ m ∧ p.1 ≠ x) := by
  unfold put at h
  split at h
  · obtain ⟨q, hq, rfl⟩ := List.mem_map.1 h
    by_cases e : q.1 = x
    · simp [e]
    · simp [e]; exact .inr hq
  · rename_i hany
    rcases List.mem_append.1 h with h | h
    · exact .inr ⟨h, fun e => hany (List.any_eq_true.2 ⟨p, h, by simpa using e⟩)⟩
    · left; simpa using h
end

section
variable {P : Program} {t k e : TypeId} {α β : Type} [DecidableEq α] {encK : α → Value} {encV : β → Value} {okK : α → Prop} {zero : Value}
variable {w w' : World} {r : Nat} {m : List (α × β)}

theorem MapIs.lt (h : MapIs encK encV okK w r m) : r < w.heap.size := by
  obtain ⟨es, clock, hb, _⟩ := h
  exact (Array.getElem?_eq_some_iff.1 hb).1
theorem MapIs.ok (h : MapIs encK encV okK w r m) : ∀ p ∈ m, okK p.1 := by
  obtain ⟨_, _, _, _, _, h⟩ := h
  exact h
theorem MapIs.keep (h : MapIs encK encV okK w r m) (hb : w'.heap[r]? = w.heap[r]?) : MapIs encK encV okK w' r m := by
  obtain ⟨es, clock, h1, h2⟩ := h
  exact ⟨es, clock, hb.trans h1, h2⟩
theorem MapIs.below {B : Nat} (h : MapIs encK encV okK w r m) (hb : Below B w w') (hr : r < B) : MapIs encK encV okK w' r m := h.keep (hb.block r hr)
theorem MapIs.alloc (h : MapIs encK encV okK w r m) (o : Obj) : MapIs encK encV okK (w.alloc o) r m := h.keep (Below.heap_alloc w o r h.lt)
theorem MapIs.grown {row : Option Nat} (h : MapIs encK encV okK w r m) (hg : w.grownBy w' row) (hne : some r ≠ row) : MapIs encK encV okK w' r m := h.keep (hg.block r h.lt hne)
theorem MapIs.drewN (h : MapIs encK encV okK w r m) (n : Nat) : MapIs encK encV okK (w.drewN n) r m := h
theorem MapIs.made (w : World) : MapIs (β := β) encK encV okK (w.alloc (.map #[] 0)) w.heap.size [] :=
  ⟨#[], 0, heap_alloc_new w _, rfl, stamped_empty 0, by simp⟩
theorem MapIs.nodup (T : MapTy P t k e α β encK encV okK zero) (h : MapIs encK encV okK w r m) : (m.map Prod.fst).Nodup := by
  obtain ⟨es, clock, hb, hm, hs, hk⟩ := h
  have hp := ((stamped_iff es clock).1 hs).2.2
  have h1 : (es.toList.map (fun e => (e.key, e.val))).Pairwise (fun p q => p.1 ≠ q.1) := by
    rw [List.pairwise_map]; exact hp
  rw [hm, List.pairwise_map] at h1
  rw [List.Nodup, List.pairwise_map]
  exact h1.imp fun {a b} hne e => hne (by simp [e])

theorem MapIs.find (T : MapTy P t k e α β encK encV okK zero) {es : Array MapEntry} (hm : es.toList.map (fun e => (e.key, e.val)) = m.map (fun p => (encK p.1, encV p.2))) (hk : ∀ p ∈ m, okK p.1) {x : α} (hx : okK x) :
    ((Instr.findKey k (encK x) es.toList).run P w = .ok none w ∧ look m x = none ∧ ∀ y ∈ es.toList, y.key ≠ encK x) ∨
    ∃ (j : Nat) (y : MapEntry) (v : β), (Instr.findKey k (encK x) es.toList).run P w = .ok (some (j, encV v)) w ∧ es.toList[j]? = some y ∧ y.key = encK x ∧ m[j]? = some (x, v) := by
  obtain ⟨l, hl⟩ := T.reads x hx
  have hkeys : ∀ y ∈ es.toList, ∃ l, keyOf P k y.key = some l := by
    intro y hy
    have : (y.key, y.val) ∈ m.map (fun p => (encK p.1, encV p.2)) := by rw [← hm]; exact List.mem_map.2 ⟨y, hy, rfl⟩
    obtain ⟨p, hp, he⟩ := List.mem_map.1 this
    simp at he
    rw [← he.1]
    exact T.reads _ (hk p hp)
  rcases T.keyed.find w hl es.toList hkeys with ⟨h1, h2⟩ | ⟨j, y, h1, h2, h3⟩
  · refine .inl ⟨h1, look_none.2 fun p hp e => ?_, h2⟩
    have : (encK p.1, encV p.2) ∈ es.toList.map (fun e => (e.key, e.val)) := by rw [hm]; exact List.mem_map.2 ⟨p, hp, rfl⟩
    obtain ⟨y, hy, he⟩ := List.mem_map.1 this
    simp at he
    exact h2 y hy (by rw [he.1, e])
  · have hj : (es.toList.map (fun e => (e.key, e.val)))[j]? = some (y.key, y.val) := by rw [List.getElem?_map, h2]; rfl
    rw [hm, List.getElem?_map] at hj
    cases hmj : m[j]? with
    | none => rw [hmj] at hj; cases hj
    | some p =>
      rw [hmj] at hj
      simp at hj
      have hpx : p.1 = x := T.inj _ _ (hj.1.trans h3)
      refine .inr ⟨j, y, p.2, ?_, h2, h3, ?_⟩
      · rw [h1, hj.2]
      · rw [hmj, ← hpx]

/-- m[x], v, is := m[x] -/
theorem MapIs.lookup (T : MapTy P t k e α β encK encV okK zero) (h : MapIs encK encV okK w r m) {x : α} (hx : okK x) (co : Bool) :
    (Instr.lookup t (.map (some r)) (encK x) co).run P w = .ok (match look m x with | some v => if co then .tuple #[encV v, .bool true] else encV v | none => if co then .tuple #[zero, .bool false] else zero) w := by
  obtain ⟨l, hl⟩ := T.reads x hx
  have hn := MapIs.nodup T h
  obtain ⟨es, clock, hb, hm, hs, hk⟩ := h
  rcases MapIs.find (w := w) T hm hk hx with ⟨h1, h2, _⟩ | ⟨j, y, v, h1, h2, h3, h4⟩
  · rw [h2]
    cases co <;> simp [Instr.lookup, run_underlying T.und, MapKept.run_getObj_map hb, T.keyed.check w _ hl, h1, T.zero, Result.andThen]
  · have hm' : look m x = some v := look_of_mem hn (List.mem_of_getElem? h4)
    rw [hm']
    cases co <;> simp [Instr.lookup, run_underlying T.und, MapKept.run_getObj_map hb, T.keyed.check w _ hl, h1, Result.andThen]

theorem grown_setBlock {es : Array MapEntry} {clock : Nat} (hb : w.heap[r]? = some (.map es clock)) (o : Obj) : w.grownBy (setBlock w r o) (some r) ∧ (setBlock w r o).heap.size = w.heap.size :=
  ⟨⟨rfl, rfl, rfl, by simp [setBlock], fun i _ hi => heap_setBlock_other hb o (fun e => hi (by rw [e]))⟩, by simp [setBlock]⟩

/-- m[x] = v -/
theorem MapIs.update (T : MapTy P t k e α β encK encV okK zero) (h : MapIs encK encV okK w r m) {x : α} (hx : okK x) (v : β) :
    ∃ w', (Instr.mapUpdate t (.map (some r)) (encK x) (encV v)).run P w = .ok () w' ∧ MapIs encK encV okK w' r (put m x v) ∧ w.grownBy w' (some r) ∧ w'.heap.size = w.heap.size := by
  obtain ⟨l, hl⟩ := T.reads x hx
  have hn := MapIs.nodup T h
  obtain ⟨es, clock, hb, hm, hs, hk⟩ := h
  rcases MapIs.find (w := w) T hm hk hx with ⟨h1, h2, h3⟩ | ⟨j, y, v0, h1, h2, h3, h4⟩
  · refine ⟨setBlock w r (.map (es.push ⟨encK x, encV v, clock⟩) (clock + 1)), ?_, ⟨_, _, heap_setBlock_same hb _, ?_, stamped_push hs h3, ?_⟩, (grown_setBlock hb _).1, (grown_setBlock hb _).2⟩
    · simp [Instr.mapUpdate, run_underlying T.und, MapKept.run_getObj_map hb, T.keyed.check w false hl, h1, MapKept.run_setObj_map _ hb, Result.andThen, setBlock]
    · have hany : ¬ m.any (fun p => decide (p.1 = x)) = true := by
        intro ha
        obtain ⟨p, hp, he⟩ := List.any_eq_true.1 ha
        exact look_none.1 h2 p hp (by simpa using he)
      unfold put
      rw [if_neg hany, Array.toList_push, List.map_append, hm, List.map_append]
      rfl
    · intro p hp
      rcases mem_put hp with rfl | ⟨hp, _⟩
      · exact hx
      · exact hk p hp
  · have hjl : j < es.toList.length := (List.getElem?_eq_some_iff.1 h2).1
    have hjs : j < es.size := by simpa using hjl
    have hes : es[j]? = some y := by rw [← Array.getElem?_toList]; exact h2
    have hany : m.any (fun p => decide (p.1 = x)) = true := List.any_eq_true.2 ⟨(x, v0), List.mem_of_getElem? h4, by simp⟩
    refine ⟨setBlock w r (.map (es.modify j fun e => { e with key := encK x, val := encV v }) clock), ?_, ⟨_, _, heap_setBlock_same hb _, ?_, ?_, ?_⟩, (grown_setBlock hb _).1, (grown_setBlock hb _).2⟩
    · simp [Instr.mapUpdate, run_underlying T.und, MapKept.run_getObj_map hb, T.keyed.check w false hl, h1, MapKept.run_setObj_map _ hb, Result.andThen, setBlock, hes, h3, T.keyed.stays w hl]
    · unfold put
      rw [if_pos hany]
      apply List.ext_getElem?
      intro i
      have hi : ((es.toList.map (fun e => (e.key, e.val)))[i]?) = (m.map (fun p => (encK p.1, encV p.2)))[i]? := by rw [hm]
      rw [List.getElem?_map, List.getElem?_map] at hi
      rw [List.getElem?_map, List.getElem?_map, List.getElem?_map, Array.getElem?_toList, Array.getElem?_modify]
      rw [Array.getElem?_toList] at hi
      by_cases hij : j = i
      · subst hij
        rw [if_pos rfl, hes, h4]
        simp
      · rw [if_neg hij, hi]
        cases hmi : m[i]? with
        | none => rfl
        | some p =>
          have hpx : p.1 ≠ x := by
            intro e1
            apply hij
            have h5 : (m.map Prod.fst)[j]? = some x := by rw [List.getElem?_map, h4]; rfl
            have h6 : (m.map Prod.fst)[i]? = some x := by rw [List.getElem?_map, hmi, ← e1]; rfl
            have h7 : j < (m.map Prod.fst).length := (List.getElem?_eq_some_iff.1 h5).1
            exact (List.getElem?_inj h7 hn).1 (h5.trans h6.symm)
          simp [hpx]
    · exact stamped_modify hs j _ (fun _ _ => rfl) (fun e' he' hj' => by
        have : e' = y := Option.some.inj (hj'.symm.trans hes)
        rw [this]; exact h3.symm)
    · intro p hp
      rcases mem_put hp with rfl | ⟨hp, _⟩
      · exact hx
      · exact hk p hp

/-- delete(m, x) -/
theorem MapIs.delete_ (T : MapTy P t k e α β encK encV okK zero) (h : MapIs encK encV okK w r m) {x : α} (hx : okK x) (ty : TypeId) :
    ∃ w', (Builtin.delete_ #[t, k] ty #[.map (some r), encK x]).run P w = .ok (.tuple #[]) w' ∧ MapIs encK encV okK w' r (cut m x) ∧ w.grownBy w' (some r) ∧ w'.heap.size = w.heap.size := by
  obtain ⟨l, hl⟩ := T.reads x hx
  have hn := MapIs.nodup T h
  obtain ⟨es, clock, hb, hm, hs, hk⟩ := h
  rcases MapIs.find (w := w) T hm hk hx with ⟨h1, h2, h3⟩ | ⟨j, y, v0, h1, h2, h3, h4⟩
  · refine ⟨setBlock w r (.map es clock), ?_, ⟨_, _, heap_setBlock_same hb _, ?_, hs, fun p hp => hk p (mem_cut.1 hp).1⟩, (grown_setBlock hb _).1, (grown_setBlock hb _).2⟩
    · simp [Builtin.delete_, run_underlying T.und, MapKept.run_getObj_map hb, T.keyed.check w _ hl, h1, MapKept.run_setObj_map _ hb, Result.andThen, setBlock]
    · rw [hm]
      congr 1
      unfold cut
      refine (List.filter_eq_self.2 fun p hp => ?_).symm
      simpa using look_none.1 h2 p hp
  · have hjl : j < es.toList.length := (List.getElem?_eq_some_iff.1 h2).1
    have hjs : j < es.size := by simpa using hjl
    have hsub : (es.eraseIdxIfInBounds j).toList = es.toList.eraseIdx j := by
      unfold Array.eraseIdxIfInBounds
      rw [dif_pos hjs]
      simp
    refine ⟨setBlock w r (.map (es.eraseIdxIfInBounds j) clock), ?_, ⟨_, _, heap_setBlock_same hb _, ?_, stamped_erase hs j, fun p hp => hk p (mem_cut.1 hp).1⟩, (grown_setBlock hb _).1, (grown_setBlock hb _).2⟩
    · simp [Builtin.delete_, run_underlying T.und, MapKept.run_getObj_map hb, T.keyed.check w _ hl, h1, MapKept.run_setObj_map _ hb, Result.andThen, setBlock]
    · rw [hsub, Go.ChangeMaps.map_eraseIdx, hm, ← Go.ChangeMaps.map_eraseIdx]
      congr 1
      unfold cut
      exact (erase_cut hn h4).symm
where
  erase_cut {m : List (α × β)} {x : α} {v0 : β} {j : Nat} (hn : (m.map Prod.fst).Nodup) (h4 : m[j]? = some (x, v0)) : (m.filter fun p => !decide (p.1 = x)) = m.eraseIdx j := by
    induction m generalizing j with
    | nil => simp at h4
    | cons p m ih =>
      rw [List.map_cons, List.nodup_cons] at hn
      cases j with
      | zero =>
        simp at h4
        subst h4
        have : (m.filter fun p => !decide (p.1 = x)) = m := List.filter_eq_self.2 fun q hq => by
          have : q.1 ≠ x := fun e => hn.1 (List.mem_map.2 ⟨q, hq, e⟩)
          simpa using this
        simp [this]
      | succ j =>
        have hne : p.1 ≠ x := fun e => hn.1 (List.mem_map.2 ⟨(x, v0), List.mem_of_getElem? (by simpa using h4), e.symm⟩)
        rw [List.filter_cons_of_pos (by simpa using hne), ih hn.2 (by simpa using h4)]
        rfl
end
end Go.Proofs.YtahkjagjcogeiaaDoor
/- Ranging over a map that does not turn: the entries come in an order that the tape says. -/
namespace Go.Proofs.YtahkjagjcogeiaaDoor
open Go.RowKit Go.MapKept
open Go.ChangeMaps (setBlock heap_setBlock_other heap_setBlock_same)
open Go.Maps (Keyed)
set_option linter.unusedVariables false
set_option linter.unusedSectionVars false

/-- Block 'it' is an iterator over map r, which holds m; 'left' is to come. -/
def IterIs {α β : Type} (encK : α → Value) (encV : β → Value) (okK : α → Prop) (w : World) (it r : Nat) (m left : List (α × β)) : Prop :=
  ∃ es clock since seen c0, w.heap[r]? = some (.map es clock) ∧ es.toList.map (fun e => (e.key, e.val)) = m.map (fun p => (encK p.1, encV p.2)) ∧ Stamped es clock ∧ (∀ p ∈ m, okK p.1) ∧
    w.heap[it]? = some (.mapIter (some r) since seen c0) ∧ (∀ x ∈ es.toList, x.born < since) ∧ since ≤ c0 ∧ since ≤ clock ∧ (leftOf es seen).toList.map (fun e => (e.key, e.val)) = left.map (fun p => (encK p.1, encV p.2))

theorem filter_erase {γ : Type} (f : γ → Nat) {l : List γ} {i : Nat} {e : γ} (hn : (l.map f).Nodup) (h : l[i]? = some e) : (l.filter fun y => !(f y == f e)) = l.eraseIdx i := by
  induction l generalizing i with
  | nil => simp at h
  | cons p l ih =>
    rw [List.map_cons, List.nodup_cons] at hn
    cases i with
    | zero =>
      simp at h
      subst h
      have : (l.filter fun y => !(f y == f p)) = l := List.filter_eq_self.2 fun q hq => by
        have : f q ≠ f p := fun e => hn.1 (List.mem_map.2 ⟨q, hq, e⟩)
        simpa using this
      simp [this]
    | succ i =>
      have hne : f p ≠ f e := fun e' => hn.1 (List.mem_map.2 ⟨e, List.mem_of_getElem? (by simpa using h), e'.symm⟩)
      rw [List.filter_cons_of_pos (by simpa using hne), ih hn.2 (by simpa using h)]
      rfl

theorem left_push (es : Array MapEntry) (seen : Array Nat) (b : Nat) : (leftOf es (seen.push b)).toList = (leftOf es seen).toList.filter fun y => !(y.born == b) := by
  unfold leftOf
  simp only [Array.toList_filter, List.filter_filter]
  congr 1
  funext y
  simp only [Array.contains_push]
  cases seen.contains y.born <;> cases hb : (y.born == b) <;> simp_all

section
variable {P : Program} {t k e : TypeId} {α β : Type} [DecidableEq α] {encK : α → Value} {encV : β → Value} {okK : α → Prop} {zero : Value}
variable {w w' : World} {r it : Nat} {m left : List (α × β)}

theorem IterIs.map (h : IterIs encK encV okK w it r m left) : MapIs encK encV okK w r m := by
  obtain ⟨es, clock, since, seen, c0, h1, h2, h3, h4, _⟩ := h
  exact ⟨es, clock, h1, h2, h3, h4⟩
theorem IterIs.lt (h : IterIs encK encV okK w it r m left) : it < w.heap.size := by
  obtain ⟨es, clock, since, seen, c0, _, _, _, _, h5, _⟩ := h
  exact (Array.getElem?_eq_some_iff.1 h5).1
theorem IterIs.ne (h : IterIs encK encV okK w it r m left) : it ≠ r := by
  obtain ⟨es, clock, since, seen, c0, h1, _, _, _, h5, _⟩ := h
  intro e
  rw [e, h1] at h5
  cases h5
theorem IterIs.keep (h : IterIs encK encV okK w it r m left) (hb : w'.heap[r]? = w.heap[r]?) (hi : w'.heap[it]? = w.heap[it]?) : IterIs encK encV okK w' it r m left := by
  obtain ⟨es, clock, since, seen, c0, h1, h2, h3, h4, h5, h6⟩ := h
  exact ⟨es, clock, since, seen, c0, hb.trans h1, h2, h3, h4, hi.trans h5, h6⟩
theorem IterIs.below {B : Nat} (h : IterIs encK encV okK w it r m left) (hb : Below B w w') (hr : r < B) (hi : it < B) : IterIs encK encV okK w' it r m left := h.keep (hb.block r hr) (hb.block it hi)
theorem IterIs.grown {row : Option Nat} (h : IterIs encK encV okK w it r m left) (hg : w.grownBy w' row) (hr : some r ≠ row) (hi : some it ≠ row) : IterIs encK encV okK w' it r m left := h.keep (hg.block r h.map.lt hr) (hg.block it h.lt hi)

/-- range m -/
theorem MapIs.range {t k e : TypeId} (ht : P.underlying t = some (.map k e)) (h : MapIs encK encV okK w r m) :
    ∃ w', (Instr.range t (.map (some r))).run P w = .ok (.pointer (some ⟨w.heap.size, 0, none⟩)) w' ∧ IterIs encK encV okK w' w.heap.size r m m ∧ w.grownBy w' none ∧ w'.heap.size = w.heap.size + 1 := by
  have hlt := h.lt
  obtain ⟨es, clock, hb, hm, hs, hk⟩ := h
  refine ⟨_, run_range_map w t k e r es clock ht hb, ⟨es, clock, clock, #[], clock, (Below.heap_alloc w _ r hlt).trans hb, hm, hs, hk, heap_alloc_new w _, ((stamped_iff es clock).1 hs).1, Nat.le_refl _, Nat.le_refl _, ?_⟩, World.grownBy_alloc w _ none, by simp⟩
  have : (leftOf es #[]).toList = es.toList := by
    unfold leftOf
    rw [Array.toList_filter]
    exact List.filter_eq_self.2 fun _ _ => by simp
  rw [this]
  exact hm

/-- the step -/
theorem IterIs.next (h : IterIs encK encV okK w it r m left) (ty : TypeId) :
    (left = [] ∧ (Instr.next (.pointer (some ⟨it, 0, none⟩)) false ty).run P w = .ok (.tuple #[.bool false]) w) ∨
    ∃ i p w', left[i]? = some p ∧ (Instr.next (.pointer (some ⟨it, 0, none⟩)) false ty).run P w = .ok (.tuple #[.bool true, encK p.1, encV p.2]) w' ∧ IterIs encK encV okK w' it r m (left.eraseIdx i) ∧ w.grownBy w' (some it) ∧ w'.heap.size = w.heap.size ∧
      (Instr.entry (.pointer (some ⟨it, 0, none⟩))).run P w' = .ok (.tuple #[encK p.1, encV p.2]) w' := by
  have hne := h.ne
  obtain ⟨es, clock, since, seen, c0, hb, hm, hs, hk, hi, hold, hsc, hsk, hl⟩ := h
  have hst := (stamped_iff es clock).1 hs
  rcases run_next_at (P := P) w ty it r since c0 seen es clock hi hb hold hsc with ⟨h0, hrun⟩ | ⟨e0, he, w1, hal, hrun⟩
  · refine .inl ⟨?_, hrun⟩
    have : (leftOf es seen).toList = [] := List.eq_nil_of_length_eq_zero (by simpa using h0)
    rw [this] at hl
    simpa using hl.symm
  · obtain ⟨i, hj⟩ := List.getElem?_of_mem he
    have hli : (left.map (fun p => (encK p.1, encV p.2)))[i]? = some (e0.key, e0.val) := by rw [← hl, List.getElem?_map, hj]; rfl
    rw [List.getElem?_map] at hli
    cases hlp : left[i]? with
    | none => rw [hlp] at hli; cases hli
    | some p =>
      rw [hlp] at hli
      simp at hli
      have hem : e0 ∈ es.toList := by
        unfold leftOf at he
        simp at he
        simpa using he.1
      have hi1 : w1.heap[it]? = some (.mapIter (some r) since seen c0) := by rcases hal with rfl | rfl <;> exact hi
      have hb1 : w1.heap[r]? = some (.map es clock) := by rcases hal with rfl | rfl <;> exact hb
      have hset := heap_set (o' := .mapIter (some r) since (seen.push e0.born) clock) hi1
      have hb' : (setBlock w1 it (.mapIter (some r) since (seen.push e0.born) clock)).heap[r]? = some (.map es clock) := (hset.2 r (fun e1 => hne e1.symm)).trans hb1
      have hsub : ((leftOf es seen).toList.map (·.born)).Nodup := by
        unfold leftOf
        rw [Array.toList_filter]
        exact hst.2.1.sublist (List.filter_sublist.map _)
      refine .inr ⟨i, p, _, hlp, by rw [hrun, hli.1, hli.2], ⟨es, clock, since, seen.push e0.born, clock, hb', hm, hs, hk, hset.1, hold, hsk, hsk, ?_⟩, ?_, ?_, ?_⟩
      · rw [left_push, filter_erase (·.born) hsub hj, Go.ChangeMaps.map_eraseIdx, hl, ← Go.ChangeMaps.map_eraseIdx]
      · rcases hal with rfl | rfl <;> exact ⟨rfl, rfl, rfl, by simp [setBlock], fun i _ hi => hset.2 i (fun e1 => hi (by rw [e1]))⟩
      · rcases hal with rfl | rfl <;> simp [setBlock]
      · rw [run_entry_at _ it r since seen es clock e0 hset.1 hb' hem hst.2.1, hli.1, hli.2]
end
end Go.Proofs.YtahkjagjcogeiaaDoor
/- How many entries are to come: read off the world. A map, and a walk over it, abide whatever keeps walks. -/
namespace Go.Proofs.YtahkjagjcogeiaaDoor
open Go.RowKit Go.MapKept Go.Shelf
open Go.Maps (Keyed)
set_option linter.unusedVariables false
set_option linter.unusedSectionVars false

def iterLeft (w : World) (it : Nat) : Nat := match w.heap[it]? with
  | some (.mapIter (some r) _ seen _) => match w.heap[r]? with
    | some (.map es _) => (leftOf es seen).size
    | _ => 0
  | _ => 0
section
variable {α β : Type} [DecidableEq α] {encK : α → Value} {encV : β → Value} {okK : α → Prop} {w w' : World} {r it : Nat} {m left : List (α × β)}
theorem IterIs.left_eq (h : IterIs encK encV okK w it r m left) : iterLeft w it = left.length := by
  obtain ⟨es, clock, since, seen, c0, hb, hm, hs, hk, hi, hold, hsc, hsk, hl⟩ := h
  unfold iterLeft
  simp only [hi, hb]
  have := congrArg List.length hl
  simpa using this
theorem IterIs.walks (h : IterIs encK encV okK w it r m left) (hk : KeepsWalks w w') : IterIs encK encV okK w' it r m left := by
  obtain ⟨es, clock, since, seen, c0, hb, hm, hs, hkk, hi, rest⟩ := h
  exact ⟨es, clock, since, seen, c0, hk.same r _ hb rfl, hm, hs, hkk, hk.same it _ hi rfl, rest⟩
theorem IterIs.iter_walk (h : IterIs encK encV okK w it r m left) : ∃ o : Obj, w.heap[it]? = some o ∧ o.isWalk = true := by
  obtain ⟨es, clock, since, seen, c0, hb, hm, hs, hkk, hi, rest⟩ := h
  exact ⟨_, hi, rfl⟩
theorem MapIs.walks (h : MapIs encK encV okK w r m) (hk : KeepsWalks w w') : MapIs encK encV okK w' r m := by
  obtain ⟨es, clock, hb, rest⟩ := h
  exact ⟨es, clock, hk.same r _ hb rfl, rest⟩
theorem IterIs.alloc (h : IterIs encK encV okK w it r m left) (o : Obj) : IterIs encK encV okK (w.alloc o) it r m left := h.walks (KeepsWalks.alloc w o)
end
/-- One entry less to come. -/
theorem perm_erase {α : Type} : ∀ {l : List α} {i : Nat} {x : α}, l[i]? = some x → (x :: l.eraseIdx i).Perm l
  | [], i, x, h => by simp at h
  | y :: l, 0, x, h => by simp at h; subst h; simp
  | y :: l, i + 1, x, h => by
    have := perm_erase (l := l) (i := i) (x := x) (by simpa using h)
    rw [List.eraseIdx_cons_succ]
    exact (List.Perm.swap y x _).trans (this.cons y)
end Go.Proofs.YtahkjagjcogeiaaDoor
/- All walks of a map, one by one: the function handed to climb.first in climb.chart.all. -/
namespace Go.Proofs.YtahkjagjcogeiaaDoor
open Go.RowKit Go.Shelf
attribute [local go_sem] Oper.semAt_some
set_option linter.unusedVariables false

def okI (x : Int) : Prop := (Lit.int .i64 x).wf = true
theorem okI_of {x : Int} (h1 : -1000000000000 ≤ x) (h2 : x ≤ 1000000000000) : okI x := by
  have e1 : IntKind.i64.min = -9223372036854775808 := by decide
  have e2 : IntKind.i64.max = 9223372036854775807 := by decide
  show (decide (IntKind.i64.min ≤ x) && decide (x ≤ IntKind.i64.max)) = true
  rw [e1, e2]
  simp only [Bool.and_eq_true, decide_eq_true_eq]
  omega
abbrev WkMap (w : World) (r : Nat) (m : List (Int × Wk)) : Prop := MapIs (Value.int .i64) Wk.val okI w r m
abbrev zeroWk : Value := .agg #[.int .i64 0, .int .i64 0, .int .i64 0, .int .i64 0, .int .i64 0, .slice none 0 0]
theorem wkTy : MapTy Tryd.prog 113 3 111 Int Wk (Value.int .i64) Wk.val okI zeroWk where
  und := Tryd.underlying113
  keyed := Maps.int_keyed Tryd.underlying3
  reads := fun x hx => ⟨_, Maps.keyOf_int_mk Tryd.underlying3 hx⟩
  inj := fun x y h => by cases h; rfl
  zero := fun w => by kernel_rfl

abbrev WkOf (vs : List Wk) := { y : Wk // y ∈ vs }
def WkOf.enc {vs : List Wk} (y : WkOf vs) : Array Value := #[y.1.val]

set_option maxRecDepth 100000 in
set_option maxHeartbeats 4000000 in
theorem all1_stops (n : Nat) (hn : 2 ≤ n) (g r : Nat) (m : List (Int × Wk)) (w : World) (hg : Blk w g 113 #[.map (some r)]) (hm : WkMap w r m) :
    SeqStopsK Fence.wide n Tryd.prog 115 #[.pointer (some ⟨g, 0, none⟩)] (WkOf.enc (vs := m.map Prod.snd)) KeepsWalks
      (fun xs => (xs.map Subtype.val).Perm (m.map Prod.snd)) (fun pre => True) m.length w := by
  intro l J Jx W0 hW hJ hJx hY h0
  have hm0 := hm.below hW hm.lt
  have q0 : W0.cell? ⟨g, 0, none⟩ = some (.map (some r)) := (hg.below hW hg.lt).cell 0
  obtain ⟨w1, hr1, hi1, hg1, hs1⟩ := MapIs.range (P := Tryd.prog) (t := 113) Tryd.underlying113 hm0
  have HJ := Lib.hid hJ
  have HJx := Lib.hid hJx
  have HY := Lib.hid hY
  have H0 := Lib.hid (hJ [] W0 w1 none h0 hg1 (fun r e => by cases e))
  have HI := Lib.hid hi1
  clear hg hm hJ hJx hY h0 hW hm0 hi1 hg1
  refine callsIn_of_wp Tryd.func115 rfl trivial ?_ rfl
  simp only [Tryd.ntmps115, List.size_toArray, List.length_cons, List.length_nil, Nat.reduceAdd, Nat.reduceSub, Array.replicate_succ, Array.replicate_zero, List.push_toArray, List.append_toArray, List.nil_append, List.cons_append]
  gi_wp2
  clear q0 hr1
  refine wpIn_loop (fun a W => ∃ (left : List (Int × Wk)) (pre : List (WkOf (m.map Prod.snd))) (u4 u7 u8 u9 u10 u11 u12 u13 u14 : Value), Hid (IterIs (Value.int .i64) Wk.val okI W W0.heap.size r m left ∧ J pre W ∧ (pre.map Subtype.val ++ left.map Prod.snd).Perm (m.map Prod.snd) ∧ (∀ p ∈ left, p ∈ m)) ∧
      a = { tmps := #[.func (.yield l) #[] #[], .pointer (some ⟨g, 0, none⟩), undef, undef, u4, .map (some r), .pointer (some ⟨W0.heap.size, 0, none⟩), u7, u8, u9, u10, u11, u12, u13, u14], defers := [] })
    (fun _ W => iterLeft W W0.heap.size) ?_ ?_
  · exact ⟨m, [], undef, undef, undef, undef, undef, undef, undef, undef, undef, Lib.hid ⟨HI.out, H0.out, by simp, fun p hp => hp⟩, rfl⟩
  · rintro a W ⟨left, pre, u4, u7, u8, u9, u10, u11, u12, u13, u14, HS, rfl⟩
    rcases HS.out.1.next (P := Tryd.prog) 0 with ⟨hl, hr⟩ | ⟨i, p, w', hp, hr, hi2, hg2, hs2, he2⟩
    · gi_wp2
      go_end0
      subst hl
      exact ⟨⟨_, rfl⟩, .inl ⟨pre, by simpa using HS.out.2.2.1, HS.out.2.1⟩⟩
    · obtain ⟨kk, x⟩ := p
      have hx : x ∈ m.map Prod.snd := List.mem_map.2 ⟨(kk, x), HS.out.2.2.2 _ (List.mem_of_getElem? hp), rfl⟩
      have hlen : pre.length < m.length := by
        have h1 := HS.out.2.2.1.length_eq
        have h2 := (List.getElem?_eq_some_iff.1 hp).1
        simp at h1
        omega
      have hj2 := HJ.out pre W w' _ HS.out.2.1 hg2 (fun r e => by cases e; exact ⟨Nat.le_refl _, HS.out.1.iter_walk⟩)
      have hj3 := HJ.out pre w' (w'.alloc (.cells #[.int .i64 x.to, .int .i64 x.cost.a, .int .i64 x.cost.b, .int .i64 x.cost.c, .int .i64 x.cost.d, .slice x.A x.n x.cap] 111)) none hj2 (World.grownBy_alloc _ _ none) (fun r e => by cases e)
      obtain ⟨fn, tmps, assign, body, hy, hR⟩ := HY.out pre ⟨x, hx⟩ _ hj3 hlen
      unfold WkOf.enc at hy
      dsimp only at hy
      have HP := Lib.hid hp
      have HR := Lib.hid hR
      have HI2 := Lib.hid (hi2.alloc (.cells #[.int .i64 x.to, .int .i64 x.cost.a, .int .i64 x.cost.b, .int .i64 x.cost.c, .int .i64 x.cost.d, .slice x.A x.n x.cap] 111))
      clear hp hR hj2 hj3 hi2 hg2
      gi_wp2
      refine ⟨fun _ => by omega, HR.out.mono ?_⟩
      rintro e W3 (⟨rfl, hJ3, hk3⟩ | ⟨rfl, hJx3⟩)
      · have HJ3 := Lib.hid hJ3
        have HK3 := Lib.hid hk3
        clear hJ3 hk3 hr he2
        gi_wp2
        have hi3 := HI2.out.walks HK3.out
        refine ⟨⟨left.eraseIdx i, pre ++ [⟨x, hx⟩], _, _, _, _, _, _, _, _, _, Lib.hid ⟨hi3, HJ3.out, ?_, fun p hp => HS.out.2.2.2 p (List.mem_of_mem_eraseIdx hp)⟩, rfl⟩, ?_⟩
        · have h1 := (perm_erase HP.out).map Prod.snd
          rw [List.map_append, List.append_assoc]
          exact (h1.append_left _).trans HS.out.2.2.1
        · have h2 := (List.getElem?_eq_some_iff.1 HP.out).1
          rw [hi3.left_eq, HS.out.1.left_eq, List.length_eraseIdx_of_lt h2]
          omega
      · have HJ3 := Lib.hid hJx3
        clear hJx3 hr he2
        gi_wp2
        refine bodyPost_ret (results_none rfl _ _ _) rfl ?_
        exact ⟨⟨_, rfl⟩, .inr ⟨_, trivial, HJ3.out⟩⟩
end Go.Proofs.YtahkjagjcogeiaaDoor
/- Rounds of stops, plain Lean: the orders of stops one behind the other, and the least. -/
namespace Go.Proofs.YtahkjagjcogeiaaDoor
set_option linter.unusedVariables false

/-- Steps and paces. -/
abbrev Leg := Int × Int
def addG (x y : Leg) : Leg := (x.1 + y.1, x.2 + y.2)
def lessG (x y : Leg) : Bool := x.1 < y.1 || (x.1 == y.1 && x.2 < y.2)
/-- A round: its order, its toil. -/
abbrev Rnd := List Int × Leg

/-- The toil of stops in their order, and back. -/
def ordG (T : Int → Int → Option Leg) (base : Int) : Int → Leg → List Int → Option Leg
  | p, s, [] => (T p base).map (addG s)
  | p, s, x :: l => match T p x with
    | none => none
    | some d => ordG T base x (addG s d) l

/-- All rounds, by the stops that are left. -/
def dfs (T : Int → Int → Option Leg) (base : Int) : Nat → List Int → Int → Leg → List Int → List Rnd
  | 0, o, p, s, l => match T p base with
    | none => []
    | some d => [(o, addG s d)]
  | n + 1, o, p, s, l => l.flatMap fun x => match T p x with
    | none => []
    | some d => dfs T base n (o ++ [x]) x (addG s d) (l.erase x)

/-- How two rounds stand. -/
def cmpG (x y : Leg) : Int := if x.1 < y.1 then -1 else if y.1 < x.1 then 1 else if x.2 < y.2 then -1 else if y.2 < x.2 then 1 else 0
def cmpR (a b : Rnd) : Int := if a.2 = b.2 then cmpL a.1 b.1 else cmpG a.2 b.2
def stepC (b : Option Rnd) (x : Rnd) : Option Rnd := match b with
  | none => some x
  | some y => if cmpR x y < 0 then some x else some y
def stepR (b : Option Rnd) (x : Rnd) : Option Rnd := match b with
  | none => some x
  | some y => if lessG x.2 y.2 then some x else some y

theorem cmpG_less (x y : Leg) : decide (cmpG x y < 0) = lessG x y := by
  unfold cmpG lessG
  by_cases h1 : x.1 < y.1
  · simp [h1]
  · by_cases h2 : y.1 < x.1
    · have : x.1 ≠ y.1 := by omega
      simp [h1, h2, this]
    · have : x.1 = y.1 := by omega
      by_cases h3 : x.2 < y.2
      · simp [h3, this]
      · by_cases h4 : y.2 < x.2 <;> simp [h1, h2, h3, h4]
theorem lessG_irrefl (x : Leg) : lessG x x = false := by simp [lessG]
theorem step_eq {x y : Rnd} (h : cmpL y.1 x.1 < 0) : stepC (some y) x = stepR (some y) x := by
  unfold stepC stepR cmpR
  by_cases e : x.2 = y.2
  · have h1 := cmpL_swap y.1 x.1
    have h2 : ¬ cmpL x.1 y.1 < 0 := by omega
    simp only []
    rw [if_pos e, if_neg h2, e, lessG_irrefl]
    rfl
  · have h1 := cmpG_less x.2 y.2
    simp only [if_neg e]
    by_cases h2 : cmpG x.2 y.2 < 0
    · rw [if_pos h2, ← h1, decide_eq_true h2]; rfl
    · rw [if_neg h2, ← h1, decide_eq_false h2]; rfl
theorem fold_eq : ∀ (l : List Rnd) (b : Option Rnd), l.Pairwise (fun x y => cmpL x.1 y.1 < 0) → (∀ y, b = some y → ∀ x ∈ l, cmpL y.1 x.1 < 0) → l.foldl stepC b = l.foldl stepR b
  | [], b, _, _ => rfl
  | x :: l, b, h, hb => by
    rw [List.foldl_cons, List.foldl_cons]
    have hx : stepC b x = stepR b x := by
      cases b with
      | none => rfl
      | some y => exact step_eq (hb y rfl x (by simp))
    rw [hx]
    rw [List.pairwise_cons] at h
    refine fold_eq l _ h.2 fun y hy z hz => ?_
    have hy' : y = x ∨ b = some y := by
      cases b with
      | none => simp only [stepR, Option.some.injEq] at hy; exact .inl hy.symm
      | some y' =>
        simp only [stepR] at hy
        split at hy
        · cases hy; exact .inl rfl
        · cases hy; exact .inr rfl
    rcases hy' with rfl | hy'
    · exact h.1 z hz
    · exact hb y hy' z (by simp [hz])

theorem dfs_pre (T : Int → Int → Option Leg) (base : Int) : ∀ (n : Nat) (o : List Int) (p : Int) (s : Leg) (l : List Int), ∀ r ∈ dfs T base n o p s l, ∃ q, r.1 = o ++ q
  | 0, o, p, s, l, r, h => by
    unfold dfs at h
    split at h
    · cases h
    · simp at h; exact ⟨[], by simp [h]⟩
  | n + 1, o, p, s, l, r, h => by
    unfold dfs at h
    obtain ⟨x, hx, h⟩ := List.mem_flatMap.1 h
    split at h
    · cases h
    · obtain ⟨q, hq⟩ := dfs_pre T base n _ _ _ _ r h
      exact ⟨x :: q, by simp [hq]⟩
theorem dfs_lex (T : Int → Int → Option Leg) (base : Int) : ∀ (n : Nat) (o : List Int) (p : Int) (s : Leg) (l : List Int), l.Pairwise (· < ·) → (dfs T base n o p s l).Pairwise (fun x y => cmpL x.1 y.1 < 0)
  | 0, o, p, s, l, h => by
    unfold dfs
    split
    · exact List.Pairwise.nil
    · simp
  | n + 1, o, p, s, l, h => by
    unfold dfs
    rw [List.pairwise_flatMap]
    refine ⟨fun x hx => ?_, h.imp_of_mem fun {x y} hx hy hxy => ?_⟩
    · split
      · exact List.Pairwise.nil
      · exact dfs_lex T base n _ _ _ _ (h.sublist List.erase_sublist)
    · intro a ha b hb
      split at ha
      · cases ha
      · split at hb
        · cases hb
        · obtain ⟨q, hq⟩ := dfs_pre T base n _ _ _ _ a ha
          obtain ⟨q', hq'⟩ := dfs_pre T base n _ _ _ _ b hb
          rw [hq, hq', List.append_assoc, List.append_assoc, cmpL_pre, List.singleton_append, List.singleton_append, cmpL_cons, if_pos hxy]
          decide

/-- The best round. -/
def bestG (T : Int → Int → Option Leg) (base : Int) (l : List Int) : Option Rnd := (dfs T base l.length [] base (0, 0) l).foldl stepR none
theorem bestG_C (T : Int → Int → Option Leg) (base : Int) (l : List Int) (h : l.Pairwise (· < ·)) : (dfs T base l.length [] base (0, 0) l).foldl stepC none = bestG T base l :=
  fold_eq _ _ (dfs_lex T base _ _ _ _ _ h) (fun y h => by cases h)
end Go.Proofs.YtahkjagjcogeiaaDoor
/- A region that draws its order: a head whose operations are quiet but for one that lays a new block, and a tail that waits for the head. -/
namespace Go.Proofs.YtahkjagjcogeiaaDoor
open Go.RowKit
set_option linter.unusedVariables false

def dstAt (l : List Oper) (i : Nat) : Option Tmp := (l[i]?).bind (·.dst)
/-- The frame a0, the slots of the operations S set. -/
structure Desc (l : List Oper) (k : Nat) (val : Nat → Value) (a0 : Act) (S : Nat → Bool) (a : Act) : Prop where
  defers : a.defers = a0.defers
  size : a.tmps.size = a0.tmps.size
  set_ : ∀ i, i < k → S i = true → ∀ d, dstAt l i = some d → a.tmps.getD d undef = val i
  other : ∀ t, (∀ i, i < k → S i = true → dstAt l i ≠ some t) → a.tmps.getD t undef = a0.tmps.getD t undef

/-- Each operation of the head has a slot of its own. -/
def Own1 (l : List Oper) (k : Nat) : Prop := ∀ i, i < k → ∃ d, dstAt l i = some d ∧ ∀ i', i' < k → dstAt l i' = some d → i' = i

section
variable {l : List Oper} {k : Nat} {val : Nat → Value} {a0 a a' : Act} {S S' : Nat → Bool}
theorem Desc.init (hS : ∀ i, i < k → S i = false) : Desc l k val a0 S a0 := ⟨rfl, rfl, (fun i hi h => by rw [hS i hi] at h; cases h), fun _ _ => rfl⟩
theorem getD_set_same (t : Array Value) (d : Nat) (v : Value) (h : d < t.size) : (t.setIfInBounds d v).getD d undef = v := by
  rw [Array.getD_eq_getD_getElem?, Array.getElem?_setIfInBounds_self_of_lt h]; rfl
theorem getD_set_other (t : Array Value) {d e : Nat} (v : Value) (h : d ≠ e) : (t.setIfInBounds d v).getD e undef = t.getD e undef := by
  rw [Array.getD_eq_getD_getElem?, Array.getElem?_setIfInBounds_ne h, ← Array.getD_eq_getD_getElem?]
theorem Desc.step (h : Desc l k val a0 S a) (ho : Own1 l k) {i : Nat} (hi : i < k) {d : Tmp} (hd : dstAt l i = some d) (hsz : d < a0.tmps.size) : Desc l k val a0 (done S i) (a.put (some d) (val i)) := by
  refine ⟨h.defers, by simp [Act.put, h.size], fun i' hi' hS d' hd' => ?_, fun t ht => ?_⟩
  · by_cases e : i' = i
    · subst e
      rw [hd] at hd'
      cases hd'
      exact getD_set_same _ _ _ (by rw [h.size]; exact hsz)
    · have hne : d ≠ d' := by
        intro e'
        subst e'
        obtain ⟨d2, h1, h2⟩ := ho i hi
        rw [hd] at h1
        cases h1
        exact e (h2 i' hi' hd')
      rw [show (a.put (some d) (val i)).tmps = a.tmps.setIfInBounds d (val i) from rfl, getD_set_other _ _ hne]
      exact h.set_ i' hi' (by simpa [done, e] using hS) d' hd'
  · have hne : d ≠ t := fun e => ht i hi (by simp [done]) (by rw [hd, e])
    rw [show (a.put (some d) (val i)).tmps = a.tmps.setIfInBounds d (val i) from rfl, getD_set_other _ _ hne]
    refine h.other t fun i' hi' hS => ht i' hi' ?_
    unfold done
    split
    · rfl
    · exact hS
theorem Desc.agree (h : Desc l k val a0 S a) (h' : Desc l k val a0 S' a') (ho : Own1 l k) (t : Tmp) (hS : ∀ i, i < k → dstAt l i = some t → S i = S' i) : a.tmps.getD t undef = a'.tmps.getD t undef := by
  by_cases hex : ∃ i, i < k ∧ dstAt l i = some t ∧ S i = true
  · obtain ⟨i, hi, hd, hs⟩ := hex
    rw [h.set_ i hi hs t hd, h'.set_ i hi (by rw [← hS i hi hd]; exact hs) t hd]
  · have hno : ∀ i, i < k → S i = true → dstAt l i ≠ some t := fun i hi hs hd => hex ⟨i, hi, hd, hs⟩
    rw [h.other t hno, h'.other t (fun i hi hs hd => hno i hi (by rw [hS i hi hd]; exact hs) hd)]
theorem Desc.vals {val' : Nat → Value} (h : Desc l k val a0 S a) (hv : ∀ i, i < k → S i = true → val i = val' i) : Desc l k val' a0 S a := ⟨h.defers, h.size, fun i hi hs d hd => (h.set_ i hi hs d hd).trans (hv i hi hs), h.other⟩
theorem Desc.sets {S'' : Nat → Bool} (h : Desc l k val a0 S a) (hv : ∀ i, i < k → S i = S'' i) : Desc l k val a0 S'' a := ⟨h.defers, h.size, fun i hi hs => h.set_ i hi ((hv i hi).trans hs), fun t ht => h.other t fun i hi hs => ht i hi ((hv i hi).symm.trans hs)⟩
end

section
variable {F : Fence} {n : Nat} {P : Program} {ops : Array Oper} {o : Oper} {a a' : Act}
theorem eval_agree {x : Operand} (h : ∀ t, x = .tmp t → a.tmps.getD t undef = a'.tmps.getD t undef) : a.eval x = a'.eval x := by
  cases x with
  | tmp t => exact h t rfl
  | _ => rfl
theorem execOp_agree (hs : ∀ cs b, o.op ≠ .select cs b) (h : ∀ t ∈ o.looksAt ops, a.tmps.getD t undef = a'.tmps.getD t undef) : execOp a.eval o = execOp a'.eval o :=
  execOp_congr o hs fun x hx => eval_agree fun t e => h t (by
    subst e
    exact List.mem_append_left _ (List.mem_filterMap.2 ⟨.tmp t, by simpa using hx, rfl⟩))
theorem about_agree (w : World) (h : ∀ t ∈ o.looksAt ops, a.tmps.getD t undef = a'.tmps.getD t undef) : o.about P w a.eval = o.about P w a'.eval :=
  about_congr o w fun x hx => eval_agree fun t e => h t (by
    subst e
    exact List.mem_append_left _ (List.mem_filterMap.2 ⟨.tmp t, by simpa using hx, rfl⟩))
theorem wanted_agree (hz : a.tmps.size = a'.tmps.size) (h : ∀ t ∈ o.looksAt ops, a.tmps.getD t undef = a'.tmps.getD t undef) : Region.wanted o (yielded ops a.tmps) = Region.wanted o (yielded ops a'.tmps) := by
  unfold Region.wanted
  cases hg : o.guard with
  | none => rfl
  | some g =>
    obtain ⟨g, b⟩ := g
    have e : yielded ops a.tmps g = yielded ops a'.tmps g := by
      unfold yielded
      cases hd : (ops[g]?).bind (·.dst) with
      | none => rfl
      | some d =>
        have hm : d ∈ o.looksAt ops := by
          unfold Oper.looksAt
          rw [hg]
          exact List.mem_append_right _ (by simp [hd])
        have h1 := h d hm
        have h2 : a.tmps[d]? = a'.tmps[d]? := by
          rcases Nat.lt_or_ge d a.tmps.size with hlt | hge
          · have hlt' : d < a'.tmps.size := by rw [← hz]; exact hlt
            simpa [hlt, hlt'] using h1
          · have hge' : a'.tmps.size ≤ d := by rw [← hz]; exact hge
            rw [Array.getElem?_eq_none hge, Array.getElem?_eq_none hge']
        simp [h2]
    simp only [e]
theorem yields_agree {C : World → Prop} {v : Value} (hs : ∀ cs b, o.op ≠ .select cs b) (hz : a.tmps.size = a'.tmps.size) (h : ∀ t ∈ o.looksAt ops, a.tmps.getD t undef = a'.tmps.getD t undef) (hy : YieldsQuiet F n P ops C o v a) : YieldsQuiet F n P ops C o v a' := by
  refine hy.of_same (execOp_agree hs h).symm (wanted_agree hz h).symm (fun w => (about_agree w h).symm)

/-- Values put in, one behind another. -/
def putAll : Act → List Oper → List Value → Act
  | a, o :: l, v :: vs => putAll (a.put o.dst v) l vs
  | a, _, _ => a
theorem putAll_snoc : ∀ {l : List Oper} {vs : List Value} {a : Act} {m : Nat} {o : Oper} {v : Value}, l[m]? = some o → vs[m]? = some v → putAll a (l.take (m + 1)) (vs.take (m + 1)) = (putAll a (l.take m) (vs.take m)).put o.dst v
  | [], _, _, _, _, _, h, _ => by simp at h
  | _ :: _, [], _, _, _, _, _, h => by simp at h
  | o' :: l, v' :: vs, a, 0, o, v, h, h' => by simp at h h'; subst h h'; simp [putAll]
  | o' :: l, v' :: vs, a, m + 1, o, v, h, h' => by
    simp only [List.take_succ_cons, putAll]
    exact putAll_snoc (by simpa using h) (by simpa using h')
theorem lex_vals {C : World → Prop} {Q : Act → Prop} : ∀ (seg : List Oper) (a : Act), wpQuietIn F n P ops C Q seg a →
    ∃ vs : List Value, vs.length = seg.length ∧ Q (putAll a seg vs) ∧ ∀ i o v, seg[i]? = some o → vs[i]? = some v → YieldsQuiet F n P ops C o v (putAll a (seg.take i) (vs.take i))
  | [], a, h => ⟨[], rfl, h, fun i o v ho => by simp at ho⟩
  | o :: seg, a, h => by
    obtain ⟨ha, h2⟩ := h
    have main : ∃ v, YieldsQuiet F n P ops C o v a ∧ wpQuietIn F n P ops C Q seg (a.put o.dst v) := by
      by_cases hw : Region.wanted o (yielded ops a.tmps) = true
      · rw [if_pos hw] at h2
        obtain ⟨v, h3, h4⟩ := h2
        exact ⟨v, ⟨ha, .inl ⟨hw, h3⟩⟩, h4⟩
      · rw [if_neg hw] at h2
        exact ⟨undef, ⟨ha, .inr ⟨by simpa using hw, rfl⟩⟩, h2⟩
    obtain ⟨v, hy, h4⟩ := main
    obtain ⟨vs, h5, h6, h7⟩ := lex_vals seg _ h4
    refine ⟨v :: vs, by simp [h5], h6, fun i o' v' ho hv => ?_⟩
    cases i with
    | zero => simp at ho hv; subst ho hv; exact hy
    | succ i => exact h7 i o' v' (by simpa using ho) (by simpa using hv)
end

section
variable {F : Fence} {n : Nat} {P : Program} {Q : Exit → Act → World → Prop} {l : List Oper} {k j : Nat}
theorem afterB_lt (hb : backB l.toArray = true) {i i' : Nat} (h : afterB l i i' = true) : i' < i := by
  unfold afterB at h
  split at h
  · rename_i o ho
    have hi := (List.getElem?_eq_some_iff.1 ho).1
    obtain ⟨e, he, h2⟩ := List.any_eq_true.1 h
    simp only [Bool.and_eq_true, beq_iff_eq] at h2
    have h3 := List.all_eq_true.1 hb i (by simpa using hi)
    rw [show l.toArray[i]? = some o by simpa using ho] at h3
    simp only [Option.map_some, Option.getD_some] at h3
    rw [Array.all_eq_true_iff_forall_mem] at h3
    have h4 := h3 e (by simpa using he)
    simp only [h2.2, Bool.not_true, Bool.false_or, decide_eq_true_eq] at h4
    omega
  · cases h

/-- The values of the head, by its last frame. -/
def valOf (l : List Oper) (AF : Act) (i : Nat) : Value := AF.tmps.getD ((dstAt l i).getD 0) undef

theorem ready_nil_all {ops : Array Oper} {listed : Array Bool} (hb : backB ops = true) (hsz : listed.size = ops.size) (hr : Region.ready .any ops listed = []) : ∀ i, i < ops.size → listed.getD i false = true := by
  refine dag_of_back hb (fun i => listed.getD i false) ?_
  intro i o ho hu
  have hlt : i < listed.size := by rw [hsz]; exact (Array.getElem?_eq_some_iff.1 ho).1
  have hu' : listed.getD i true = false := getD_in hlt hu
  have hno : ¬ i ∈ Region.ready .any ops listed := by rw [hr]; simp
  rw [mem_ready] at hno
  have h2 : ¬ ∀ e ∈ o.after, Region.binds .any e = true → listed.getD e.on false = true := fun h => hno ⟨hu', o, ho, h⟩
  refine Classical.byContradiction fun hc => h2 fun e he hbnd => ?_
  cases hc' : listed.getD e.on false with
  | true => rfl
  | false => exact absurd ⟨e, he, hbnd, hc'⟩ hc

/-- Whether the new block is there yet. -/
def FCls (V : World) (ty : TypeId) (cs : Array Value) (ob : Option Nat) (W : World) : Prop := Below V.heap.size V W ∧ ∀ b, ob = some b → V.heap.size ≤ b ∧ Blk W b ty cs
theorem FCls.grow {V : World} {ty : TypeId} {cs : Array Value} {ob : Option Nat} {W W' : World} (h : FCls V ty cs ob W) (hb : Below W.heap.size W W') : FCls V ty cs ob W' :=
  ⟨h.1.trans (hb.mono h.1.size), fun b e => ⟨(h.2 b e).1, (h.2 b e).2.below hb (h.2 b e).2.lt⟩⟩

end
end Go.Proofs.YtahkjagjcogeiaaDoor
/- A region that draws its order: quiet operations, one that lays a new block (or none), and effects one behind the other; quiet ones may come late. -/
namespace Go.Proofs.YtahkjagjcogeiaaDoor
open Go.RowKit
set_option linter.unusedVariables false

def pick (l : List Oper) (qs : List Nat) : List Oper := qs.filterMap fun i => l[i]?
def upS (l : List Nat) : Bool := match l with
  | [] => true
  | x :: r => r.all (fun y => decide (x < y)) && upS r
theorem upS_pair : ∀ {l : List Nat}, upS l = true → l.Pairwise (· < ·)
  | [], _ => .nil
  | x :: r, h => by
    simp only [upS, Bool.and_eq_true] at h
    exact .cons (fun y hy => by simpa using List.all_eq_true.1 h.1 y hy) (upS_pair h.2)

/-- Operations that make no call. -/
def floatB (o : Oper) : Bool := match o.op with
  | .move _ | .assign _ | .pick _ _ _ | .build _ _ | .load _ _ | .binOp _ _ _ _ _ | .unOp _ _ _ | .fieldAddr _ _ _ | .field _ _ _ | .indexAddr _ _ _ | .index _ _ _ | .extract _ _ => true
  | _ => false
theorem value_noenter {P : Program} {w w' : World} {s : Sem Value} {f : FuncId} {args : Array Value} (h : ((do pure (Next.value (← s))) : Sem Next).run P w = .ok (.enter f args) w') : False := by
  rw [Sem.run_bind] at h
  cases hs : s.run P w with
  | ok x w2 => rw [hs] at h; simp [Result.andThen, Sem.run_pure] at h
  | halt x w2 => rw [hs] at h; simp [Result.andThen] at h
theorem float_noenter {P : Program} {ρ : Operand → Value} {o : Oper} {w w' : World} {f : FuncId} {args : Array Value} (hf : floatB o = true) (h : (execOp ρ o).run P w = .ok (.enter f args) w') : False := by
  obtain ⟨dst, op, type, pos, after, guard⟩ := o
  unfold floatB at hf
  cases op <;> simp only at hf <;> first | cases hf | skip
  all_goals
    simp only [execOp] at h
    first
      | exact value_noenter h
      | (simp [Sem.run_pure] at h; done)
      | (rw [Sem.run_bind] at h
         generalize (asBool _).run P w = r at h
         cases r <;> simp [Result.andThen, Sem.run_pure] at h)

/-- The look of such a region: quiet ones qs, effects es, the new block's j (beyond the end: none). -/
def mixB (l : List Oper) (qs es : List Nat) (j : Nat) : Bool :=
  upS qs && upS es && backB l.toArray && Region.noSelect l.toArray && noDeferB l &&
  (qs.all fun i => decide (i < l.length) && i != j && !es.contains i) && (es.all fun i => decide (i < l.length) && i != j) &&
  ((List.range l.length).all fun i => qs.contains i || es.contains i || i == j) &&
  ((List.range l.length).all fun i => es.contains i || ((dstAt l i).isSome && ((List.range l.length).all fun i' => i == i' || dstAt l i != dstAt l i'))) &&
  ((List.range l.length).all fun i => ((l[i]?).map fun o => (o.looksAt l.toArray).all fun t => (List.range l.length).all fun i' => dstAt l i' != some t || (afterB l i i' && (es.contains i || qs.contains i'))).getD false) &&
  (es.all fun e => es.all fun e' => decide (e ≤ e') || afterB l e e') && (es.all fun e => decide (l.length ≤ j) || afterB l e j) &&
  (qs.all fun i => ((l[i]?).map floatB).getD false || es.all fun e => afterB l e i) && (es.all fun e => (dstAt l e).isNone)
structure MixOk (l : List Oper) (qs es : List Nat) (j : Nat) : Prop where
  up : qs.Pairwise (· < ·)
  upE : es.Pairwise (· < ·)
  back : backB l.toArray = true
  nosel : Region.noSelect l.toArray = true
  nodef : noDeferB l = true
  q : ∀ i ∈ qs, i < l.length ∧ i ≠ j ∧ i ∉ es
  e : ∀ i ∈ es, i < l.length ∧ i ≠ j
  part : ∀ i, i < l.length → i ∈ qs ∨ i ∈ es ∨ i = j
  own : ∀ i, i < l.length → i ∉ es → ∃ d, dstAt l i = some d ∧ ∀ i', i' < l.length → dstAt l i' = some d → i' = i
  deps : ∀ i, i < l.length → ∀ o, l[i]? = some o → ∀ t ∈ o.looksAt l.toArray, ∀ i', i' < l.length → dstAt l i' = some t → afterB l i i' = true ∧ (i ∉ es → i' ∈ qs)
  chain : ∀ e ∈ es, ∀ e' ∈ es, e' < e → afterB l e e' = true
  fresh : ∀ e ∈ es, j < l.length → afterB l e j = true
  floats : ∀ i ∈ qs, ∀ o, l[i]? = some o → floatB o = true ∨ ∀ e ∈ es, afterB l e i = true
  edst : ∀ e ∈ es, dstAt l e = none
theorem mixOk {l : List Oper} {qs es : List Nat} {j : Nat} (h : mixB l qs es j = true) : MixOk l qs es j := by
  unfold mixB at h
  simp only [Bool.and_eq_true] at h
  obtain ⟨⟨⟨⟨⟨⟨⟨⟨⟨⟨⟨⟨⟨h1, h2⟩, h3⟩, h4⟩, h5⟩, h6⟩, h7⟩, h8⟩, h9⟩, h10⟩, h11⟩, h12⟩, h13⟩, h14⟩ := h
  refine ⟨upS_pair h1, upS_pair h2, h3, h4, h5, fun i hi => ?_, fun i hi => ?_, fun i hi => ?_, fun i hi hne => ?_, fun i hi o ho t ht i' hi' hd => ?_, fun e he e' he' hlt => ?_, fun e he hj => ?_, fun i hi o ho => ?_, fun e he => ?_⟩
  · have := List.all_eq_true.1 h6 i hi
    simp only [Bool.and_eq_true, decide_eq_true_eq, bne_iff_ne, Bool.not_eq_true', List.contains_eq_mem, decide_eq_false_iff_not] at this
    exact ⟨this.1.1, this.1.2, this.2⟩
  · have := List.all_eq_true.1 h7 i hi
    simp only [Bool.and_eq_true, decide_eq_true_eq, bne_iff_ne] at this
    exact this
  · have := List.all_eq_true.1 h8 i (List.mem_range.2 hi)
    simp only [Bool.or_eq_true, List.contains_eq_mem, decide_eq_true_eq, beq_iff_eq] at this
    rcases this with (h | h) | h
    · exact .inl h
    · exact .inr (.inl h)
    · exact .inr (.inr h)
  · have h := List.all_eq_true.1 h9 i (List.mem_range.2 hi)
    simp only [Bool.or_eq_true, List.contains_eq_mem, decide_eq_true_eq] at h
    rcases h with h | h
    · exact absurd h hne
    · simp only [Bool.and_eq_true] at h
      obtain ⟨d, hd⟩ := Option.isSome_iff_exists.1 h.1
      refine ⟨d, hd, fun i' hi' hd' => ?_⟩
      have h' := List.all_eq_true.1 h.2 i' (List.mem_range.2 hi')
      simp only [Bool.or_eq_true, beq_iff_eq, bne_iff_ne] at h'
      rcases h' with h' | h'
      · exact h'.symm
      · exact absurd (hd.trans hd'.symm) h'
  · have h := List.all_eq_true.1 h10 i (List.mem_range.2 hi)
    rw [ho] at h
    simp only [Option.map_some, Option.getD_some] at h
    have h' := List.all_eq_true.1 (List.all_eq_true.1 h t ht) i' (List.mem_range.2 hi')
    simp only [Bool.or_eq_true, bne_iff_ne, Bool.and_eq_true, List.contains_eq_mem, decide_eq_true_eq] at h'
    rcases h' with h' | h'
    · exact absurd hd h'
    · exact ⟨h'.1, fun hn => h'.2.resolve_left hn⟩
  · have := List.all_eq_true.1 (List.all_eq_true.1 h11 e he) e' he'
    simp only [Bool.or_eq_true, decide_eq_true_eq] at this
    exact this.resolve_left (by omega)
  · have := List.all_eq_true.1 h12 e he
    simp only [Bool.or_eq_true, decide_eq_true_eq] at this
    exact this.resolve_left (by omega)
  · have := List.all_eq_true.1 h13 i hi
    rw [ho] at this
    simp only [Option.map_some, Option.getD_some, Bool.or_eq_true] at this
    rcases this with h | h
    · exact .inl h
    · exact .inr fun e he => List.all_eq_true.1 h e he
  · have := List.all_eq_true.1 h14 e he
    simpa using this

/-- The slots are there. -/
def slotsM (l : List Oper) (sz : Nat) : Bool := (List.range l.length).all fun i => ((dstAt l i).map fun d => decide (d < sz)).getD true

section
variable {F : Fence} {n : Nat} {P : Program} {l : List Oper} {qs es : List Nat} {j : Nat}
/-- The frame with the slots of the quiet operations S set. -/
structure DescM (l : List Oper) (qs : List Nat) (val : Nat → Value) (a0 : Act) (S : Nat → Bool) (a : Act) : Prop where
  defers : a.defers = a0.defers
  size : a.tmps.size = a0.tmps.size
  set_ : ∀ i ∈ qs, S i = true → ∀ d, dstAt l i = some d → a.tmps.getD d undef = val i
  other : ∀ t, (∀ i ∈ qs, S i = true → dstAt l i ≠ some t) → a.tmps.getD t undef = a0.tmps.getD t undef
def OwnQ (l : List Oper) (qs : List Nat) : Prop := ∀ i ∈ qs, ∃ d, dstAt l i = some d ∧ ∀ i' ∈ qs, dstAt l i' = some d → i' = i
theorem MixOk.ownQ (ok : MixOk l qs es j) : OwnQ l qs := fun i hi => by
  obtain ⟨d, hd, h⟩ := ok.own i (ok.q i hi).1 (ok.q i hi).2.2
  exact ⟨d, hd, fun i' hi' hd' => h i' (ok.q i' hi').1 hd'⟩
section
variable {val : Nat → Value} {a0 a a' : Act} {S S' : Nat → Bool}
theorem DescM.init (hS : ∀ i ∈ qs, S i = false) : DescM l qs val a0 S a0 := ⟨rfl, rfl, (fun i hi h => by rw [hS i hi] at h; cases h), fun _ _ => rfl⟩
theorem DescM.step (h : DescM l qs val a0 S a) (ho : OwnQ l qs) {i : Nat} (hi : i ∈ qs) {d : Tmp} (hd : dstAt l i = some d) (hsz : d < a0.tmps.size) : DescM l qs val a0 (done S i) (a.put (some d) (val i)) := by
  refine ⟨h.defers, by simp [Act.put, h.size], fun i' hi' hS d' hd' => ?_, fun t ht => ?_⟩
  · by_cases e : i' = i
    · subst e
      rw [hd] at hd'
      cases hd'
      exact getD_set_same _ _ _ (by rw [h.size]; exact hsz)
    · have hne : d ≠ d' := by
        intro e'
        subst e'
        obtain ⟨d2, h1, h2⟩ := ho i hi
        rw [hd] at h1
        cases h1
        exact e (h2 i' hi' hd')
      rw [show (a.put (some d) (val i)).tmps = a.tmps.setIfInBounds d (val i) from rfl, getD_set_other _ _ hne]
      exact h.set_ i' hi' (by simpa [done, e] using hS) d' hd'
  · have hne : d ≠ t := fun e => ht i hi (by simp [done]) (by rw [hd, e])
    rw [show (a.put (some d) (val i)).tmps = a.tmps.setIfInBounds d (val i) from rfl, getD_set_other _ _ hne]
    refine h.other t fun i' hi' hS => ht i' hi' ?_
    unfold done
    split
    · rfl
    · exact hS
theorem DescM.vals {val' : Nat → Value} (h : DescM l qs val a0 S a) (hv : ∀ i ∈ qs, S i = true → val i = val' i) : DescM l qs val' a0 S a := ⟨h.defers, h.size, fun i hi hs d hd => (h.set_ i hi hs d hd).trans (hv i hi hs), h.other⟩
theorem DescM.sets {S'' : Nat → Bool} (h : DescM l qs val a0 S a) (hv : ∀ i ∈ qs, S i = S'' i) : DescM l qs val a0 S'' a := ⟨h.defers, h.size, fun i hi hs => h.set_ i hi ((hv i hi).trans hs), fun t ht => h.other t fun i hi hs => ht i hi ((hv i hi).symm.trans hs)⟩
end

/-- What the walk of the quiet ones shows. -/
theorem quiet_yields (ok : MixOk l qs es j) {a0 AF : Act} {C : World → Prop} (hs : slotsM l a0.tmps.size = true)
    (h : wpQuietIn F n P l.toArray C (fun a2 => a2 = AF) (pick l qs) a0) :
    DescM l qs (valOf l AF) a0 (fun _ => true) AF ∧
    ∀ i ∈ qs, ∀ o, l[i]? = some o → ∃ LF, DescM l qs (valOf l AF) a0 (fun i' => decide (i' < i)) LF ∧ YieldsQuiet F n P l.toArray C o (valOf l AF i) LF := by
  have hslot : ∀ i ∈ qs, ∀ d, dstAt l i = some d → d < a0.tmps.size := fun i hi d hd => by
    have := List.all_eq_true.1 hs i (List.mem_range.2 (ok.q i hi).1)
    rw [hd] at this
    simpa using this
  obtain ⟨vs, l1, h2, y1⟩ := lex_vals _ _ h
  have hpick : ∀ (rs : List Nat), (∀ i ∈ rs, i < l.length) → pick l rs = rs.filterMap (fun i => l[i]?) ∧ (pick l rs).length = rs.length ∧ ∀ (m i : Nat), rs[m]? = some i → (pick l rs)[m]? = l[i]? := by
    intro rs
    induction rs with
    | nil => intro _; exact ⟨rfl, rfl, fun m i hm => by simp at hm⟩
    | cons r rs ih =>
      intro hr
      obtain ⟨_, i2, i3⟩ := ih (fun i hi => hr i (by simp [hi]))
      have hlt := hr r (by simp)
      have e : pick l (r :: rs) = l[r] :: pick l rs := by
        unfold pick
        rw [List.filterMap_cons, List.getElem?_eq_getElem hlt]
      refine ⟨rfl, by rw [e]; simp [i2], fun m i hm => ?_⟩
      rw [e]
      cases m with
      | zero => simp at hm; subst hm; simp [hlt]
      | succ m => simpa using i3 m i (by simpa using hm)
  obtain ⟨_, p2, p3⟩ := hpick qs (fun i hi => (ok.q i hi).1)
  have n1 : vs.length = qs.length := by rw [l1, p2]
  obtain ⟨val, hval⟩ : ∃ val : Nat → Value, val = fun i => vs.getD (qs.idxOf i) undef := ⟨_, rfl⟩
  have hnd : qs.Nodup := ok.up.imp (fun h e => by omega)
  have hidx : ∀ (m i : Nat), qs[m]? = some i → qs.idxOf i = m := fun m i hm => by
    obtain ⟨h1, h2⟩ := List.getElem?_eq_some_iff.1 hm
    rw [← h2]
    exact hnd.idxOf_getElem m h1
  have D1 : ∀ m, m ≤ qs.length → DescM l qs val a0 (fun i' => decide (qs.idxOf i' < m)) (putAll a0 ((pick l qs).take m) (vs.take m)) := by
    intro m
    induction m with
    | zero => intro _; simp only [List.take_zero, putAll]; exact DescM.init (fun i _ => by simp)
    | succ m ih =>
      intro hm
      have hqm : qs[m]? = some (qs[m]'(by omega)) := List.getElem?_eq_getElem _
      have hmem : qs[m]'(by omega) ∈ qs := List.getElem_mem _
      have hlt := (ok.q _ hmem).1
      have ho : (pick l qs)[m]? = some (l[qs[m]'(by omega)]'hlt) := by rw [p3 m _ hqm]; exact List.getElem?_eq_getElem _
      have hv : vs[m]? = some (vs[m]'(by omega)) := List.getElem?_eq_getElem _
      rw [putAll_snoc ho hv]
      obtain ⟨d, hd, _⟩ := ok.ownQ _ hmem
      have hdd : (l[qs[m]'(by omega)]'hlt).dst = some d := by
        unfold dstAt at hd
        rw [List.getElem?_eq_getElem hlt] at hd
        exact hd
      have hvm : val (qs[m]'(by omega)) = vs[m]'(by omega) := by rw [hval]; simp only; rw [hidx m _ hqm, List.getD_eq_getElem?_getD, hv]; rfl
      rw [hdd, ← hvm]
      refine ((ih (by omega)).step ok.ownQ hmem hd (hslot _ hmem d hd)).sets fun i hi => ?_
      obtain ⟨m', hm'⟩ := List.getElem?_of_mem hi
      have hi' := hidx m' i hm'
      unfold done
      by_cases e : i = qs[m]'(by omega)
      · rw [if_pos e, e, hidx m _ hqm]; simp
      · have hne : m' ≠ m := fun e' => by subst e'; exact e (by rw [hqm] at hm'; exact (Option.some.inj hm').symm)
        rw [if_neg e, hi', Bool.eq_iff_iff]; simp only [decide_eq_true_eq]; omega
  have hAF : putAll a0 (pick l qs) vs = AF := h2
  have DF : DescM l qs val a0 (fun _ => true) AF := by
    have h0 := D1 qs.length (Nat.le_refl _)
    have e1 : (pick l qs).take qs.length = pick l qs := List.take_of_length_le (by rw [p2]; exact Nat.le_refl _)
    have e2 : vs.take qs.length = vs := List.take_of_length_le (by omega)
    rw [e1, e2, hAF] at h0
    exact h0.sets fun i hi => by simp [List.idxOf_lt_length_iff.2 hi]
  have hvv : ∀ i ∈ qs, val i = valOf l AF i := fun i hi => by
    obtain ⟨d, hd, _⟩ := ok.ownQ i hi
    unfold valOf
    rw [hd]
    exact (DF.set_ i hi rfl d hd).symm
  refine ⟨DF.vals fun i hi _ => hvv i hi, fun i hi o ho => ?_⟩
  obtain ⟨m, hm⟩ := List.getElem?_of_mem hi
  have hml := (List.getElem?_eq_some_iff.1 hm).1
  have hv : vs[m]? = some (vs[m]'(by omega)) := List.getElem?_eq_getElem _
  have hy := y1 m o _ (by rw [p3 m i hm]; exact ho) hv
  have hvm : val i = vs[m]'(by omega) := by rw [hval]; simp only; rw [hidx m i hm, List.getD_eq_getElem?_getD, hv]; rfl
  rw [← hvm, hvv i hi] at hy
  refine ⟨_, ((D1 m (by omega)).vals fun i' hi' _ => hvv i' hi').sets fun i' hi' => ?_, hy⟩
  obtain ⟨m', hm'⟩ := List.getElem?_of_mem hi'
  rw [hidx m' i' hm', Bool.eq_iff_iff]
  simp only [decide_eq_true_eq]
  obtain ⟨a1, a2⟩ := List.getElem?_eq_some_iff.1 hm
  obtain ⟨b1, b2⟩ := List.getElem?_eq_some_iff.1 hm'
  have hp := List.pairwise_iff_getElem.1 ok.up
  constructor
  · intro h3
    have := hp m' m b1 a1 h3
    omega
  · intro h3
    rcases Nat.lt_trichotomy m' m with h4 | h4 | h4
    · exact h4
    · subst h4; rw [hm] at hm'; cases hm'; omega
    · have := hp m m' a1 b1 h4; omega

/-- Two frames that are alike but for some slots. -/
structure Rel (M : Tmp → Prop) (a A : Act) : Prop where
  defers : a.defers = A.defers
  size : a.tmps.size = A.tmps.size
  same : ∀ t, ¬ M t → a.tmps.getD t undef = A.tmps.getD t undef

theorem wpListIn_rel {ops : Array Oper} {o : Oper} {a A : Act} {W : World} {M : Tmp → Prop} {K K' : Act → World → Prop} {Q : Exit → Act → World → Prop} (hsel : ∀ cs b, o.op ≠ .select cs b) (hnd : ∀ c, o.op ≠ .defer c) (hdst : o.dst = none) (hR : Rel M a A) (hag : ∀ t ∈ o.looksAt ops, ¬ M t)
    (h : wpListIn F n P ops (Exit.then K (fun _ _ _ => False)) [o] A W) (hK : ∀ A' a' W', A'.tmps = A.tmps → a'.tmps = a.tmps → a'.defers = A'.defers → K A' W' → K' a' W') : wpListIn F n P ops (Exit.then K' Q) [o] a W := by
  have hag' : ∀ t ∈ o.looksAt ops, A.tmps.getD t undef = a.tmps.getD t undef := fun t ht => (hR.same t (hag t ht)).symm
  simp only [wpListIn] at h ⊢
  rw [wanted_agree hR.size.symm hag'] at h
  split
  · rename_i hw
    rw [if_pos hw] at h
    unfold Oper.wpIn at h ⊢
    rw [Oper.semAt_eq _ _ _ hnd] at h ⊢
    rw [execOp_agree hsel hag'] at h
    refine ⟨fun f hf => h.1 f (by rw [about_agree W hag']; exact hf), ?_⟩
    have h4 := h.2
    generalize (execOp a.eval o).run P W = r at h4 ⊢
    cases r with
    | ok x w' =>
      cases x <;> simp only [Oper.uponIn, Exit.then, hdst, Act.put] at h4 ⊢ <;>
        first
          | exact hK _ _ _ rfl rfl hR.defers h4
          | (refine hK _ _ _ ?_ ?_ ?_ h4 <;> simp [hR.defers]; done)
          | exact ⟨h4.1, CallsIn.mono h4.2 (fun e w'' he => by cases e <;> first | exact hK _ _ _ rfl rfl hR.defers he | exact False.elim he | (obtain ⟨_, _, he⟩ := he; exact False.elim he))⟩
          | exact ⟨h4.1, RoundIn.mono h4.2 (fun e w'' he => by cases e <;> first | exact hK _ _ _ rfl rfl hR.defers he | exact False.elim he | (obtain ⟨_, _, he⟩ := he; exact False.elim he))⟩
          | exact ⟨h4.1, RowsIn.mono h4.2 (fun v w'' he => hK _ _ _ rfl rfl hR.defers he)⟩
          | exact h4
          | exact False.elim h4
    | halt x w' => cases x <;> simp only [Oper.uponIn, Exit.then] at h4 ⊢ <;> first | exact h4 | exact False.elim h4
  · rename_i hw
    rw [if_neg hw] at h
    refine ⟨fun f hf => h.1 f (by rw [about_agree W hag']; exact hf), ?_⟩
    have h2 := h.2
    rw [hdst] at h2 ⊢
    exact hK _ _ _ rfl rfl hR.defers h2

/-- The effects, one behind the other, each in a world of the class, leaving one. -/
def wpE (F : Fence) (n : Nat) (P : Program) (ops : Array Oper) (CV : World → Prop) (Qn : Act → World → Prop) : List Oper → Act → World → Prop
  | [], a, w => Qn a w
  | o :: r, a, w => wpListIn F n P ops (Exit.then (fun a' w' => CV w' ∧ wpE F n P ops CV Qn r a' w') (fun _ _ _ => False)) [o] a w

theorem pick_cons {l : List Oper} {i : Nat} {o : Oper} {r : List Nat} (h : l[i]? = some o) : pick l (i :: r) = o :: pick l r := by
  unfold pick
  rw [List.filterMap_cons, h]

/-- THE LAW. -/
theorem wpIn_region_mix {Q : Exit → Act → World → Prop} {id : Nat} {a0 AF : Act} {w V : World} (fv : Nat → Value) (ty : TypeId) (cs : Array Value) (qs es : List Nat) (j : Nat) (dj : Tmp)
    (hm : P.follows .mixedOrders = true) (hB : mixB l qs es j = true) (hs : slotsM l a0.tmps.size = true) (hV : Below V.heap.size V w.drew)
    (hj : j < l.length → ∃ oj, l[j]? = some oj ∧ oj.dst = some dj ∧ oj.guard = none ∧ ∀ W, Below V.heap.size V W → (∀ f, oj.about P W AF.eval = some f → F.fn f) ∧ (execOp AF.eval oj).run P W = .ok (.value (fv W.heap.size)) (W.alloc (.cells cs ty)))
    (hq : ∀ C : World → Prop, (∃ W, C W) → (∀ W, C W → Below V.heap.size V W) → (∀ W W', C W → Below W.heap.size W W' → C W') → wpQuietIn F n P l.toArray C (fun a2 => a2 = AF) (pick l qs) a0)
    (htail : ∀ b W, Below V.heap.size V W → (j < l.length → V.heap.size ≤ b ∧ Blk W b ty cs) → wpE F n P l.toArray (fun W => Below V.heap.size V W) (Q .normal) (pick l es) (if j < l.length then AF.put (some dj) (fv b) else AF) W) :
    (Code.region id l.toArray true).wpIn F n P Q a0 w := by
  have ok := mixOk hB
  have hnd : noDefer l.toArray := noDefer_of ok.nodef
  have hyl : ∀ C : World → Prop, (∃ W, C W) → (∀ W, C W → Below V.heap.size V W) → (∀ W W', C W → Below W.heap.size W W' → C W') → _ := fun C h0 h1 h2 => quiet_yields ok hs (hq C h0 h1 h2)
  have DF := (hyl (fun W => Below V.heap.size V W) ⟨_, hV⟩ (fun _ h => h) (fun W W' h k => h.trans (k.mono h.size))).1
  have hslot : ∀ i, i < l.length → ∀ d, dstAt l i = some d → d < a0.tmps.size := fun i hi d hd => by
    have := List.all_eq_true.1 hs i (List.mem_range.2 hi)
    rw [hd] at this
    simpa using this
  have hje : j < l.length → j ∉ es := fun hlt he => (ok.e j he).2 rfl
  have hdj : j < l.length → dstAt l j = some dj := fun hlt => by
    obtain ⟨oj, h1, h2, _⟩ := hj hlt
    unfold dstAt; rw [h1]; exact h2
  let js : List Nat := if j < l.length then j :: qs else qs
  let vb : Option Nat → Nat → Value := fun ob i => if i = j then fv (ob.getD 0) else valOf l AF i
  have hjs : ∀ i, i ∈ js ↔ i ∈ qs ∨ (i = j ∧ j < l.length) := fun i => by
    show i ∈ (if j < l.length then j :: qs else qs) ↔ _
    by_cases h : j < l.length
    · rw [if_pos h]; simp [h]; exact Or.comm
    · rw [if_neg h]; simp [h]
  have hjlt : ∀ i ∈ js, i < l.length ∧ i ∉ es := fun i hi => by
    rcases (hjs i).1 hi with h | ⟨h1, h2⟩
    · exact ⟨(ok.q i h).1, (ok.q i h).2.2⟩
    · rw [h1]; exact ⟨h2, hje h2⟩
  have ownJ : OwnQ l js := fun i hi => by
    obtain ⟨d, hd, h⟩ := ok.own i (hjlt i hi).1 (hjlt i hi).2
    exact ⟨d, hd, fun i' hi' hd' => h i' (hjlt i' hi').1 hd'⟩
  have hvq : ∀ ob, ∀ i ∈ qs, vb ob i = valOf l AF i := fun ob i hi => by
    show (if i = j then _ else _) = _
    rw [if_neg (ok.q i hi).2.1]
  let CV : World → Prop := fun W => Below V.heap.size V W
  let Miss : Array Bool → Tmp → Prop := fun listed t => ∃ i ∈ qs, listed.getD i false = false ∧ dstAt l i = some t
  let Star : Act → Prop := fun A => A.tmps.size = a0.tmps.size ∧ (∀ i ∈ qs, ∀ d, dstAt l i = some d → A.tmps.getD d undef = valOf l AF i) ∧ ∀ t, (∀ i, i < l.length → dstAt l i ≠ some t) → A.tmps.getD t undef = a0.tmps.getD t undef
  let StA : Array Bool → Act → World → Prop := fun listed a W => listed.size = l.length ∧ (∀ e ∈ es, listed.getD e false = false) ∧ ∃ ob : Option Nat, (j < l.length → listed.getD j false = ob.isSome) ∧ (l.length ≤ j → ob = none) ∧ FCls V ty cs ob W ∧ DescM l js (vb ob) a0 (fun i => listed.getD i false) a
  let StB : Array Bool → Act → World → Prop := fun listed a W => ∃ (A : Act) (m : Nat), listed.size = l.length ∧ m ≤ es.length ∧ (∀ e ∈ es.take m, listed.getD e false = true) ∧ (∀ e ∈ es.drop m, listed.getD e false = false) ∧ (j < l.length → listed.getD j false = true) ∧ CV W ∧ Rel (Miss listed) a A ∧ Star A ∧
    (∀ i ∈ qs, listed.getD i false = false → ∀ o, l[i]? = some o → floatB o = true) ∧ wpE F n P l.toArray CV (Q .normal) (pick l (es.drop m)) A W
  have toB : ∀ listed a W, StA listed a W → (j < l.length → listed.getD j false = true) → (∀ i ∈ qs, listed.getD i false = false → ∀ o, l[i]? = some o → floatB o = true) → StB listed a W := by
    rintro listed a W ⟨hsz, hes, ob, h1, h2, hc, hD⟩ hjl hfl
    have hfacts : ∃ b, (j < l.length → ob = some b) ∧ (j < l.length → V.heap.size ≤ b ∧ Blk W b ty cs) := by
      by_cases h : j < l.length
      · have h3 := h1 h
        rw [hjl h] at h3
        obtain ⟨b, rfl⟩ := Option.isSome_iff_exists.1 h3.symm
        exact ⟨b, fun _ => rfl, fun _ => hc.2 b rfl⟩
      · exact ⟨0, fun h' => absurd h' h, fun h' => absurd h' h⟩
    obtain ⟨b, hob, hblk⟩ := hfacts
    have hw := htail b W hc.1 hblk
    refine ⟨_, 0, hsz, Nat.zero_le _, (fun e he => by simp at he), (fun e he => hes e (by simpa using he)), hjl, hc.1, ?_, ?_, hfl, by simpa using hw⟩
    · -- the frames
      by_cases h : j < l.length
      · rw [if_pos h]
        refine ⟨hD.defers.trans (show _ = (AF.put (some dj) (fv b)).defers from DF.defers.symm), by rw [hD.size]; simp [Act.put, DF.size], fun t ht => ?_⟩
        have hput : (AF.put (some dj) (fv b)).tmps = AF.tmps.setIfInBounds dj (fv b) := rfl
        by_cases e1 : t = dj
        · subst e1
          rw [hput, getD_set_same _ _ _ (by rw [DF.size]; exact hslot j h t (hdj h)), hD.set_ j ((hjs j).2 (.inr ⟨rfl, h⟩)) (hjl h) t (hdj h)]
          show (if j = j then _ else _) = _
          rw [if_pos rfl, hob h]; rfl
        · rw [hput, getD_set_other _ _ (Ne.symm e1)]
          by_cases hex : ∃ i ∈ qs, dstAt l i = some t
          · obtain ⟨i, hi, hd⟩ := hex
            have hl : listed.getD i false = true := by
              cases hc' : listed.getD i false with
              | true => rfl
              | false => exact absurd ⟨i, hi, hc', hd⟩ ht
            rw [hD.set_ i ((hjs i).2 (.inl hi)) hl t hd, hvq ob i hi, DF.set_ i hi rfl t hd]
          · rw [hD.other t (fun i hi hs hd => by
              rcases (hjs i).1 hi with h3 | ⟨h3, _⟩
              · exact hex ⟨i, h3, hd⟩
              · rw [h3, hdj h] at hd; exact e1 (Option.some.inj hd).symm), DF.other t (fun i hi _ hd => hex ⟨i, hi, hd⟩)]
      · rw [if_neg h]
        refine ⟨hD.defers.trans DF.defers.symm, hD.size.trans DF.size.symm, fun t ht => ?_⟩
        by_cases hex : ∃ i ∈ qs, dstAt l i = some t
        · obtain ⟨i, hi, hd⟩ := hex
          have hl : listed.getD i false = true := by
            cases hc' : listed.getD i false with
            | true => rfl
            | false => exact absurd ⟨i, hi, hc', hd⟩ ht
          rw [hD.set_ i ((hjs i).2 (.inl hi)) hl t hd, hvq ob i hi, DF.set_ i hi rfl t hd]
        · rw [hD.other t (fun i hi hs hd => by
            rcases (hjs i).1 hi with h3 | ⟨_, h3⟩
            · exact hex ⟨i, h3, hd⟩
            · exact h h3), DF.other t (fun i hi _ hd => hex ⟨i, hi, hd⟩)]
    · by_cases h : j < l.length
      · rw [if_pos h]
        have hput : (AF.put (some dj) (fv b)).tmps = AF.tmps.setIfInBounds dj (fv b) := rfl
        refine ⟨by rw [hput]; simp [DF.size], fun i hi d hd => ?_, fun t ht => ?_⟩
        · have hne : dj ≠ d := fun e => by
            obtain ⟨d2, h3, h4⟩ := ok.own j h (hje h)
            rw [hdj h] at h3
            cases h3
            exact (ok.q i hi).2.1 (h4 i (ok.q i hi).1 (by rw [hd, e]))
          rw [hput, getD_set_other _ _ hne]
          exact DF.set_ i hi rfl d hd
        · rw [hput, getD_set_other _ _ (fun e => ht j h (by rw [hdj h, e]))]
          exact DF.other t fun i hi _ => ht i (ok.q i hi).1
      · rw [if_neg h]
        exact ⟨DF.size, fun i hi d hd => DF.set_ i hi rfl d hd, fun t ht => DF.other t fun i hi _ => ht i (ok.q i hi).1⟩
  let St : Array Bool → Act → World → Prop := fun listed a W => StA listed a W ∨ StB listed a W
  have setD : ∀ (listed : Array Bool) (i i' : Nat), listed.size = l.length → i < l.length → (listed.setIfInBounds i true).getD i' false = done (fun i => listed.getD i false) i i' := fun listed i i' hsz hi => by
    unfold done
    by_cases e : i' = i
    · subst e
      rw [if_pos rfl, Array.getD_eq_getD_getElem?, Array.getElem?_setIfInBounds]
      have : i' < listed.size := by omega
      simp [this]
    · rw [if_neg e, getD_set_ne false (Ne.symm e)]
  have stepB : ∀ listed a W i o, l[i]? = some o → listed.getD i true = false → (∀ i', afterB l i i' = true → listed.getD i' false = true) → StB listed a W → wpListIn F n P l.toArray (Exit.then (St (listed.setIfInBounds i true)) Q) [o] a W := by
    rintro listed a W i o hol hu hwait ⟨A, m, hsz, hm', ht, hdp, hjl, hcv, hR, hSt, hfl, hwp⟩
    have hi : i < l.length := (List.getElem?_eq_some_iff.1 hol).1
    have hfalse : listed.getD i false = false := getD_both hu
    have hsel : ∀ cs b, o.op ≠ .select cs b := fun cs b => Region.noSelect_spec ok.nosel i o cs b (by simpa using hol)
    rcases ok.part i hi with hiq | hie | hij
    · obtain ⟨LF, hLF, hyq⟩ := (hyl CV ⟨_, hV⟩ (fun _ h => h) (fun W W' h k => h.trans (k.mono h.size))).2 i hiq o hol
      have hag : ∀ t ∈ o.looksAt l.toArray, LF.tmps.getD t undef = a.tmps.getD t undef := fun t ht' => by
        by_cases hex : ∃ i', i' < l.length ∧ dstAt l i' = some t
        · obtain ⟨i', hi', hd⟩ := hex
          obtain ⟨h1, h2⟩ := ok.deps i hi o hol t ht' i' hi' hd
          have h3 := h2 (ok.q i hiq).2.2
          have h4 := afterB_lt ok.back h1
          rw [hLF.set_ i' h3 (by simpa using h4) t hd, hR.same t (fun ⟨i2, h5, h6, h7⟩ => by
            obtain ⟨d, h8, h9⟩ := ok.ownQ i' h3
            rw [hd] at h8
            cases h8
            have := h9 i2 h5 h7
            subst this
            rw [hwait _ h1] at h6
            cases h6), hSt.2.1 i' h3 t hd]
        · have hno : ∀ i', i' < l.length → dstAt l i' ≠ some t := fun i' hi' hd => hex ⟨i', hi', hd⟩
          rw [hLF.other t (fun i' hi' _ => hno i' (ok.q i' hi').1), hR.same t (fun ⟨i2, h5, _, h7⟩ => hno i2 (ok.q i2 h5).1 h7), hSt.2.2 t hno]
      have hya := yields_agree hsel (hLF.size.trans (hSt.1.symm.trans hR.size.symm)) hag hyq
      obtain ⟨d, hdi, huniq⟩ := ok.ownQ i hiq
      have hdo : o.dst = some d := by unfold dstAt at hdi; rw [hol] at hdi; exact hdi
      have hnext : St (listed.setIfInBounds i true) (a.put o.dst (valOf l AF i)) W := by
        refine .inr ⟨A, m, by simpa using hsz, hm', fun e he => ?_, fun e he => ?_, fun h => ?_, hcv, ?_, hSt, fun i' hi' hf => ?_, hwp⟩
        · rw [setD _ _ _ hsz hi]; unfold done; split
          · rfl
          · exact ht e he
        · rw [setD _ _ _ hsz hi]; unfold done; rw [if_neg (fun e' => by subst e'; exact (ok.q e hiq).2.2 (List.mem_of_mem_drop he))]; exact hdp e he
        · rw [setD _ _ _ hsz hi]; unfold done; split
          · rfl
          · exact hjl h
        · rw [hdo]
          refine ⟨hR.defers, by rw [← hR.size]; simp [Act.put], fun t ht' => ?_⟩
          by_cases e : t = d
          · subst e
            rw [show (a.put (some t) (valOf l AF i)).tmps = a.tmps.setIfInBounds t (valOf l AF i) from rfl, getD_set_same _ _ _ (by rw [hR.size, hSt.1]; exact hslot i hi t hdi), hSt.2.1 i hiq t hdi]
          · rw [show (a.put (some d) (valOf l AF i)).tmps = a.tmps.setIfInBounds d (valOf l AF i) from rfl, getD_set_other _ _ (Ne.symm e)]
            refine hR.same t fun ⟨i2, h5, h6, h7⟩ => ht' ⟨i2, h5, ?_, h7⟩
            rw [setD _ _ _ hsz hi]; unfold done
            rw [if_neg (fun e' => by subst e'; rw [hdi] at h7; exact e (Option.some.inj h7).symm)]
            exact h6
        · rw [setD _ _ _ hsz hi] at hf
          unfold done at hf
          split at hf
          · cases hf
          · exact hfl i' hi' hf
      simp only [wpListIn]
      rcases hya.2 with ⟨hw, hv⟩ | ⟨hw, hv⟩
      · rw [if_pos hw]
        have h3 := hv W hcv
        unfold Oper.quietAtIn at h3
        unfold Oper.wpIn
        refine ⟨hya.1 W hcv, ?_⟩
        rw [Oper.semAt_eq _ _ _ (hnd i o (by simpa using hol))]
        have hne : ∀ f args w', (execOp a.eval o).run P W ≠ .ok (.enter f args) w' := fun f args w' h => float_noenter (hfl i hiq hfalse o hol) h
        generalize (execOp a.eval o).run P W = r at h3 hne ⊢
        cases r with
        | ok x w' =>
          cases x <;> simp only [Oper.quietUponIn] at h3 <;> simp only [Oper.uponIn]
          case value u =>
            obtain ⟨e1, e2⟩ := h3
            rw [e1, e2]
            exact hnext
          case skip =>
            obtain ⟨e1, e2⟩ := h3
            rw [e1, ← e2]
            exact hnext
          case enter f args => exact absurd rfl (hne f args w')
        | halt x w' => simp only [Oper.quietUponIn] at h3
      · rw [if_neg (by rw [hw]; simp)]
        refine ⟨hya.1 W hcv, ?_⟩
        rw [hv] at hnext
        exact hnext
    · have hmem : i ∈ es.drop m := by
        rcases (List.mem_append.1 (by rw [List.take_append_drop]; exact hie : i ∈ es.take m ++ es.drop m)) with h | h
        · rw [ht i h] at hfalse; cases hfalse
        · exact h
      have hml : m < es.length := by
        rcases Nat.lt_or_ge m es.length with h | h
        · exact h
        · rw [List.drop_of_length_le h] at hmem; cases hmem
      have hdrop : es.drop m = es[m] :: es.drop (m + 1) := List.drop_eq_getElem_cons hml
      have hie' : i = es[m] := by
        rw [hdrop] at hmem
        rcases List.mem_cons.1 hmem with h | h
        · exact h
        · exfalso
          have hlt : es[m] < i := by
            have hp := ok.upE.sublist (List.drop_sublist m es)
            rw [hdrop, List.pairwise_cons] at hp
            exact hp.1 i h
          have h1 := hwait _ (ok.chain i hie es[m] (List.getElem_mem _) hlt)
          rw [hdp es[m] (by rw [hdrop]; exact List.mem_cons_self)] at h1
          cases h1
      rw [hdrop, ← hie', pick_cons hol] at hwp
      have hdn : o.dst = none := by
        have := ok.edst i hie
        unfold dstAt at this
        rw [hol] at this
        exact this
      refine wpListIn_rel hsel (hnd i o (by simpa using hol)) hdn hR (fun t ht' => ?_) hwp ?_
      · rintro ⟨i2, h5, h6, h7⟩
        obtain ⟨h1, _⟩ := ok.deps i hi o hol t ht' i2 (ok.q i2 h5).1 h7
        rw [hwait _ h1] at h6
        cases h6
      · rintro A' a' W' eA ea ed ⟨hcv', hwp'⟩
        refine .inr ⟨A', m + 1, by simpa using hsz, hml, fun e he => ?_, fun e he => ?_, fun h => ?_, hcv', ?_, ?_, fun i' hi' hf => ?_, hwp'⟩
        · rw [setD _ _ _ hsz hi]; unfold done; split
          · rfl
          · rename_i hne
            rw [List.take_succ_eq_append_getElem hml] at he
            rcases List.mem_append.1 he with h | h
            · exact ht e h
            · exact absurd ((List.mem_singleton.1 h).trans hie'.symm) hne
        · rw [setD _ _ _ hsz hi]; unfold done
          have hne : e ≠ i := fun e' => by
            have hp := ok.upE.sublist (List.drop_sublist m es)
            rw [hdrop, List.pairwise_cons] at hp
            have := hp.1 e he
            omega
          rw [if_neg hne]
          exact hdp e (by rw [hdrop]; exact List.mem_cons_of_mem _ he)
        · rw [setD _ _ _ hsz hi]; unfold done; split
          · rfl
          · exact hjl h
        · refine ⟨ed, by rw [ea, eA]; exact hR.size, fun t ht' => ?_⟩
          rw [ea, eA]
          refine hR.same t fun ⟨i2, h5, h6, h7⟩ => ht' ⟨i2, h5, ?_, h7⟩
          rw [setD _ _ _ hsz hi]; unfold done
          rw [if_neg (fun e' => by subst e'; exact (ok.q i2 h5).2.2 hie)]
          exact h6
        · exact ⟨by rw [eA]; exact hSt.1, by rw [eA]; exact hSt.2.1, by rw [eA]; exact hSt.2.2⟩
        · rw [setD _ _ _ hsz hi] at hf
          unfold done at hf
          split at hf
          · cases hf
          · exact hfl i' hi' hf
    · subst hij
      rw [hjl hi] at hfalse
      cases hfalse
  refine wpIn_region_inv hm St ?_ ?_ ?_ ?_
  · rintro listed a W (⟨h, _⟩ | ⟨A, m, h, _⟩) <;> simpa using h
  · exact .inl ⟨by simp, fun e _ => getD_replicate_false _ _, none, fun _ => getD_replicate_false _ _, fun _ => rfl, ⟨hV, fun b e => by cases e⟩, DescM.init fun i _ => getD_replicate_false _ _⟩
  · rintro listed a W i o ho hu hd hst
    have hol : l[i]? = some o := by simpa using ho
    have hi : i < l.length := (List.getElem?_eq_some_iff.1 hol).1
    have hwait : ∀ i', afterB l i i' = true → listed.getD i' false = true := fun i' h => by
      unfold afterB at h
      rw [hol] at h
      obtain ⟨e, he, h2⟩ := List.any_eq_true.1 h
      simp only [Bool.and_eq_true, beq_iff_eq] at h2
      rw [← h2.1]
      exact hd e (by simpa using he) h2.2
    rcases hst with hA | hBB
    · have hA0 := hA
      obtain ⟨hsz, hes, ob, h1, h2, hc, hD⟩ := hA
      have hfalse : listed.getD i false = false := getD_both hu
      have hsel : ∀ cs b, o.op ≠ .select cs b := fun cs b => Region.noSelect_spec ok.nosel i o cs b ho
      rcases ok.part i hi with hiq | hie | hij
      · have hne : i ≠ j := (ok.q i hiq).2.1
        obtain ⟨LF, hLF, hyq⟩ := (hyl (FCls V ty cs ob) ⟨_, hc⟩ (fun _ h => h.1) (fun W W' h k => h.grow k)).2 i hiq o hol
        have hag : ∀ t ∈ o.looksAt l.toArray, LF.tmps.getD t undef = a.tmps.getD t undef := fun t ht' => by
          by_cases hex : ∃ i', i' < l.length ∧ dstAt l i' = some t
          · obtain ⟨i', hi', hd'⟩ := hex
            obtain ⟨h3, h4⟩ := ok.deps i hi o hol t ht' i' hi' hd'
            have h5 := h4 (ok.q i hiq).2.2
            rw [hLF.set_ i' h5 (by simpa using afterB_lt ok.back h3) t hd', hD.set_ i' ((hjs i').2 (.inl h5)) (hwait _ h3) t hd', hvq ob i' h5]
          · have hno : ∀ i', i' < l.length → dstAt l i' ≠ some t := fun i' hi' hd => hex ⟨i', hi', hd⟩
            rw [hLF.other t (fun i' hi' _ => hno i' (ok.q i' hi').1), hD.other t (fun i' hi' _ => hno i' (hjlt i' hi').1)]
        have hya := yields_agree hsel (hLF.size.trans hD.size.symm) hag hyq
        obtain ⟨d, hdi, _⟩ := ok.ownQ i hiq
        have hdo : o.dst = some d := by unfold dstAt at hdi; rw [hol] at hdi; exact hdi
        have hnext : ∀ W', FCls V ty cs ob W' → St (listed.setIfInBounds i true) (a.put o.dst (valOf l AF i)) W' := fun W' hW' => by
          refine .inl ⟨by simpa using hsz, fun e he => ?_, ob, fun h => ?_, h2, hW', ?_⟩
          · rw [setD _ _ _ hsz hi]; unfold done
            rw [if_neg (fun e' => by subst e'; exact (ok.q e hiq).2.2 he)]
            exact hes e he
          · rw [setD _ _ _ hsz hi]; unfold done
            rw [if_neg (Ne.symm hne)]
            exact h1 h
          · have h5 := hD.step ownJ ((hjs i).2 (.inl hiq)) hdi (hslot i hi d hdi)
            rw [hvq ob i hiq] at h5
            rw [hdo]
            exact h5.sets fun i' _ => (setD _ _ _ hsz hi).symm
        simp only [wpListIn]
        rcases hya.2 with ⟨hw, hv⟩ | ⟨hw, hv⟩
        · rw [if_pos hw]
          exact wpIn_of_quiet' (K := fun a' => a' = a.put o.dst (valOf l AF i)) (hnd i o ho) hc (fun a' W' hW' ha' => by subst ha'; exact hnext W' hW') hya.1 ⟨_, hv, rfl⟩
        · rw [if_neg (by rw [hw]; simp)]
          refine ⟨hya.1 W hc, ?_⟩
          have := hnext W hc
          rw [hv] at this
          exact this
      · refine stepB listed a W i o hol hu hwait (toB listed a W hA0 (fun h => hwait j (ok.fresh i hie h)) fun i' hi' hf o' ho' => ?_)
        rcases ok.floats i' hi' o' ho' with h | h
        · exact h
        · rw [hwait i' (h i hie)] at hf
          cases hf
      · subst hij
        obtain ⟨oj, hoj, hdd, hgj, hfr⟩ := hj hi
        obtain rfl : oj = o := Option.some.inj (hoj.symm.trans hol)
        have hag : ∀ t ∈ oj.looksAt l.toArray, a.tmps.getD t undef = AF.tmps.getD t undef := fun t ht' => by
          by_cases hex : ∃ i', i' < l.length ∧ dstAt l i' = some t
          · obtain ⟨i', hi', hd'⟩ := hex
            obtain ⟨h3, h4⟩ := ok.deps i hi oj hol t ht' i' hi' hd'
            have h5 := h4 (hje hi)
            rw [hD.set_ i' ((hjs i').2 (.inl h5)) (hwait _ h3) t hd', hvq ob i' h5, DF.set_ i' h5 rfl t hd']
          · have hno : ∀ i', i' < l.length → dstAt l i' ≠ some t := fun i' hi' hd => hex ⟨i', hi', hd⟩
            rw [hD.other t (fun i' hi' _ => hno i' (hjlt i' hi').1), DF.other t (fun i' hi' _ => hno i' (ok.q i' hi').1)]
        obtain ⟨hab, hrun⟩ := hfr W hc.1
        have hwant : Region.wanted oj (yielded l.toArray a.tmps) = true := by unfold Region.wanted; rw [hgj]
        simp only [wpListIn]
        rw [if_pos hwant]
        unfold Oper.wpIn
        refine ⟨fun f hf => hab f (by rw [← about_agree W hag]; exact hf), ?_⟩
        rw [Oper.semAt_eq _ _ _ (hnd i oj ho), execOp_agree hsel hag, hrun]
        show Exit.then _ Q .normal _ _
        have hob : ob = none := by
          have h3 := h1 hi
          rw [hfalse] at h3
          cases ob with
          | none => rfl
          | some b => cases h3
        subst hob
        refine .inl ⟨by simpa using hsz, fun e he => ?_, some W.heap.size, fun _ => ?_, fun h => absurd hi (by omega), ⟨hc.1.alloc hc.1.size _, fun b hb => by cases hb; exact ⟨hc.1.size, Blk.new W _ _⟩⟩, ?_⟩
        · rw [setD _ _ _ hsz hi]; unfold done
          rw [if_neg (fun e' => by subst e'; exact hje hi he)]
          exact hes e he
        · rw [setD _ _ _ hsz hi]; simp [done]
        · have hD' : DescM l js (vb (some W.heap.size)) a0 (fun i => listed.getD i false) a := hD.vals fun i' hi' hS => by
            have hne : i' ≠ i := fun e => by subst e; rw [hfalse] at hS; cases hS
            show (if i' = i then _ else _) = if i' = i then _ else _
            rw [if_neg hne, if_neg hne]
          have h5 := hD'.step ownJ ((hjs i).2 (.inr ⟨rfl, hi⟩)) (hdj hi) (hslot i hi dj (hdj hi))
          have hvj : vb (some W.heap.size) i = fv W.heap.size := by show (if i = i then _ else _) = _; rw [if_pos rfl]; rfl
          rw [hvj] at h5
          rw [hdd]
          exact h5.sets fun i' _ => (setD _ _ _ hsz hi).symm
    · exact stepB listed a W i o hol hu hwait hBB
  · rintro listed a W hr hst
    have hall : ∀ listed a W, St listed a W → Region.ready .any l.toArray listed = [] → ∀ i, i < l.length → listed.getD i false = true := by
      rintro listed a W (⟨h, _⟩ | ⟨A, m, h, _⟩) hr i hi <;> exact ready_nil_all ok.back (by simpa using h) hr i (by simpa using hi)
    have hal := hall listed a W hst hr
    have hBB : StB listed a W := by
      rcases hst with h | h
      · exact toB listed a W h (fun h' => hal j h') (fun i hi hf => by rw [hal i (ok.q i hi).1] at hf; cases hf)
      · exact h
    obtain ⟨A, m, hsz, hm', ht, hdp, hjl, hcv, hR, hSt, hfl, hwp⟩ := hBB
    have hnil : es.drop m = [] := by
      cases h : es.drop m with
      | nil => rfl
      | cons e r =>
        have h1 := hdp e (by rw [h]; simp)
        rw [hal e (ok.e e (List.mem_of_mem_drop (by rw [h]; simp))).1] at h1
        cases h1
    rw [hnil] at hwp
    have hEq : a = A := by
      obtain ⟨t, d⟩ := a
      obtain ⟨t', d'⟩ := A
      have e1 : d = d' := hR.defers
      have s1 : t.size = t'.size := hR.size
      have e2 : t = t' := by
        apply Array.ext s1
        intro i h1 h2
        have := hR.same i (fun ⟨i2, h5, h6, _⟩ => by rw [hal i2 (ok.q i2 h5).1] at h6; cases h6)
        simpa [h1, h2] using this
      rw [e1, e2]
    subst hEq
    exact hwp

/-- By a mask. -/
def pickB : List Oper → List Bool → List Oper
  | o :: l, true :: bs => o :: pickB l bs
  | _ :: l, false :: bs => pickB l bs
  | _, _ => []
theorem quiet_of {V : World} {AF a0 : Act} (hq : ∀ (σ : Type) (_ : Nonempty σ) (of : σ → World), (∀ z, Below V.heap.size V (of z)) → (∀ z W', Below (of z).heap.size (of z) W' → Cls of W') → wpQuietIn F n P l.toArray (Cls of) (fun a2 => a2 = AF) (pick l qs) a0) :
    ∀ C : World → Prop, (∃ W, C W) → (∀ W, C W → Below V.heap.size V W) → (∀ W W', C W → Below W.heap.size W W' → C W') → wpQuietIn F n P l.toArray C (fun a2 => a2 = AF) (pick l qs) a0 := by
  rintro C ⟨W0, h0⟩ h1 h2
  have e : C = Cls (fun z : { W : World // C W } => z.1) := by
    funext W
    exact propext ⟨fun h => ⟨⟨W, h⟩, rfl⟩, fun ⟨z, hz⟩ => by rw [hz]; exact z.2⟩
  rw [e]
  exact hq _ ⟨⟨W0, h0⟩⟩ _ (fun z => h1 _ z.2) (fun z W' hb => ⟨⟨W', h2 _ _ z.2 hb⟩, rfl⟩)

/-- THE LAW, a new block among the operations. -/
theorem wpIn_region_new {Q : Exit → Act → World → Prop} {id : Nat} {a0 AF : Act} {w V : World} {oj : Oper} {dj : Tmp} (fv : Nat → Value) (ty : TypeId) (cs : Array Value) (qs es : List Nat) (j : Nat) (mq me : List Bool) (hmq : pick l qs = pickB l mq) (hme : pick l es = pickB l me)
    (hm : P.follows .mixedOrders = true) (hB : (mixB l qs es j && decide (j < l.length)) = true) (hs : slotsM l a0.tmps.size = true) (hV : Below V.heap.size V w.drew) (hoj : l[j]? = some oj) (hdj : oj.dst = some dj) (hgj : oj.guard = none)
    (hq : ∀ (σ : Type) (_ : Nonempty σ) (of : σ → World), (∀ z, Below V.heap.size V (of z)) → (∀ z W', Below (of z).heap.size (of z) W' → Cls of W') → wpQuietIn F n P l.toArray (Cls of) (fun a2 => a2 = AF) (pickB l mq) a0)
    (hfresh : ∀ W, Below V.heap.size V W → (∀ f, oj.about P W AF.eval = some f → F.fn f) ∧ (execOp AF.eval oj).run P W = .ok (.value (fv W.heap.size)) (W.alloc (.cells cs ty)))
    (htail : ∀ b W, Below V.heap.size V W → V.heap.size ≤ b → Blk W b ty cs → wpE F n P l.toArray (fun W => Below V.heap.size V W) (Q .normal) (pickB l me) (AF.put (some dj) (fv b)) W) :
    (Code.region id l.toArray true).wpIn F n P Q a0 w := by
  rw [Bool.and_eq_true, decide_eq_true_eq] at hB
  rw [← hmq] at hq
  rw [← hme] at htail
  exact wpIn_region_mix fv ty cs qs es j dj hm hB.1 hs hV (fun _ => ⟨oj, hoj, hdj, hgj, hfresh⟩) (quiet_of hq) (fun b W h1 h2 => by rw [if_pos hB.2]; exact htail b W h1 (h2 hB.2).1 (h2 hB.2).2)

/-- THE LAW, without a new block. -/
theorem wpIn_region_old {Q : Exit → Act → World → Prop} {id : Nat} {a0 AF : Act} {w V : World} (qs es : List Nat) (mq me : List Bool) (hmq : pick l qs = pickB l mq) (hme : pick l es = pickB l me)
    (hm : P.follows .mixedOrders = true) (hB : mixB l qs es l.length = true) (hs : slotsM l a0.tmps.size = true) (hV : Below V.heap.size V w.drew)
    (hq : ∀ (σ : Type) (_ : Nonempty σ) (of : σ → World), (∀ z, Below V.heap.size V (of z)) → (∀ z W', Below (of z).heap.size (of z) W' → Cls of W') → wpQuietIn F n P l.toArray (Cls of) (fun a2 => a2 = AF) (pickB l mq) a0)
    (htail : ∀ W, Below V.heap.size V W → wpE F n P l.toArray (fun W => Below V.heap.size V W) (Q .normal) (pickB l me) AF W) :
    (Code.region id l.toArray true).wpIn F n P Q a0 w := by
  rw [← hmq] at hq
  rw [← hme] at htail
  exact wpIn_region_mix (fun _ => undef) 0 #[] qs es l.length 0 hm hB hs hV (fun h => absurd h (Nat.lt_irrefl _)) (quiet_of hq) (fun b W h1 _ => by rw [if_neg (Nat.lt_irrefl _)]; exact htail W h1)

theorem wpE_nil {ops : Array Oper} {CV : World → Prop} {Qn : Act → World → Prop} {a : Act} {w : World} (h : Qn a w) : wpE F n P ops CV Qn [] a w := h
theorem wpE_cons {ops : Array Oper} {CV : World → Prop} {Qn : Act → World → Prop} {o : Oper} {r : List Oper} {a : Act} {w : World} (h : wpListIn F n P ops (Exit.then (fun a' w' => CV w' ∧ wpE F n P ops CV Qn r a' w') (fun _ _ _ => False)) [o] a w) : wpE F n P ops CV Qn (o :: r) a w := h
end
end Go.Proofs.YtahkjagjcogeiaaDoor
/- A region that draws its order: quiet operations, calls that make memory (a chain, each with what it hands back), one that lays a new block (or none), and effects at the end. One walk by stages serves. -/
namespace Go.Proofs.YtahkjagjcogeiaaDoor
open Go.RowKit
set_option linter.unusedVariables false

/-- The numbers of a mask. -/
def idxs : Nat → List Bool → List Nat
  | _, [] => []
  | k, true :: m => k :: idxs (k + 1) m
  | k, false :: m => idxs (k + 1) m
theorem pickB_idxs : ∀ (l : List Oper) (m : List Bool) (pre : List Oper), m.length ≤ l.length → pickB l m = pick (pre ++ l) (idxs pre.length m)
  | [], [], pre, _ => by simp [pickB, idxs, pick]
  | o :: l, [], pre, _ => by simp [pickB, idxs, pick]
  | [], b :: m, pre, h => by simp at h
  | o :: l, true :: m, pre, h => by
    have ih := pickB_idxs l m (pre ++ [o]) (by simpa using h)
    have e : (pre ++ o :: l)[pre.length]? = some o := by simp
    rw [idxs, pick_cons e, pickB, ih]
    simp
  | o :: l, false :: m, pre, h => by
    have ih := pickB_idxs l m (pre ++ [o]) (by simpa using h)
    rw [idxs, pickB, ih]
    simp
theorem pickB_all (l : List Oper) (m : List Bool) (h : m.length ≤ l.length) : pickB l m = pick l (idxs 0 m) := by
  simpa using pickB_idxs l m [] h

/-- The order of the walk: stage by stage. -/
def xsOf : List (List Bool × Nat) → List Bool → List Nat
  | [], fin => idxs 0 fin
  | (m, x) :: r, fin => idxs 0 m ++ x :: xsOf r fin

/-- Operations that ask nothing of the world. -/
def lateB (o : Oper) : Bool := match o.op with
  | .move _ | .assign _ | .extract _ _ => true
  | _ => false
def readsB (l : List Oper) (i : Nat) (pre : List Nat) : Bool := ((l[i]?).map fun o => (o.looksAt l.toArray).all fun t => (List.range l.length).all fun i' => dstAt l i' != some t || (afterB l i i' && pre.contains i')).getD false
def depsB (l : List Oper) : List Nat → List Nat → Bool
  | _, [] => true
  | pre, i :: post => readsB l i pre && depsB l (pre ++ [i]) post
def ordB (l : List Oper) (ws : List Nat) : List Nat → Bool
  | [] => true
  | x :: post => (!ws.contains x || post.all fun i => (x :: post).any fun m => afterB l i m) && ordB l ws post
def flowB (l : List Oper) (xs ws es : List Nat) (j : Nat) : Bool :=
  upS es && backB l.toArray && Region.noSelect l.toArray && noDeferB l &&
  (xs.all fun i => decide (i < l.length) && i != j && !es.contains i) && (es.all fun i => decide (i < l.length) && i != j) &&
  ((List.range l.length).all fun i => xs.contains i || es.contains i || i == j) &&
  ((List.range l.length).all fun i => es.contains i || ((dstAt l i).isSome && ((List.range l.length).all fun i' => i == i' || dstAt l i != dstAt l i'))) &&
  depsB l [] xs && (es.all fun e => readsB l e (if j < l.length then j :: xs else xs)) &&
  (es.all fun e => es.all fun e' => decide (e ≤ e') || afterB l e e') && (es.all fun e => decide (l.length ≤ j) || afterB l e j) &&
  (xs.all fun i => (((l[i]?).map lateB).getD false && !ws.contains i) || es.all fun e => afterB l e i) && (es.all fun e => (dstAt l e).isNone) && ordB l ws xs && decide xs.Nodup
structure FlowOk (l : List Oper) (xs ws es : List Nat) (j : Nat) : Prop where
  upE : es.Pairwise (· < ·)
  back : backB l.toArray = true
  nosel : Region.noSelect l.toArray = true
  nodef : noDeferB l = true
  x : ∀ i ∈ xs, i < l.length ∧ i ≠ j ∧ i ∉ es
  e : ∀ i ∈ es, i < l.length ∧ i ≠ j
  part : ∀ i, i < l.length → i ∈ xs ∨ i ∈ es ∨ i = j
  own : ∀ i, i < l.length → i ∉ es → ∃ d, dstAt l i = some d ∧ ∀ i', i' < l.length → dstAt l i' = some d → i' = i
  deps : ∀ pre i post, xs = pre ++ i :: post → ∀ o, l[i]? = some o → ∀ t ∈ o.looksAt l.toArray, ∀ i', i' < l.length → dstAt l i' = some t → afterB l i i' = true ∧ i' ∈ pre
  depsE : ∀ i ∈ es, ∀ o, l[i]? = some o → ∀ t ∈ o.looksAt l.toArray, ∀ i', i' < l.length → dstAt l i' = some t → afterB l i i' = true
  chain : ∀ e ∈ es, ∀ e' ∈ es, e' < e → afterB l e e' = true
  fresh : ∀ e ∈ es, j < l.length → afterB l e j = true
  late : ∀ i ∈ xs, ∀ o, l[i]? = some o → (lateB o = true ∧ i ∉ ws) ∨ ∀ e ∈ es, afterB l e i = true
  edst : ∀ e ∈ es, dstAt l e = none
  ord : ∀ pre x post, xs = pre ++ x :: post → x ∈ ws → ∀ i ∈ post, ∃ m ∈ x :: post, afterB l i m = true
  nodup : xs.Nodup
theorem readsB_spec {l : List Oper} {i : Nat} {pre : List Nat} (h : readsB l i pre = true) : ∀ o, l[i]? = some o → ∀ t ∈ o.looksAt l.toArray, ∀ i', i' < l.length → dstAt l i' = some t → afterB l i i' = true ∧ i' ∈ pre := by
  intro o ho t ht i' hi' hd
  unfold readsB at h
  rw [ho] at h
  simp only [Option.map_some, Option.getD_some] at h
  have h' := List.all_eq_true.1 (List.all_eq_true.1 h t ht) i' (List.mem_range.2 hi')
  simp only [Bool.or_eq_true, bne_iff_ne, Bool.and_eq_true, List.contains_eq_mem, decide_eq_true_eq] at h'
  rcases h' with h' | h'
  · exact absurd hd h'
  · exact h'
theorem depsB_spec {l : List Oper} : ∀ (xs acc : List Nat), depsB l acc xs = true → ∀ pre i post, xs = pre ++ i :: post → readsB l i (acc ++ pre) = true
  | [], acc, _, pre, i, post, e => by simp at e
  | x :: xs, acc, h, pre, i, post, e => by
    simp only [depsB, Bool.and_eq_true] at h
    cases pre with
    | nil => simp at e; obtain ⟨rfl, rfl⟩ := e; simpa using h.1
    | cons p pre =>
      simp at e
      obtain ⟨rfl, rfl⟩ := e
      have := depsB_spec _ _ h.2 pre i post rfl
      simpa using this
theorem ordB_spec {l : List Oper} {ws : List Nat} : ∀ (xs : List Nat), ordB l ws xs = true → ∀ pre x post, xs = pre ++ x :: post → x ∈ ws → ∀ i ∈ post, ∃ m ∈ x :: post, afterB l i m = true
  | [], _, pre, x, post, e => by simp at e
  | y :: xs, h, pre, x, post, e => by
    simp only [ordB, Bool.and_eq_true] at h
    cases pre with
    | nil =>
      simp at e
      obtain ⟨rfl, rfl⟩ := e
      intro hx i hi
      have h1 := h.1
      simp only [Bool.or_eq_true, Bool.not_eq_true', List.contains_eq_mem, decide_eq_false_iff_not] at h1
      have h2 := h1.resolve_left (fun hn => hn hx)
      obtain ⟨m, hm, h3⟩ := List.any_eq_true.1 (List.all_eq_true.1 h2 i hi)
      exact ⟨m, hm, h3⟩
    | cons p pre =>
      simp at e
      obtain ⟨rfl, rfl⟩ := e
      exact ordB_spec _ h.2 pre x post rfl
theorem flowOk {l : List Oper} {xs ws es : List Nat} {j : Nat} (h : flowB l xs ws es j = true) : FlowOk l xs ws es j := by
  unfold flowB at h
  simp only [Bool.and_eq_true] at h
  obtain ⟨⟨⟨⟨⟨⟨⟨⟨⟨⟨⟨⟨⟨⟨⟨h1, h2⟩, h3⟩, h4⟩, h5⟩, h6⟩, h7⟩, h8⟩, h9⟩, h10⟩, h11⟩, h12⟩, h13⟩, h14⟩, h15⟩, h16⟩ := h
  refine ⟨upS_pair h1, h2, h3, h4, fun i hi => ?_, fun i hi => ?_, fun i hi => ?_, fun i hi hne => ?_, fun pre i post e o ho t ht i' hi' hd => ?_, fun i hi o ho t ht i' hi' hd => ?_, fun e he e' he' hlt => ?_, fun e he hj => ?_, fun i hi o ho => ?_, fun e he => ?_, ordB_spec _ h15, of_decide_eq_true h16⟩
  · have := List.all_eq_true.1 h5 i hi
    simp only [Bool.and_eq_true, decide_eq_true_eq, bne_iff_ne, Bool.not_eq_true', List.contains_eq_mem, decide_eq_false_iff_not] at this
    exact ⟨this.1.1, this.1.2, this.2⟩
  · have := List.all_eq_true.1 h6 i hi
    simp only [Bool.and_eq_true, decide_eq_true_eq, bne_iff_ne] at this
    exact this
  · have := List.all_eq_true.1 h7 i (List.mem_range.2 hi)
    simp only [Bool.or_eq_true, List.contains_eq_mem, decide_eq_true_eq, beq_iff_eq] at this
    rcases this with (h | h) | h
    · exact .inl h
    · exact .inr (.inl h)
    · exact .inr (.inr h)
  · have h := List.all_eq_true.1 h8 i (List.mem_range.2 hi)
    simp only [Bool.or_eq_true, List.contains_eq_mem, decide_eq_true_eq] at h
    rcases h with h | h
    · exact absurd h hne
    · simp only [Bool.and_eq_true] at h
      obtain ⟨d, hd⟩ := Option.isSome_iff_exists.1 h.1
      refine ⟨d, hd, fun i' hi' hd' => ?_⟩
      have h' := List.all_eq_true.1 h.2 i' (List.mem_range.2 hi')
      simp only [Bool.or_eq_true, beq_iff_eq, bne_iff_ne] at h'
      rcases h' with h' | h'
      · exact h'.symm
      · exact absurd (hd.trans hd'.symm) h'
  · exact readsB_spec (by simpa using depsB_spec _ _ h9 pre i post e) o ho t ht i' hi' hd
  · exact (readsB_spec (List.all_eq_true.1 h10 i hi) o ho t ht i' hi' hd).1
  · have := List.all_eq_true.1 (List.all_eq_true.1 h11 e he) e' he'
    simp only [Bool.or_eq_true, decide_eq_true_eq] at this
    exact this.resolve_left (by omega)
  · have := List.all_eq_true.1 h12 e he
    simp only [Bool.or_eq_true, decide_eq_true_eq] at this
    exact this.resolve_left (by omega)
  · have := List.all_eq_true.1 h13 i hi
    rw [ho] at this
    simp only [Option.map_some, Option.getD_some, Bool.or_eq_true, Bool.and_eq_true, Bool.not_eq_true', List.contains_eq_mem, decide_eq_false_iff_not] at this
    rcases this with h | h
    · exact .inl h
    · exact .inr fun e he => List.all_eq_true.1 h e he
  · have := List.all_eq_true.1 h14 e he
    simpa using this

/-- A frame: S's slots as in A, the others as in 'base'. -/
structure Mixed (l : List Oper) (S : Nat → Prop) (A base a : Act) : Prop where
  defers : a.defers = base.defers
  size : a.tmps.size = base.tmps.size
  in_ : ∀ i, S i → ∀ t, dstAt l i = some t → a.tmps.getD t undef = A.tmps.getD t undef
  out : ∀ t, (∀ i, S i → dstAt l i ≠ some t) → a.tmps.getD t undef = base.tmps.getD t undef

section
variable {F : Fence} {n : Nat} {P : Program} {l : List Oper}
section
variable {S S' : Nat → Prop} {A A' base a : Act}
theorem Mixed.nil (h : ∀ i, ¬ S i) : Mixed l S A base base := ⟨rfl, rfl, fun i hi => absurd hi (h i), fun _ _ => rfl⟩
theorem Mixed.congr (h : Mixed l S A base a) (hS : ∀ i, S i ↔ S' i) : Mixed l S' A base a := ⟨h.defers, h.size, fun i hi => h.in_ i ((hS i).2 hi), fun t ht => h.out t fun i hi => ht i ((hS i).1 hi)⟩
theorem Mixed.change (h : Mixed l S A base a) (hA : ∀ i, S i → ∀ t, dstAt l i = some t → A.tmps.getD t undef = A'.tmps.getD t undef) : Mixed l S A' base a := ⟨h.defers, h.size, fun i hi t ht => (h.in_ i hi t ht).trans (hA i hi t ht), h.out⟩
/-- One more. -/
theorem Mixed.step (h : Mixed l S A base a) {i : Nat} {d : Tmp} (hd : dstAt l i = some d) (hu : ∀ i', S i' → dstAt l i' = some d → i' = i) (hsz : d < base.tmps.size) : Mixed l (fun k => S k ∨ k = i) A base (a.put (some d) (A.tmps.getD d undef)) := by
  have hp : (a.put (some d) (A.tmps.getD d undef)).tmps = a.tmps.setIfInBounds d (A.tmps.getD d undef) := rfl
  refine ⟨h.defers, by rw [hp]; simpa using h.size, fun k hk t ht => ?_, fun t ht => ?_⟩
  · by_cases e : t = d
    · subst e
      rw [hp, getD_set_same _ _ _ (by rw [h.size]; exact hsz)]
    · rw [hp, getD_set_other _ _ (Ne.symm e)]
      rcases hk with hk | rfl
      · exact h.in_ k hk t ht
      · rw [hd] at ht; exact absurd (Option.some.inj ht).symm e
  · have e : d ≠ t := fun e => ht i (.inr rfl) (by rw [hd, e])
    rw [hp, getD_set_other _ _ e]
    exact h.out t fun k hk => ht k (.inl hk)
/-- Two of them, one on the other. -/
theorem Mixed.trans (h : Mixed l S A' A a) (k : Mixed l S' A' base A) : Mixed l (fun i => S i ∨ S' i) A' base a := by
  refine ⟨h.defers.trans k.defers, h.size.trans k.size, fun i hi t ht => ?_, fun t ht => ?_⟩
  · by_cases hex : ∃ i', S i' ∧ dstAt l i' = some t
    · obtain ⟨i', h1, h2⟩ := hex
      exact h.in_ i' h1 t h2
    · rw [h.out t (fun i' h1 h2 => hex ⟨i', h1, h2⟩)]
      rcases hi with hi | hi
      · exact absurd ⟨i, hi, ht⟩ hex
      · exact k.in_ i hi t ht
  · rw [h.out t (fun i hi => ht i (.inl hi))]
    exact k.out t fun i hi => ht i (.inr hi)
end

/-- The walk of a run of quiet operations. -/
theorem quiet_seq {C : World → Prop} {A : Act} : ∀ (qs : List Nat) (base : Act), (∀ i ∈ qs, i < l.length ∧ ∃ d, dstAt l i = some d ∧ d < base.tmps.size ∧ ∀ i' ∈ qs, dstAt l i' = some d → i' = i) → qs.Nodup →
    wpQuietIn F n P l.toArray C (fun a2 => a2 = A) (pick l qs) base →
    Mixed l (· ∈ qs) A base A ∧ ∀ pre i post, qs = pre ++ i :: post → ∀ o, l[i]? = some o → ∃ LF, Mixed l (· ∈ pre) A base LF ∧ YieldsQuiet F n P l.toArray C o (valOf l A i) LF
  | [], base, _, _, h => by
    have e : base = A := h
    subst e
    exact ⟨Mixed.nil (by simp), fun pre i post e => by simp at e⟩
  | i0 :: qs, base, hq, hnd, h => by
    obtain ⟨hlt, d, hd, hsz, hun⟩ := hq i0 (by simp)
    have ho : l[i0]? = some l[i0] := List.getElem?_eq_getElem hlt
    rw [pick_cons ho] at h
    have hdo : (l[i0]).dst = some d := by unfold dstAt at hd; rw [ho] at hd; exact hd
    have main : ∃ v, YieldsQuiet F n P l.toArray C l[i0] v base ∧ wpQuietIn F n P l.toArray C (fun a2 => a2 = A) (pick l qs) (base.put (some d) v) := by
      obtain ⟨ha, h2⟩ := h
      by_cases hw : Region.wanted l[i0] (yielded l.toArray base.tmps) = true
      · rw [if_pos hw] at h2
        obtain ⟨v, h3, h4⟩ := h2
        exact ⟨v, ⟨ha, .inl ⟨hw, h3⟩⟩, by rw [← hdo]; exact h4⟩
      · rw [if_neg hw] at h2
        exact ⟨undef, ⟨ha, .inr ⟨by simpa using hw, rfl⟩⟩, by rw [← hdo]; exact h2⟩
    obtain ⟨v, hy, hr⟩ := main
    rw [List.nodup_cons] at hnd
    have hbs : (base.put (some d) v).tmps.size = base.tmps.size := by simp [Act.put]
    have hpt : (base.put (some d) v).tmps = base.tmps.setIfInBounds d v := rfl
    obtain ⟨i1, i2⟩ := quiet_seq qs (base.put (some d) v) (fun i hi => by
      obtain ⟨g1, d', g2, g3, g4⟩ := hq i (by simp [hi])
      exact ⟨g1, d', g2, by rw [hbs]; exact g3, fun i' hi' => g4 i' (by simp [hi'])⟩) hnd.2 hr
    have hnod : ∀ i ∈ qs, dstAt l i ≠ some d := fun i hi e => by
      have := hun i (by simp [hi]) e
      subst this
      exact hnd.1 hi
    have hAd : A.tmps.getD d undef = v := by
      rw [i1.out d hnod, hpt, getD_set_same _ _ _ hsz]
    have hv : valOf l A i0 = v := by unfold valOf; rw [hd]; exact hAd
    have up : ∀ {S : Nat → Prop} {LF : Act}, (∀ i, S i → i ∈ qs) → Mixed l S A (base.put (some d) v) LF → Mixed l (fun k => k = i0 ∨ S k) A base LF := by
      intro S LF hS hm
      refine ⟨hm.defers, hm.size.trans hbs, fun i hi t ht => ?_, fun t ht => ?_⟩
      · rcases hi with rfl | hi
        · rw [hd] at ht; cases ht
          rw [hm.out d (fun i' hi' => hnod i' (hS i' hi')), hpt, getD_set_same _ _ _ hsz, hAd]
        · exact hm.in_ i hi t ht
      · have e : d ≠ t := fun e => ht i0 (.inl rfl) (by rw [hd, e])
        rw [hm.out t (fun i hi => ht i (.inr hi)), hpt, getD_set_other _ _ e]
    refine ⟨(up (fun i hi => hi) i1).congr (by simp), fun pre i post e o hol => ?_⟩
    cases pre with
    | nil =>
      simp at e
      obtain ⟨rfl, rfl⟩ := e
      rw [ho] at hol
      cases hol
      exact ⟨base, Mixed.nil (by simp), by rw [hv]; exact hy⟩
    | cons p pre =>
      simp at e
      obtain ⟨rfl, rfl⟩ := e
      obtain ⟨LF, h5, h6⟩ := i2 pre i post rfl o hol
      exact ⟨LF, (up (fun k hk => by simp [hk]) h5).congr (by simp), h6⟩

theorem wpListIn_relD {ops : Array Oper} {o : Oper} {a A : Act} {W : World} {K K' : Act → World → Prop} {Q : Exit → Act → World → Prop} (hsel : ∀ cs b, o.op ≠ .select cs b) (hnd : ∀ c, o.op ≠ .defer c) (hz : a.tmps.size = A.tmps.size) (hag : ∀ t ∈ o.looksAt ops, A.tmps.getD t undef = a.tmps.getD t undef)
    (h : wpListIn F n P ops (Exit.then K (fun _ _ _ => False)) [o] A W) (hK : ∀ A' a' W' v, A'.tmps = (A.put o.dst v).tmps → a'.tmps = (a.put o.dst v).tmps → (A'.defers = A.defers → a'.defers = a.defers) → K A' W' → K' a' W') : wpListIn F n P ops (Exit.then K' Q) [o] a W := by
  have pd : ∀ (x : Act) (v : Value), (x.put o.dst v).defers = x.defers := fun x v => by cases o.dst <;> rfl
  simp only [wpListIn] at h ⊢
  rw [wanted_agree hz.symm hag] at h
  split
  · rename_i hw
    rw [if_pos hw] at h
    unfold Oper.wpIn at h ⊢
    rw [Oper.semAt_eq _ _ _ hnd] at h ⊢
    rw [execOp_agree hsel hag] at h
    refine ⟨fun f hf => h.1 f (by rw [about_agree W hag]; exact hf), ?_⟩
    have h4 := h.2
    generalize (execOp a.eval o).run P W = r at h4 ⊢
    cases r with
    | ok x w' =>
      cases x <;> simp only [Oper.uponIn, Exit.then] at h4 ⊢ <;>
        first
          | exact hK _ _ _ _ rfl rfl (fun _ => pd a _) h4
          | exact hK _ _ _ undef (by cases o.dst <;> rfl) (by cases o.dst <;> rfl) (fun e => by
              have e2 : ∀ (x : Act) (v : Value), (x.put o.dst v).defers = x.defers := pd
              rw [e2] at e
              exact absurd e (by simp)) h4
          | exact ⟨h4.1, CallsIn.mono h4.2 (fun e w'' he => by cases e <;> first | exact hK _ _ _ _ rfl rfl (fun _ => pd a _) he | exact False.elim he | (obtain ⟨_, _, he⟩ := he; exact False.elim he))⟩
          | exact ⟨h4.1, RoundIn.mono h4.2 (fun e w'' he => by cases e <;> first | exact hK _ _ _ _ rfl rfl (fun _ => pd a _) he | exact False.elim he | (obtain ⟨_, _, he⟩ := he; exact False.elim he))⟩
          | exact ⟨h4.1, RowsIn.mono h4.2 (fun v w'' he => hK _ _ _ _ rfl rfl (fun _ => pd a _) he)⟩
          | exact h4
          | exact False.elim h4
    | halt x w' => cases x <;> simp only [Oper.uponIn, Exit.then] at h4 ⊢ <;> first | exact h4 | exact False.elim h4
  · rename_i hw
    rw [if_neg hw] at h
    refine ⟨fun f hf => h.1 f (by rw [about_agree W hag]; exact hf), ?_⟩
    exact hK _ _ _ undef rfl rfl (fun _ => pd a _) h.2

/-- What asks nothing of the world yields its value in every world. -/
def YieldsAll (F : Fence) (P : Program) (ops : Array Oper) (o : Oper) (v : Value) (a : Act) : Prop :=
  (∀ W f, o.about P W a.eval = some f → F.fn f) ∧ ((Region.wanted o (yielded ops a.tmps) = true ∧ ∀ W, (execOp a.eval o).run P W = .ok (.value v) W) ∨ (Region.wanted o (yielded ops a.tmps) = false ∧ v = undef))
theorem late_yields {ops : Array Oper} {C : World → Prop} {o : Oper} {v : Value} {a : Act} (hl : lateB o = true) (hC : ∃ W, C W) (hy : YieldsQuiet F n P ops C o v a) : YieldsAll F P ops o v a := by
  obtain ⟨W0, hW0⟩ := hC
  obtain ⟨dst, op, type, pos, after, guard⟩ := o
  refine ⟨fun W f hf => ?_, ?_⟩
  · unfold lateB at hl
    cases op <;> simp only at hl <;> first | (cases hl; done) | (have h0 : (none : Option FuncId) = some f := hf; cases h0)
  · rcases hy.2 with ⟨hw, hv⟩ | h
    · refine .inl ⟨hw, fun W => ?_⟩
      have h3 := hv W0 hW0
      unfold Oper.quietAtIn at h3
      unfold lateB at hl
      cases op <;> simp only at hl <;> first | (cases hl; done) | skip
      · simp only [execOp, Sem.run_pure, Oper.quietUponIn] at h3 ⊢
        rw [h3.2]
      · simp only [execOp, Sem.run_pure, Oper.quietUponIn] at h3 ⊢
        rw [h3.2]
      · rename_i t ix
        simp only [execOp] at h3 ⊢
        unfold Instr.extract at h3 ⊢
        cases hv : a.eval t <;> rw [hv] at h3 <;> simp only [Sem.run_bind] at h3 ⊢
        case tuple xs =>
          cases hx : xs[ix]? <;> simp [hx, Sem.run_pure, Result.andThen, Oper.quietUponIn] at h3 ⊢
          exact h3
        all_goals simp [Result.andThen, Oper.quietUponIn] at h3
    · exact .inr h
theorem YieldsAll.agree {ops : Array Oper} {o : Oper} {v : Value} {a a' : Act} (hy : YieldsAll F P ops o v a) (hs : ∀ cs b, o.op ≠ .select cs b) (hz : a.tmps.size = a'.tmps.size) (h : ∀ t ∈ o.looksAt ops, a.tmps.getD t undef = a'.tmps.getD t undef) : YieldsAll F P ops o v a' := by
  unfold YieldsAll at hy ⊢
  rw [← execOp_agree hs h, ← wanted_agree hz h]
  exact ⟨fun W f hf => hy.1 W f (by rw [about_agree W h]; exact hf), hy.2⟩
end
end Go.Proofs.YtahkjagjcogeiaaDoor
