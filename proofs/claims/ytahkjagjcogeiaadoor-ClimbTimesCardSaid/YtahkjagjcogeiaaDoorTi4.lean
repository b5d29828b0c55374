/- Part 4 of the texts of this claim, joined. -/
import Derived.Sort.BigQuietIn
import Derived.StillTail
import Derived.Test.YtahkjagjcogeiaaDoorTi3
/- climb.chart.from hands back its iterator. -/
namespace Go.Proofs.YtahkjagjcogeiaaDoor
open Go.RowKit Go.Shelf
set_option linter.unusedVariables false

set_option maxRecDepth 100000 in
set_option maxHeartbeats 2000000 in
/-- The iterator's value, and its two boxes. -/
theorem from_any (T : Array Value) (v0 v1 v2 v3 : Value) (hT : T = #[v0, v1, v2, v3]) (place : Int) (w : World) :
    Calls Tryd.prog 117 #[.agg T, .int .i64 place] w fun e w' =>
      e = .returned (.func (.func 140) #[] #[.pointer (some ⟨w.heap.size, 0, none⟩), .pointer (some ⟨w.heap.size + 1, 0, none⟩)]) ∧ w' = (w.alloc (.cells T 115)).alloc (.cells #[.int .i64 place] 3) := by
  subst hT
  go_enter Tryd.func117, Tryd.ntmps117
  go_wp2_with fail
  go_ret
  exact ⟨rfl, rfl⟩

theorem from_in (w : World) (T : Array Value) (place : Int) : FromIn w w.heap.size (w.heap.size + 1) T place ((w.alloc (.cells T 115)).alloc (.cells #[.int .i64 place] 3)) := by
  have Y := Blk.new (w.alloc (.cells T 115)) 3 #[.int .i64 place]
  rw [World.size_alloc] at Y
  exact ⟨(Blk.new w _ _).alloc _, Y, ((Below.refl _ _).alloc (Nat.le_refl _) _).alloc (by simp) _⟩
theorem FromIn.base {w w1 W : World} {g1 g2 : Nat} {T : Array Value} {place : Int} (h : FromIn w g1 g2 T place W) (hb : Below w1.heap.size w1 w) : FromIn w1 g1 g2 T place W := ⟨h.chart, h.place, hb.trans (h.below.mono hb.size)⟩
end Go.Proofs.YtahkjagjcogeiaaDoor
/- Costs added up, and the toil of one: climb.cost.plus, cost.toil. The prices: climb.free, drips, takes. -/
namespace Go.Proofs.YtahkjagjcogeiaaDoor
open Go.RowKit
set_option linter.unusedVariables false

def mixC (k : Nat) (x y : Cost) : Cost := ⟨if 0 < k then x.a + y.a else x.a, if 1 < k then x.b + y.b else x.b, if 2 < k then x.c + y.c else x.c, if 3 < k then x.d + y.d else x.d⟩
/-- A cost far within an int's reach. -/
structure Small (x : Cost) : Prop where
  a : 0 ≤ x.a ∧ x.a ≤ 1000000000000
  b : 0 ≤ x.b ∧ x.b ≤ 1000000000000
  c : 0 ≤ x.c ∧ x.c ≤ 1000000000000
  d : 0 ≤ x.d ∧ x.d ≤ 1000000000000

set_option maxRecDepth 100000 in
set_option maxHeartbeats 2000000 in
theorem toil_any (x : Cost) (w : World) :
    Calls Tryd.prog 81 #[costV x] w fun e w' => e = .returned (.agg #[.int .i64 x.b, .int .i64 x.c]) ∧ Below w.heap.size w w' := by
  go_enter Tryd.func81, Tryd.ntmps81
  go_wp2_with fail
  exact bodyPost_ret (v := .agg #[.int .i64 x.b, .int .i64 x.c]) (by simp [results, Tryd.results81, go_sem]) rfl ⟨rfl, (((Below.refl _ _).alloc (Nat.le_refl _) _).alloc (by simp) _)⟩

set_option maxRecDepth 100000 in
set_option maxHeartbeats 4000000 in
theorem plus_any (x y : Cost) (w : World) (hx : Small x) (hy : Small y) :
    Calls Tryd.prog 118 #[costV x, costV y] w fun e w' => e = .returned (costV (addC x y)) ∧ Below w.heap.size w w' := by
  have HX := Lib.hid hx
  have HY := Lib.hid hy
  clear hx hy
  go_enter Tryd.func118, Tryd.ntmps118
  go_wp2_with fail
  have X1 := ((Blk.new w 109 #[.int .i64 x.a, .int .i64 x.b, .int .i64 x.c, .int .i64 x.d]).alloc (.cells #[.int .i64 y.a, .int .i64 y.b, .int .i64 y.c, .int .i64 y.d] 109)).alloc (.cells #[.int .i64 0, .int .i64 0, .int .i64 0, .int .i64 0] 109)
  have Y1 := (Blk.new (w.alloc (.cells #[.int .i64 x.a, .int .i64 x.b, .int .i64 x.c, .int .i64 x.d] 109)) 109 #[.int .i64 y.a, .int .i64 y.b, .int .i64 y.c, .int .i64 y.d]).alloc (.cells #[.int .i64 0, .int .i64 0, .int .i64 0, .int .i64 0] 109)
  have Z1 := Blk.new ((w.alloc (.cells #[.int .i64 x.a, .int .i64 x.b, .int .i64 x.c, .int .i64 x.d] 109)).alloc (.cells #[.int .i64 y.a, .int .i64 y.b, .int .i64 y.c, .int .i64 y.d] 109)) 109 #[.int .i64 0, .int .i64 0, .int .i64 0, .int .i64 0]
  have B1 : Below w.heap.size w (((w.alloc (.cells #[.int .i64 x.a, .int .i64 x.b, .int .i64 x.c, .int .i64 x.d] 109)).alloc (.cells #[.int .i64 y.a, .int .i64 y.b, .int .i64 y.c, .int .i64 y.d] 109)).alloc (.cells #[.int .i64 0, .int .i64 0, .int .i64 0, .int .i64 0] 109)) := (((Below.refl _ _).alloc (Nat.le_refl _) _).alloc (by simp) _).alloc (by simp; omega) _
  rw [World.size_alloc] at Y1
  rw [World.size_alloc, World.size_alloc] at Z1
  generalize ((w.alloc (.cells #[.int .i64 x.a, .int .i64 x.b, .int .i64 x.c, .int .i64 x.d] 109)).alloc (.cells #[.int .i64 y.a, .int .i64 y.b, .int .i64 y.c, .int .i64 y.d] 109)).alloc (.cells #[.int .i64 0, .int .i64 0, .int .i64 0, .int .i64 0] 109) = w0 at *
  go_loopw [6] (fun i wr => ∃ k : Nat, k ≤ 4 ∧ i = .int .i64 k ∧ Blk wr w.heap.size 109 #[.int .i64 (mixC k x y).a, .int .i64 (mixC k x y).b, .int .i64 (mixC k x y).c, .int .i64 (mixC k x y).d] ∧ Blk wr (w.heap.size + 1) 109 #[.int .i64 y.a, .int .i64 y.b, .int .i64 y.c, .int .i64 y.d] ∧ Blk wr (w.heap.size + 1 + 1) 109 #[.int .i64 0, .int .i64 0, .int .i64 0, .int .i64 0] ∧ Below w.heap.size w wr)
    (fun i _ => 4 - (intOf i).toNat)
  case atStart => exact ⟨0, by omega, rfl, X1, Y1, Z1, B1⟩
  case round =>
    obtain ⟨k, hk, rfl, hX, hY, hZ, hbel⟩ := hrel
    have x0 := hX.cell 0
    have x1 := hX.cell 1
    have x2 := hX.cell 2
    have x3 := hX.cell 3
    have q0 := hX.frozen 0
    have q1 := hX.frozen 1
    have q2 := hX.frozen 2
    have q3 := hX.frozen 3
    have y0 := hY.cell 0
    have y1 := hY.cell 1
    have y2 := hY.cell 2
    have y3 := hY.cell 3
    have c0 := hZ.cell 0
    have c1 := hZ.cell 1
    have c2 := hZ.cell 2
    have c3 := hZ.cell 3
    have z0 := hZ.frozen 0
    have z1 := hZ.frozen 1
    have z2 := hZ.frozen 2
    have z3 := hZ.frozen 3
    have hlX := hX.lt
    have hlZ := hZ.lt
    have HX' := Lib.hid hX
    have HY' := Lib.hid hY
    have HZ' := Lib.hid hZ
    clear hX hY hZ
    simp only [List.getElem?_toArray, List.getElem?_cons_zero, List.getElem?_cons_succ] at x0 x1 x2 x3 y0 y1 y2 y3 c0 c1 c2 c3
    clear X1 Y1 Z1 B1
    rcases (show k = 0 ∨ k = 1 ∨ k = 2 ∨ k = 3 ∨ k = 4 by omega) with rfl | rfl | rfl | rfl | rfl
    · obtain ⟨hx1, hx2⟩ := HX.out.a
      obtain ⟨hy1, hy2⟩ := HY.out.a
      replace x0 : wr.cell? ⟨w.heap.size, 0, none⟩ = some (.int .i64 x.a) := x0
      go_wp2_with fail
      go_region
      go_wp2_with fail
      go_roundw
      case rel => exact ⟨1, by omega, by go_num, (HX'.out.set_ 0 (.int .i64 (x.a + y.a))).drewN 1, (HY'.out.far (p := ⟨w.heap.size, 0, none⟩) (by simp) _).drewN 1, (HZ'.out.far (p := ⟨w.heap.size, 0, none⟩) (by simp; omega) _).drewN 1, below_drewN (hbel.setCell (p := ⟨w.heap.size, 0, none⟩) (Nat.le_refl _) _) 1⟩
      case measure => simp [intOf]
    · obtain ⟨hx1, hx2⟩ := HX.out.b
      obtain ⟨hy1, hy2⟩ := HY.out.b
      replace x1 : wr.cell? ⟨w.heap.size, 1, none⟩ = some (.int .i64 x.b) := x1
      go_wp2_with fail
      go_region
      go_wp2_with fail
      go_roundw
      case rel => exact ⟨2, by omega, by go_num, (HX'.out.set_ 1 (.int .i64 (x.b + y.b))).drewN 1, (HY'.out.far (p := ⟨w.heap.size, 1, none⟩) (by simp) _).drewN 1, (HZ'.out.far (p := ⟨w.heap.size, 1, none⟩) (by simp; omega) _).drewN 1, below_drewN (hbel.setCell (p := ⟨w.heap.size, 1, none⟩) (Nat.le_refl _) _) 1⟩
      case measure => simp [intOf]
    · obtain ⟨hx1, hx2⟩ := HX.out.c
      obtain ⟨hy1, hy2⟩ := HY.out.c
      replace x2 : wr.cell? ⟨w.heap.size, 2, none⟩ = some (.int .i64 x.c) := x2
      go_wp2_with fail
      go_region
      go_wp2_with fail
      go_roundw
      case rel => exact ⟨3, by omega, by go_num, (HX'.out.set_ 2 (.int .i64 (x.c + y.c))).drewN 1, (HY'.out.far (p := ⟨w.heap.size, 2, none⟩) (by simp) _).drewN 1, (HZ'.out.far (p := ⟨w.heap.size, 2, none⟩) (by simp; omega) _).drewN 1, below_drewN (hbel.setCell (p := ⟨w.heap.size, 2, none⟩) (Nat.le_refl _) _) 1⟩
      case measure => simp [intOf]
    · obtain ⟨hx1, hx2⟩ := HX.out.d
      obtain ⟨hy1, hy2⟩ := HY.out.d
      replace x3 : wr.cell? ⟨w.heap.size, 3, none⟩ = some (.int .i64 x.d) := x3
      go_wp2_with fail
      go_region
      go_wp2_with fail
      go_roundw
      case rel => exact ⟨4, by omega, by go_num, (HX'.out.set_ 3 (.int .i64 (x.d + y.d))).drewN 1, (HY'.out.far (p := ⟨w.heap.size, 3, none⟩) (by simp) _).drewN 1, (HZ'.out.far (p := ⟨w.heap.size, 3, none⟩) (by simp; omega) _).drewN 1, below_drewN (hbel.setCell (p := ⟨w.heap.size, 3, none⟩) (Nat.le_refl _) _) 1⟩
      case measure => simp [intOf]
    · replace x0 : wr.cell? ⟨w.heap.size, 0, none⟩ = some (.int .i64 (x.a + y.a)) := x0
      replace x1 : wr.cell? ⟨w.heap.size, 1, none⟩ = some (.int .i64 (x.b + y.b)) := x1
      replace x2 : wr.cell? ⟨w.heap.size, 2, none⟩ = some (.int .i64 (x.c + y.c)) := x2
      replace x3 : wr.cell? ⟨w.heap.size, 3, none⟩ = some (.int .i64 (x.d + y.d)) := x3
      go_wp2_with fail
      exact bodyPost_ret (v := costV (addC x y)) (by simp [results, Tryd.results118, go_sem, c0, c1, c2, c3, addC]) rfl ⟨rfl, (((hbel.setCell (by simp; omega) _).setCell (by simp; omega) _).setCell (by simp; omega) _).setCell (by simp; omega) _⟩
end Go.Proofs.YtahkjagjcogeiaaDoor
/- A list of links followed from a place: plain Lean. -/
namespace Go.Proofs.YtahkjagjcogeiaaDoor
set_option linter.unusedVariables false

/-- By which link of an Id, where to, and what it costs. -/
def stepF (t : Town) (p : Price) (u : Int) (id : Int) : Option (Int × Cost) := t.links.findSome? fun x => if x.id = id then leads false p x u else none
/-- A list followed. -/
def walkS (t : Town) (p : Price) : Int × Cost → List Int → Option (Int × Cost)
  | s, [] => some s
  | s, i :: r => match stepF t p s.1 i with
    | none => none
    | some (m, c) => walkS t p (m, addC s.2 c) r
/-- The same, up to 40 links. -/
def walkedF (t : Town) (p : Price) (u : Int) (l : List Int) : Option (Int × Cost) := if 40 < l.length then none else walkS t p (u, zeroC) l

section
variable {t : Town} {p : Price} {u m : Int} {c d : Cost} {i : Int} {l r : List Int}
theorem walkS_append : ∀ (l r : List Int) (s : Int × Cost), walkS t p s (l ++ r) = (walkS t p s l).bind fun s' => walkS t p s' r
  | [], _, _ => rfl
  | i :: l, r, s => by
    simp only [List.cons_append, walkS]
    cases stepF t p s.1 i with
    | none => rfl
    | some q => obtain ⟨m, c⟩ := q; exact walkS_append l r _
theorem stepF_leads {x : Link} (hi : t.links.Pairwise fun x y => x.id < y.id) (hx : x ∈ t.links) : stepF t p u x.id = leads false p x u := by
  unfold stepF
  generalize t.links = ls at hi hx
  induction ls with
  | nil => cases hx
  | cons y ys ih =>
    rw [List.pairwise_cons] at hi
    rw [List.findSome?_cons]
    rcases List.mem_cons.1 hx with rfl | hx
    · rw [if_pos rfl]
      cases h : leads false p x u with
      | some r => rfl
      | none =>
        simp only
        rw [List.findSome?_eq_none_iff]
        intro z hz
        have := hi.1 z hz
        rw [if_neg (by omega)]
    · have := hi.1 x hx
      rw [if_neg (by omega)]
      exact ih hi.2 hx
theorem stepF_some (h : stepF t p u i = some (m, c)) : ∃ x ∈ t.links, x.id = i ∧ leads false p x u = some (m, c) := by
  unfold stepF at h
  obtain ⟨x, hx, h1⟩ := List.exists_of_findSome?_eq_some h
  split at h1
  · rename_i e; exact ⟨x, hx, e, h1⟩
  · cases h1
end
end Go.Proofs.YtahkjagjcogeiaaDoor
/- A function that holds loops over functions, one behind another or in a loop, leaves with many marks among its deferred calls: each is shut, no call is made. -/
namespace Go.Proofs.YtahkjagjcogeiaaDoor
open Go.RowKit
set_option linter.unusedVariables false

/-- The marks: blocks of deferred calls without a call, at or above B, each but once. -/
def Marks (B : Nat) (w : World) : List Deferred → Prop
  | [] => True
  | d :: ds => (∃ r, B ≤ r ∧ d.target = .collected r ∧ w.heap[r]? = some (.deferred (some [])) ∧ ∀ d' ∈ ds, d'.target ≠ .collected r) ∧ Marks B w ds

theorem Marks.keep {B : Nat} {w w' : World} : ∀ {ds : List Deferred}, Marks B w ds → (∀ d ∈ ds, ∀ r, d.target = .collected r → w.heap[r]? = some (.deferred (some [])) → w'.heap[r]? = some (.deferred (some []))) → Marks B w' ds
  | [], _, _ => trivial
  | d :: ds, ⟨⟨r, h1, h2, h3, h4⟩, h5⟩, hk => ⟨⟨r, h1, h2, hk d (by simp) r h2 h3, h4⟩, Marks.keep h5 fun d' hd => hk d' (by simp [hd])⟩
theorem Marks.lt {B : Nat} {w : World} : ∀ {ds : List Deferred}, Marks B w ds → ∀ d ∈ ds, ∀ r, d.target = .collected r → r < w.heap.size
  | d :: ds, ⟨⟨r', h1, h2, h3, h4⟩, h5⟩, x, hx, r, hr => by
    rcases List.mem_cons.1 hx with rfl | hx
    · rw [h2] at hr
      cases hr
      exact (Array.getElem?_eq_some_iff.1 h3).1
    · exact Marks.lt h5 x hx r hr
theorem Marks.below {B : Nat} {w w' : World} {ds : List Deferred} (h : Marks B w ds) (hb : Below w.heap.size w w') : Marks B w' ds :=
  h.keep fun d hd r hr h0 => (hb.block r (h.lt d hd r hr)).trans h0
theorem Marks.more {B : Nat} {w : World} {ds : List Deferred} {D : Nat} (h : Marks B w ds) (hD : B ≤ D) (hd : w.heap[D]? = some (.deferred (some []))) (hn : ∀ d ∈ ds, ∀ r, d.target = .collected r → r < D) (a : Array Value) : Marks B w ({ target := .collected D, args := a } :: ds) :=
  ⟨⟨D, hD, rfl, hd, fun d' hd' e => absurd (hn d' hd' D e) (by omega)⟩, h⟩

/-- What shutting the marks leaves. -/
structure Shut (B : Nat) (w w' : World) : Prop where
  below : Below B w w'
  cells : ∀ (b : Nat) cs t fr, w.heap[b]? = some (.cells cs t fr) → w'.heap[b]? = some (.cells cs t fr)
theorem Shut.refl (B : Nat) (w : World) : Shut B w w := ⟨Below.refl _ _, fun _ _ _ _ h => h⟩
theorem Shut.trans {B : Nat} {w w' w'' : World} (h : Shut B w w') (k : Shut B w' w'') : Shut B w w'' := ⟨h.below.trans k.below, fun b cs t fr e => k.cells b cs t fr (h.cells b cs t fr e)⟩
theorem Shut.blk {B g : Nat} {w w' : World} {t : TypeId} {cs : Array Value} (h : Shut B w w') (b : Blk w g t cs) : Blk w' g t cs := h.cells _ _ _ _ b

theorem shut_put {B r : Nat} {w : World} (hB : B ≤ r) (h : w.heap[r]? = some (.deferred (some []))) : Shut B w (w.putObj r (.deferred none)) := by
  have hlt := (Array.getElem?_eq_some_iff.1 h).1
  refine ⟨(Below.refl B w).grown (grownBy_putObj' w r (.deferred none)) (by omega) (fun k e => by cases e; exact hB), fun b cs t fr e => ?_⟩
  have hne : b ≠ r := by
    intro e'
    subst e'
    rw [h] at e
    cases e
  exact (World.putObj_heap_other hne).trans e

theorem leaves_marks {F : Fence} {n : Nat} {P : Program} {fn : Func} {tmps : Array Value} {R : Ending → World → Prop} {B : Nat} : ∀ (ds : List Deferred) (w : World), Marks B w ds →
    (∀ w', Shut B w w' → LeavesIn F n P fn tmps R [] .returning w') → LeavesInM F n P fn tmps R ds .returning w
  | [], w, _, h => h w (Shut.refl _ _)
  | d :: ds, w, ⟨⟨r, h1, h2, h3, h4⟩, h5⟩, h => by
    refine ⟨by simp, .inl ⟨r, _, h2, run_takeDeferred h3, ?_⟩⟩
    refine leaves_marks ds _ (h5.keep fun d' hd r' hr h0 => ?_) (fun w' hs => h w' ((shut_put h1 h3).trans hs))
    have hne : r' ≠ r := by
      intro e
      subst e
      exact h4 d' hd hr
    exact (World.putObj_heap_other hne).trans h0
end Go.Proofs.YtahkjagjcogeiaaDoor
/- A region that draws its order, inside a fence, in a round or not: a head whose operations leave one value in every world of a class, and a tail that waits for the head: one walk of the lexical order serves. -/
namespace Go.Proofs.YtahkjagjcogeiaaDoor
open Go.RowKit
set_option linter.unusedVariables false

section
variable {F : Fence} {n : Nat} {P : Program} {ops : Array Oper} {md : Region.Mode} {C : World → Prop}

/-- No operation is a defer statement. -/
def noDefer (ops : Array Oper) : Prop := ∀ (i : Nat) o, ops[i]? = some o → ∀ c, o.op ≠ .defer c
def noDeferB (l : List Oper) : Bool := l.all fun o => match o.op with
  | .defer _ => false
  | _ => true
theorem noDefer_of {l : List Oper} (h : noDeferB l = true) : noDefer l.toArray := by
  intro i o ho c hc
  have := List.all_eq_true.1 h o (by simpa using List.mem_of_getElem? (by simpa using ho))
  rw [hc] at this
  cases this

theorem wpIn_of_quiet' {o : Oper} {a : Act} {K : Act → Prop} {K' : Act → World → Prop} {Q' : Exit → Act → World → Prop} {w : World} (hnd : ∀ c, o.op ≠ .defer c) (hw : C w) (h : ∀ a w', C w' → K a → K' a w')
    (ha : o.askedIn F P a C) (hh : o.quietIn F n P a C K) : o.wpIn F n P a w K' Q' := by
  obtain ⟨v, h1, h2⟩ := hh
  have h3 := h1 w hw
  unfold Oper.quietAtIn at h3
  unfold Oper.wpIn
  refine ⟨ha w hw, ?_⟩
  rw [Oper.semAt_eq _ _ _ hnd]
  generalize (execOp a.eval o).run P w = r at *
  cases r with
  | ok x w' =>
    cases x <;> simp only [Oper.quietUponIn] at h3 <;> simp only [Oper.uponIn]
    case value u =>
      obtain ⟨e1, e2⟩ := h3
      rw [e1, e2]
      exact h _ _ hw h2
    case skip =>
      obtain ⟨e1, e2⟩ := h3
      rw [e1, ← e2]
      exact h _ _ hw h2
    case enter f args =>
      obtain ⟨e1, hd, hc⟩ := h3
      rw [e1]
      exact ⟨hd, hc.mono fun e w'' ⟨he, hw''⟩ => by subst he; exact h _ _ hw'' h2⟩
  | halt x w' => simp only [Oper.quietUponIn] at h3

theorem wpOpIn_of_qOpIn' {i : Nat} {a : Act} {K : Act → Prop} {K' : Act → World → Prop} {Q' : Exit → Act → World → Prop} {w : World} (hnd : noDefer ops) (hC : C w) (h : ∀ a w', C w' → K a → K' a w')
    (hh : qOpIn F n P ops C i K a) : wpOpIn F n P ops Q' i K' a w := by
  unfold qOpIn at hh
  unfold wpOpIn
  split
  · rename_i ho; simp only [ho] at hh; exact h _ _ hC hh
  · rename_i o ho
    simp only [ho] at hh
    obtain ⟨ha, hh⟩ := hh
    split
    · rename_i hw; simp only [hw, if_true] at hh; exact wpIn_of_quiet' (hnd i o ho) hC h ha hh
    · rename_i hw; simp only [hw] at hh; exact ⟨ha w hC, h _ _ hC hh⟩

theorem wpAnyIn_of_quiet' {Q : Act → Prop} {Q' : Exit → Act → World → Prop} (hnd : noDefer ops) (hQ : ∀ a w, C w → Q a → Q' .normal a w) : ∀ (fuel : Nat) (listed : Array Bool) (a : Act) (w : World), C w →
    wpAnyQIn F n P md ops C Q fuel listed a → wpAnyIn F n P md ops Q' fuel listed a w
  | 0, _, _, _, hw, h => ⟨h.1, hQ _ _ hw h.2⟩
  | fuel + 1, _, _, _, hw, h => ⟨fun h0 => hQ _ _ hw (h.1 h0), fun i hi => wpOpIn_of_qOpIn' hnd hw (fun a' w' hw' => wpAnyIn_of_quiet' hnd hQ fuel _ a' w' hw') (h.2 i hi)⟩

/-- The head alone: whatever order is picked. -/
def wpHeadIn (F : Fence) (n : Nat) (P : Program) (md : Region.Mode) (ops : Array Oper) (C : World → Prop) (k : Nat) (L : Array Bool → Act → Prop) : Nat → Array Bool → Act → Prop
  | 0, listed, a => L listed a
  | f + 1, listed, a =>
    Region.ready md ops listed ≠ [] ∧ ∀ i ∈ Region.ready md ops listed, i < k ∧ qOpIn F n P ops C i (wpHeadIn F n P md ops C k L f (listed.setIfInBounds i true)) a

theorem wpAnyIn_of_head {k g : Nat} {L : Array Bool → Act → Prop} {Q' : Exit → Act → World → Prop} (hnd : noDefer ops) (hL : ∀ listed a w, C w → L listed a → wpAnyIn F n P md ops Q' g listed a w) :
    ∀ (f : Nat) (listed : Array Bool) (a : Act) (w : World), C w → wpHeadIn F n P md ops C k L f listed a → wpAnyIn F n P md ops Q' (f + g) listed a w
  | 0, listed, a, w, hw, h => by rw [Nat.zero_add]; exact hL _ _ _ hw h
  | f + 1, listed, a, w, hw, h => by
    rw [show f + 1 + g = (f + g) + 1 by omega]
    exact ⟨fun h0 => absurd h0 h.1, fun i hi => wpOpIn_of_qOpIn' hnd hw (fun a' w' hw' h' => wpAnyIn_of_head hnd hL f _ a' w' hw' h') (h.2 i hi).2⟩

theorem wpHeadIn_first {k i : Nat} {oi : Oper} {v : Value} {L : Array Bool → Act → Prop} (hi : ops[i]? = some oi) (hsel : ∀ (j : Nat) (o : Oper) cs b, ops[j]? = some o → o.op ≠ .select cs b)
    (hs : Region.sinkB md ops k = true) (hc : Region.chainB md ops k = true) (hn : k < ops.size) (hin : i < k)
    (hdone : ∀ listed a, L listed a → ∀ j ∈ Region.ready md ops listed, k ≤ j) :
    ∀ (f : Nat) (listed : Array Bool) (a : Act), HeadInv md ops k listed →
      (∀ j oj, ops[j]? = some oj → j ≠ i → listed.getD j true = false → (∀ e ∈ oj.after, Region.binds md e = true → e.on ≠ i) → oi.apart ops oj = true) →
      i ∈ Region.ready md ops listed → YieldsQuiet F n P ops C oi v a →
      wpHeadIn F n P md ops C k L f (listed.setIfInBounds i true) (a.put oi.dst v) → wpHeadIn F n P md ops C k L (f + 1) listed a := by
  intro f
  induction f with
  | zero =>
    intro listed a inv _ hr hy H
    have hun := (mem_ready.1 hr).1
    refine ⟨fun h => (by rw [h] at hr; cases hr), fun j hj => ?_⟩
    have hjn : j < k := by
      rcases Nat.lt_or_ge j k with h | h
      · exact h
      · exact absurd hj (tail_waits hs hc hn inv _ i rfl hin hun j h)
    refine ⟨hjn, ?_⟩
    by_cases hji : j = i
    · subst hji; exact hy.qOpIn hi H
    · have := hdone _ _ H j (ready_mono hj hji)
      omega
  | succ f ih =>
    intro listed a inv hfree hr hy H
    have hun := (mem_ready.1 hr).1
    refine ⟨fun h => (by rw [h] at hr; cases hr), fun j hj => ?_⟩
    have hjn : j < k := by
      rcases Nat.lt_or_ge j k with h | h
      · exact h
      · exact absurd hj (tail_waits hs hc hn inv _ i rfl hin hun j h)
    refine ⟨hjn, ?_⟩
    by_cases hji : j = i
    · subst hji; exact hy.qOpIn hi H
    · have h1 := (H.2 j (ready_mono hj hji)).2
      obtain ⟨hjun, oj, hoj, hall⟩ := mem_ready.1 hj
      have hnot : ∀ e ∈ oj.after, Region.binds md e = true → e.on ≠ i := fun e he hb heq => by
        have h1 := hall e he hb
        rw [heq, getD_both hun] at h1
        cases h1
      have h2 := qOpIn_put hoj (hfree j oj hoj hji hjun hnot) (fun cs b => hsel i oi cs b hi) (fun cs b => hsel j oj cs b hoj) hy h1
      have hfree' : ∀ k ok, ops[k]? = some ok → k ≠ i → (listed.setIfInBounds j true).getD k true = false →
          (∀ e ∈ ok.after, Region.binds md e = true → e.on ≠ i) → oi.apart ops ok = true := fun k ok hk hki hun hno => by
        refine hfree k ok hk hki ?_ hno
        by_cases hjk : j = k
        · subst hjk; exact hjun
        · rw [getD_set_ne true hjk] at hun; exact hun
      refine qOpIn_mono (fun a' h3 => ih (listed.setIfInBounds j true) a' (inv.set hj hjn) hfree' (ready_mono hr (Ne.symm hji)) h3.1 ?_) h2
      rw [Array.setIfInBounds_comm _ _ hji]
      exact h3.2

theorem wpAnyIn_of_seq {Q' : Exit → Act → World → Prop} : ∀ (l : List Oper) (k : Nat) (listed : Array Bool) (a : Act) (w : World), (∀ j, l[j]? = ops[k + j]?) →
    Region.seqB md ops l.length k listed = true → wpListIn F n P ops Q' l a w → wpAnyIn F n P md ops Q' l.length listed a w
  | [], _, _, _, _, _, hB, h => ⟨by simpa [Region.seqB] using hB, h⟩
  | o :: l, k, listed, a, w, hl, hB, h => by
    have h0 : ops[k]? = some o := by simpa using (hl 0).symm
    simp only [List.length_cons, Region.seqB, Bool.and_eq_true, decide_eq_true_eq] at hB
    refine ⟨fun h1 => (by rw [hB.1] at h1; cases h1), fun i hi => ?_⟩
    rw [hB.1] at hi
    have hik : i = k := by simpa using hi
    subst hik
    have hw : wpOpIn F n P ops Q' i (wpListIn F n P ops Q' l) a w := by unfold wpOpIn; simp only [h0]; exact h
    exact wpOpIn_mono (fun a' w' h' => wpAnyIn_of_seq l (i + 1) _ a' w' (fun j => by have := hl (j + 1); simpa [Nat.add_assoc, Nat.add_comm 1 j] using this) hB.2 h') hw

theorem wpHeadIn_lex {k g : Nat} {Lq : Act → Prop} (hsel : Region.noSelect ops = true) (hs : Region.sinkB md ops k = true) (hc : Region.chainB md ops k = true) (hn : k < ops.size) :
    ∀ (l : List Oper) (i : Nat) (listed : Array Bool) (a : Act), (∀ j, j < l.length → l[j]? = ops[i + j]?) → i + l.length = k → HeadInv md ops k listed →
    Region.lexHead md ops g l.length i listed = true → wpQuietIn F n P ops C Lq l a →
    wpHeadIn F n P md ops C k (fun listed' a' => Region.seqB md ops g k listed' = true ∧ Lq a') l.length listed a
  | [], i, listed, a, _, hk, _, hB, h => by
    have : i = k := by simpa using hk
    subst this
    exact ⟨by simpa [Region.lexHead] using hB, h⟩
  | o :: l, i, listed, a, hl, hk, inv, hB, h => by
    have h0 : ops[i]? = some o := by simpa using (hl 0 (by simp)).symm
    simp only [List.length_cons, Region.lexHead, Bool.and_eq_true] at hB
    obtain ⟨⟨hr, hf⟩, hB'⟩ := hB
    have hkn : i < k := by simp only [List.length_cons] at hk; omega
    have hr' : i ∈ Region.ready md ops listed := by simpa using hr
    have hst : qOpIn F n P ops C i (wpQuietIn F n P ops C Lq l) a := by unfold qOpIn; simp only [h0]; exact h
    obtain ⟨v, hy, hK⟩ := yieldsQuiet_of_qOpIn h0 hst
    exact wpHeadIn_first h0 (Region.noSelect_spec hsel) hs hc hn hkn (fun listed' a' hL => seqB_ready hL.1) l.length listed a inv (Region.free_spec h0 hf) hr' hy
      (wpHeadIn_lex hsel hs hc hn l (i + 1) _ _ (fun j hj => by have := hl (j + 1) (by simp; omega); simpa [Nat.add_assoc, Nat.add_comm 1 j] using this) (by simp only [List.length_cons] at hk; omega) (inv.set hr' hkn) hB' hK)

/-- THE LAW: a head of k operations, quiet in the class C; then a tail. -/
theorem wpIn_region_tail {id : Nat} {Q : Exit → Act → World → Prop} {a : Act} {w : World} {l : List Oper} (C : World → Prop) (k : Nat) (hm : P.follows .mixedOrders = true) (hnd : noDeferB l = true) (hB : Region.lexTailB .any l.toArray k = true) (hC : C w.drew)
    (h : wpQuietIn F n P l.toArray C (fun a' => ∀ w', C w' → wpListIn F n P l.toArray Q (l.drop k) a' w') (l.take k) a) : (Code.region id l.toArray true).wpIn F n P Q a w := by
  simp only [Region.lexTailB, Bool.and_eq_true, decide_eq_true_eq] at hB
  obtain ⟨⟨⟨⟨hsel, hn⟩, hs⟩, hc⟩, hlex⟩ := hB
  have hn' : k < l.length := by simpa using hn
  have htl : (l.take k).length = k := by simp; omega
  have hdl : (l.drop k).length = l.toArray.size - k := by simp
  have inv0 : HeadInv .any l.toArray k (Array.replicate l.toArray.size false) :=
    ⟨by simp, fun j oj _ hl => (by rw [getD_replicate_false] at hl; cases hl), fun t _ ht => getD_in (by simpa using ht) (getD_replicate_false _ _)⟩
  have H := wpHeadIn_lex (F := F) (n := n) (P := P) (C := C) (md := .any) (g := l.toArray.size - k) hsel hs hc hn (l.take k) 0 _ a (fun j hj => by
    have hj' : j < k := by rw [htl] at hj; exact hj
    simp [hj']) (by simpa using htl) inv0 (by rw [htl]; exact hlex) h
  refine wpIn_region_any hm ?_
  have := wpAnyIn_of_head (Q' := Q) (g := l.toArray.size - k) (noDefer_of hnd) (fun listed a' w' hw' hL => by
    have := wpAnyIn_of_seq (md := .any) (Q' := Q) (l.drop k) k listed a' w' (fun j => by simp [List.getElem?_drop]) (by rw [hdl]; exact hL.1) (hL.2 w' hw')
    rwa [hdl] at this) _ _ _ w.drew hC H
  rw [htl, show k + (l.toArray.size - k) = l.toArray.size by omega] at this
  exact this

/-- THE LAW: all operations quiet in the class C. -/
theorem wpIn_region_class {id : Nat} {Q : Exit → Act → World → Prop} {a : Act} {w : World} {l : List Oper} (C : World → Prop) (hm : P.follows .mixedOrders = true) (hnd : noDeferB l = true) (hB : Region.lexB .any l.toArray = true) (hC : C w.drew)
    (h : wpQuietIn F n P l.toArray C (fun a' => ∀ w', C w' → Q .normal a' w') l a) : (Code.region id l.toArray true).wpIn F n P Q a w := by
  simp only [Region.lexB, Bool.and_eq_true] at hB
  refine wpIn_region_any hm (wpAnyIn_of_quiet' (Q := fun a' => ∀ w', C w' → Q .normal a' w') (noDefer_of hnd) (fun _ w' hw' h => h w' hw') _ _ _ _ hC ?_)
  have := wpAnyQIn_lex (F := F) (n := n) (P := P) (C := C) (md := .any) hB.1 l 0 (Array.replicate l.toArray.size false) a (by simp) (by simpa using hB.2) h
  simpa using this
end

/-- Worlds of a class, as letters: what is known of each is a rule of the walk. -/
abbrev Cls {σ : Type} (of : σ → World) : World → Prop := fun W => ∃ z : σ, W = of z
theorem cls_open {C : World → Prop} {w : World} (h : C w) {goal : Prop} (k : ∀ (σ : Type) (_ : Nonempty σ) (of : σ → World), (∀ z, C (of z)) → (∀ W, C W → Cls of W) → goal) : goal :=
  k { W : World // C W } ⟨⟨w, h⟩⟩ (fun z => z.1) (fun z => z.2) (fun W hW => ⟨⟨W, hW⟩, rfl⟩)
end Go.Proofs.YtahkjagjcogeiaaDoor
/- What a loop over a function turns by itself: an invariant on cells, and on what lay ahead of the loop, abides it. -/
namespace Go.Proofs.YtahkjagjcogeiaaDoor
open Go.RowKit Go.Shelf
set_option linter.unusedVariables false

theorem shut_of_grown {B : Nat} {W W' : World} {row : Option Nat} (hg : W.grownBy W' row) (hr : ∀ r, row = some r → B ≤ r ∧ ∃ o : Obj, W.heap[r]? = some o ∧ o.isCells = false) (hB : B ≤ W.heap.size) : Shut B W W' := by
  refine ⟨(Below.refl B W).grown hg hB (fun k e => (hr k e).1), fun b cs t fr h => ?_⟩
  have hlt := (Array.getElem?_eq_some_iff.1 h).1
  refine (hg.block b hlt ?_).trans h
  intro e
  obtain ⟨_, o, ho, hc⟩ := hr b e.symm
  rw [h] at ho
  cases ho
  simp [Obj.isCells] at hc
theorem ownFrom_shut {β : Type} {B : Nat} {I : β → World → Prop} (hB : ∀ s W, I s W → B ≤ W.heap.size) (h : ∀ s W W', I s W → Shut B W W' → I s W') : OwnFrom B I :=
  fun s W W' row hs hg hr => h s W W' hs (shut_of_grown hg hr (hB s W hs))
theorem abides_shut {β : Type} {B : Nat} {I : β → World → Prop} (hB : ∀ s W, I s W → B ≤ W.heap.size) (h : ∀ s W W', I s W → Shut B W W' → I s W') : AbidesFrom B I :=
  fun s W W' row hs hg hr => h s W W' hs (shut_of_grown hg (fun r e => by obtain ⟨h1, o, h2, h3⟩ := hr r e; exact ⟨h1, o, h2, Obj.not_cells_of_walk h3⟩) (hB s W hs))
theorem Shut.mono {B B' : Nat} {W W' : World} (h : Shut B W W') (hB : B' ≤ B) : Shut B' W W' := ⟨h.below.mono hB, h.cells⟩
/-- The marks lie ahead of the loop. -/
theorem Marks.shut {B S : Nat} {W W' : World} {ds : List Deferred} (h : Marks B W ds) (hs : Shut S W W') (hlt : ∀ d ∈ ds, ∀ r, d.target = .collected r → r < S) : Marks B W' ds :=
  h.keep fun d hd r hr h0 => (hs.below.block r (hlt d hd r hr)).trans h0
theorem keepsFrom_below {B : Nat} {W W' : World} (h : Below W.heap.size W W') : KeepsFrom B W W' :=
  ⟨h.size, fun k o _ hk _ => (h.block k (Array.getElem?_eq_some_iff.1 hk).1).trans hk⟩
theorem keepsFrom_setCell (B : Nat) (W : World) (p : Addr) (v : Value) : KeepsFrom B W (W.setCell p v) := (KeepsOthers.setCell W p v).from B
end Go.Proofs.YtahkjagjcogeiaaDoor
/- climb.chart.walked: a list of links followed. -/
namespace Go.Proofs.YtahkjagjcogeiaaDoor
open Go.RowKit Go.Shelf
attribute [local go_sem] Oper.semAt_some
set_option linter.unusedVariables false

theorem fromK_t {n₀ g1 g2 : Nat} {A B C : World} (h : FromK n₀ g1 g2 A B) (k : FromK n₀ g1 g2 B C) : FromK n₀ g1 g2 A C := ⟨h.1.trans k.1, k.2.1.trans h.2.1, k.2.2.trans h.2.2⟩
theorem fromK_b {n₀ g1 g2 : Nat} {w : World} (h1 : g1 < w.heap.size) (h2 : g2 < w.heap.size) (h0 : n₀ ≤ w.heap.size) (W : World) (l : Nat) (o o' : Obj) (hl : w.heap.size ≤ l) (h : W.heap[l]? = some o) (hc : o.isCells = false) (hw : o.isWalk = false) : FromK n₀ g1 g2 W (W.putObj l o') :=
  ⟨belowK_b h0 W l o o' hl h hc hw, World.putObj_heap_other (by omega), World.putObj_heap_other (by omega)⟩
theorem fromK_below {n₀ g1 g2 : Nat} {W W' : World} (hb : Below W.heap.size W W') (h1 : g1 < W.heap.size) (h2 : g2 < W.heap.size) (h0 : n₀ ≤ W.heap.size) : FromK n₀ g1 g2 W W' := ⟨hb.mono h0, hb.block _ h1, hb.block _ h2⟩

/-- What comes out of a place by a link of an Id. -/
theorem stepF_none {t : Town} {p : Price} {u i : Int} (h : ∀ y ∈ outs false p u t.links, y.1.id ≠ i) : stepF t p u i = none := by
  unfold stepF
  rw [List.findSome?_eq_none_iff]
  intro x hx
  by_cases e : x.id = i
  · rw [if_pos e]
    cases hl : leads false p x u with
    | none => rfl
    | some r => exact absurd e (h (x, r.1, r.2) (by unfold outs; rw [List.mem_filterMap]; exact ⟨x, hx, by rw [hl]; rfl⟩))
  · rw [if_neg e]
theorem outs_leads {dk : Bool} {p : Price} {u : Int} {l : List Link} {y : Link × Int × Cost} (h : y ∈ outs dk p u l) : y.1 ∈ l ∧ leads dk p y.1 u = some (y.2.1, y.2.2) := by
  unfold outs at h
  rw [List.mem_filterMap] at h
  obtain ⟨x, hx, h1⟩ := h
  cases hl : leads dk p x u with
  | none => rw [hl] at h1; cases h1
  | some r => rw [hl] at h1; cases h1; exact ⟨hx, hl⟩

/-- At work: so many links are over. -/
structure WalkSt (w : World) (T : Array Value) (t : Town) (p : Price) (place : Int) (l : List Int) (k : Nat) (at_ : Int) (co : Cost) (W : World) : Prop where
  bel : Below w.heap.size w W
  ch : Blk W w.heap.size 115 T
  rs : Blk W (w.heap.size + 1) 111 #[.int .i64 0, .int .i64 0, .int .i64 0, .int .i64 0, .int .i64 0, .slice none 0 0]
  wk : Blk W (w.heap.size + 1 + 1) 111 #[.int .i64 at_, .int .i64 co.a, .int .i64 co.b, .int .i64 co.c, .int .i64 co.d, .slice none 0 0]
theorem WalkSt.below {w W W' : World} {T : Array Value} {t : Town} {p : Price} {place : Int} {l : List Int} {k : Nat} {at_ : Int} {co : Cost} (h : WalkSt w T t p place l k at_ co W) (hb : Below W.heap.size W W') : WalkSt w T t p place l k at_ co W' :=
  ⟨h.bel.trans (hb.mono h.bel.size), h.ch.below hb h.ch.lt, h.rs.below hb h.rs.lt, h.wk.below hb h.wk.lt⟩
theorem WalkSt.shut {w W W' : World} {S : Nat} {T : Array Value} {t : Town} {p : Price} {place : Int} {l : List Int} {k : Nat} {at_ : Int} {co : Cost} (h : WalkSt w T t p place l k at_ co W) (hs : Shut S W W') (hS : w.heap.size ≤ S) : WalkSt w T t p place l k at_ co W' :=
  ⟨h.bel.trans (hs.below.mono hS), hs.blk h.ch, hs.blk h.rs, hs.blk h.wk⟩


theorem Marks.setCell {B : Nat} {W : World} {ds : List Deferred} (h : Marks B W ds) {g : Nat} {t : TypeId} {cs : Array Value} (hb : Blk W g t cs) (i : Nat) (v : Value) : Marks B (W.setCell ⟨g, i, none⟩ v) ds :=
  h.keep fun d hd r hr h0 => (Below.heap_setCell W ⟨g, i, none⟩ v r (by
    intro e
    have e' : r = g := e
    subst e'
    unfold Blk at hb
    rw [hb] at h0
    cases h0)).trans h0

/-- What walked hands back. -/
def WalkedOut (w : World) (r : Option (Int × Cost)) (e : Ending) (w' : World) : Prop :=
  ∃ (x : Int) (co : Cost), e = .returned (.tuple #[.agg #[.int .i64 x, .int .i64 co.a, .int .i64 co.b, .int .i64 co.c, .int .i64 co.d, .slice none 0 0], .bool r.isSome]) ∧ (∀ q, r = some q → q = (x, co)) ∧ Below w.heap.size w w'

/-- Within a round of the list. -/
structure WalkIn (w : World) (T : Array Value) (t : Town) (p : Price) (place : Int) (l : List Int) (k : Nat) (at_ : Int) (co : Cost) (id : Int) (ds : List Deferred) (B10 : Nat) (found : Bool) (S : Nat) (W : World) : Prop where
  st : WalkSt w T t p place l k at_ co W
  b10 : Blk W B10 3 #[.int .i64 id]
  b11 : Blk W (B10 + 1) 4 #[.bool found]
  marks : Marks w.heap.size W ds
  sz : S ≤ W.heap.size
section
variable {w W W' : World} {T : Array Value} {t : Town} {p : Price} {place : Int} {l : List Int} {k : Nat} {at_ : Int} {co : Cost} {id : Int} {ds : List Deferred} {B10 : Nat} {found : Bool} {S : Nat}
theorem WalkIn.below (h : WalkIn w T t p place l k at_ co id ds B10 found S W) (hb : Below W.heap.size W W') : WalkIn w T t p place l k at_ co id ds B10 found S W' :=
  ⟨h.st.below hb, h.b10.below hb h.b10.lt, h.b11.below hb h.b11.lt, h.marks.below hb, Nat.le_trans h.sz hb.size⟩
theorem WalkIn.shut (h : WalkIn w T t p place l k at_ co id ds B10 found S W) (hs : Shut S W W') (hS : w.heap.size ≤ S) (hd : ∀ d ∈ ds, ∀ r, d.target = .collected r → r < S) : WalkIn w T t p place l k at_ co id ds B10 found S W' :=
  ⟨h.st.shut hs hS, hs.blk h.b10, hs.blk h.b11, h.marks.shut hs hd, Nat.le_trans h.sz hs.below.size⟩
/-- Another place and cost laid down. -/
theorem WalkSt.put (h : WalkSt w T t p place l k at_ co W) (v : Int) (c : Cost) : WalkSt w T t p place l k v c (((((W.setCell ⟨w.heap.size + 1 + 1, 0, none⟩ (.int .i64 v)).setCell ⟨w.heap.size + 1 + 1, 1, none⟩ (.int .i64 c.a)).setCell ⟨w.heap.size + 1 + 1, 2, none⟩ (.int .i64 c.b)).setCell ⟨w.heap.size + 1 + 1, 3, none⟩ (.int .i64 c.c)).setCell ⟨w.heap.size + 1 + 1, 4, none⟩ (.int .i64 c.d)) := by
  have f : ∀ {g : Nat} {ty : TypeId} {cs : Array Value}, Blk W g ty cs → g ≠ w.heap.size + 1 + 1 → Blk (((((W.setCell ⟨w.heap.size + 1 + 1, 0, none⟩ (.int .i64 v)).setCell ⟨w.heap.size + 1 + 1, 1, none⟩ (.int .i64 c.a)).setCell ⟨w.heap.size + 1 + 1, 2, none⟩ (.int .i64 c.b)).setCell ⟨w.heap.size + 1 + 1, 3, none⟩ (.int .i64 c.c)).setCell ⟨w.heap.size + 1 + 1, 4, none⟩ (.int .i64 c.d)) g ty cs :=
    fun b hne => ((((b.far (p := ⟨w.heap.size + 1 + 1, 0, none⟩) hne _).far (p := ⟨w.heap.size + 1 + 1, 1, none⟩) hne _).far (p := ⟨w.heap.size + 1 + 1, 2, none⟩) hne _).far (p := ⟨w.heap.size + 1 + 1, 3, none⟩) hne _).far (p := ⟨w.heap.size + 1 + 1, 4, none⟩) hne _
  exact ⟨((((h.bel.setCell (p := ⟨w.heap.size + 1 + 1, 0, none⟩) (by simp; omega) _).setCell (p := ⟨w.heap.size + 1 + 1, 1, none⟩) (by simp; omega) _).setCell (p := ⟨w.heap.size + 1 + 1, 2, none⟩) (by simp; omega) _).setCell (p := ⟨w.heap.size + 1 + 1, 3, none⟩) (by simp; omega) _).setCell (p := ⟨w.heap.size + 1 + 1, 4, none⟩) (by simp; omega) _,
    f h.ch (by omega), f h.rs (by omega), ((((h.wk.set_ 0 _).set_ 1 _).set_ 2 _).set_ 3 _).set_ 4 _⟩
theorem WalkIn.put (h : WalkIn w T t p place l k at_ co id ds B10 found S W) (hB : w.heap.size + 1 + 1 < B10) (v : Int) (c : Cost) : WalkIn w T t p place l k v c id ds B10 true S ((((((W.setCell ⟨w.heap.size + 1 + 1, 0, none⟩ (.int .i64 v)).setCell ⟨w.heap.size + 1 + 1, 1, none⟩ (.int .i64 c.a)).setCell ⟨w.heap.size + 1 + 1, 2, none⟩ (.int .i64 c.b)).setCell ⟨w.heap.size + 1 + 1, 3, none⟩ (.int .i64 c.c)).setCell ⟨w.heap.size + 1 + 1, 4, none⟩ (.int .i64 c.d)).setCell ⟨B10 + 1, 0, none⟩ (.bool true)) ∧ KeepsFrom S W ((((((W.setCell ⟨w.heap.size + 1 + 1, 0, none⟩ (.int .i64 v)).setCell ⟨w.heap.size + 1 + 1, 1, none⟩ (.int .i64 c.a)).setCell ⟨w.heap.size + 1 + 1, 2, none⟩ (.int .i64 c.b)).setCell ⟨w.heap.size + 1 + 1, 3, none⟩ (.int .i64 c.c)).setCell ⟨w.heap.size + 1 + 1, 4, none⟩ (.int .i64 c.d)).setCell ⟨B10 + 1, 0, none⟩ (.bool true)) := by
  have s5 := h.st.put v c
  have f : ∀ {g : Nat} {ty : TypeId} {cs : Array Value}, Blk W g ty cs → g ≠ w.heap.size + 1 + 1 → Blk (((((W.setCell ⟨w.heap.size + 1 + 1, 0, none⟩ (.int .i64 v)).setCell ⟨w.heap.size + 1 + 1, 1, none⟩ (.int .i64 c.a)).setCell ⟨w.heap.size + 1 + 1, 2, none⟩ (.int .i64 c.b)).setCell ⟨w.heap.size + 1 + 1, 3, none⟩ (.int .i64 c.c)).setCell ⟨w.heap.size + 1 + 1, 4, none⟩ (.int .i64 c.d)) g ty cs :=
    fun b hne => ((((b.far (p := ⟨w.heap.size + 1 + 1, 0, none⟩) hne _).far (p := ⟨w.heap.size + 1 + 1, 1, none⟩) hne _).far (p := ⟨w.heap.size + 1 + 1, 2, none⟩) hne _).far (p := ⟨w.heap.size + 1 + 1, 3, none⟩) hne _).far (p := ⟨w.heap.size + 1 + 1, 4, none⟩) hne _
  have b0 := f h.b10 (by omega)
  have b1 := f h.b11 (by omega)
  have far : ∀ {g : Nat} {ty : TypeId} {cs : Array Value}, Blk (((((W.setCell ⟨w.heap.size + 1 + 1, 0, none⟩ (.int .i64 v)).setCell ⟨w.heap.size + 1 + 1, 1, none⟩ (.int .i64 c.a)).setCell ⟨w.heap.size + 1 + 1, 2, none⟩ (.int .i64 c.b)).setCell ⟨w.heap.size + 1 + 1, 3, none⟩ (.int .i64 c.c)).setCell ⟨w.heap.size + 1 + 1, 4, none⟩ (.int .i64 c.d)) g ty cs → g ≠ B10 + 1 → Blk ((((((W.setCell ⟨w.heap.size + 1 + 1, 0, none⟩ (.int .i64 v)).setCell ⟨w.heap.size + 1 + 1, 1, none⟩ (.int .i64 c.a)).setCell ⟨w.heap.size + 1 + 1, 2, none⟩ (.int .i64 c.b)).setCell ⟨w.heap.size + 1 + 1, 3, none⟩ (.int .i64 c.c)).setCell ⟨w.heap.size + 1 + 1, 4, none⟩ (.int .i64 c.d)).setCell ⟨B10 + 1, 0, none⟩ (.bool true)) g ty cs := fun b hne => b.far (p := ⟨B10 + 1, 0, none⟩) hne _
  have W1 := h.st.wk.set_ 0 (.int .i64 v)
  have W2 := W1.set_ 1 (.int .i64 c.a)
  have W3 := W2.set_ 2 (.int .i64 c.b)
  have W4 := W3.set_ 3 (.int .i64 c.c)
  have m5 := ((((h.marks.setCell h.st.wk 0 (.int .i64 v)).setCell W1 1 (.int .i64 c.a)).setCell W2 2 (.int .i64 c.b)).setCell W3 3 (.int .i64 c.c)).setCell W4 4 (.int .i64 c.d)
  refine ⟨⟨⟨s5.bel.setCell (p := ⟨B10 + 1, 0, none⟩) (by simp; omega) _, far s5.ch (by omega), far s5.rs (by omega), far s5.wk (by omega)⟩, far b0 (by omega), b1.set_ 0 _, m5.setCell b1 0 _, ?_⟩, ?_⟩
  · have := h.sz
    simpa [World.setCell] using this
  · exact (((((keepsFrom_setCell S W _ _).trans (keepsFrom_setCell S _ _ _)).trans (keepsFrom_setCell S _ _ _)).trans (keepsFrom_setCell S _ _ _)).trans (keepsFrom_setCell S _ _ _)).trans (keepsFrom_setCell S _ _ _)
theorem Small.walk (h : Walk t false p place at_ co l) (ht : Fine t) (hp : Fair p) (hl : l.length ≤ 40) : Small co := by
  have := h.bound ht hp
  exact ⟨by omega, by omega, by omega, by omega⟩
end

/-- A block of six cells written anew. -/
theorem ret6 {w W : World} {B g : Nat} {t : TypeId} {ds : List Deferred} {z0 z1 z2 z3 z4 z5 : Value} (R : Blk W g t #[z0, z1, z2, z3, z4, z5]) (M : Marks B W ds) (L : Below B w W) (hg : B ≤ g) (v0 v1 v2 v3 v4 v5 : Value) :
    Blk ((((((W.setCell ⟨g, 0, none⟩ v0).setCell ⟨g, 1, none⟩ v1).setCell ⟨g, 2, none⟩ v2).setCell ⟨g, 3, none⟩ v3).setCell ⟨g, 4, none⟩ v4).setCell ⟨g, 5, none⟩ v5) g t #[v0, v1, v2, v3, v4, v5] ∧
    Marks B ((((((W.setCell ⟨g, 0, none⟩ v0).setCell ⟨g, 1, none⟩ v1).setCell ⟨g, 2, none⟩ v2).setCell ⟨g, 3, none⟩ v3).setCell ⟨g, 4, none⟩ v4).setCell ⟨g, 5, none⟩ v5) ds ∧
    Below B w ((((((W.setCell ⟨g, 0, none⟩ v0).setCell ⟨g, 1, none⟩ v1).setCell ⟨g, 2, none⟩ v2).setCell ⟨g, 3, none⟩ v3).setCell ⟨g, 4, none⟩ v4).setCell ⟨g, 5, none⟩ v5) := by
  have R1 := R.set_ 0 v0
  have R2 := R1.set_ 1 v1
  have R3 := R2.set_ 2 v2
  have R4 := R3.set_ 3 v3
  have R5 := R4.set_ 4 v4
  exact ⟨R5.set_ 5 v5, (((((M.setCell R 0 v0).setCell R1 1 v1).setCell R2 2 v2).setCell R3 3 v3).setCell R4 4 v4).setCell R5 5 v5,
    (((((L.setCell (p := ⟨g, 0, none⟩) hg _).setCell (p := ⟨g, 1, none⟩) hg _).setCell (p := ⟨g, 2, none⟩) hg _).setCell (p := ⟨g, 3, none⟩) hg _).setCell (p := ⟨g, 4, none⟩) hg _).setCell (p := ⟨g, 5, none⟩) hg _⟩
theorem drop_at {α : Type} {l : List α} {k : Nat} {x : α} (h : l[k]? = some x) : l.drop k = x :: l.drop (k + 1) := by
  obtain ⟨hk, e⟩ := List.getElem?_eq_some_iff.1 h
  rw [List.drop_eq_getElem_cons hk, e]
theorem plus_cls {W : World} {l' n : Nat} (x y : Cost) (hx : Small x) (hy : Small y) {σ : Type} {of : σ → World} (h1 : ∀ z, Below W.heap.size W (of z)) (h2 : ∀ V, Below W.heap.size W V → Cls of V) (z : σ) :
    CallsIn (Fence.wide.inRound l') n Tryd.prog 118 #[.agg #[.int .i64 x.a, .int .i64 x.b, .int .i64 x.c, .int .i64 x.d], .agg #[.int .i64 y.a, .int .i64 y.b, .int .i64 y.c, .int .i64 y.d]] (of z) fun e w'' => e = .returned (.agg #[.int .i64 (addC x y).a, .int .i64 (addC x y).b, .int .i64 (addC x y).c, .int .i64 (addC x y).d]) ∧ Cls of w'' :=
  (CallsIn.inRound l' (callsIn_wide.2 (plus_any x y (of z) hx hy))).mono fun e w'' ⟨he, hb⟩ => ⟨he, h2 _ ((h1 z).trans (hb.mono (h1 z).size))⟩
theorem Small.leads {t : Town} {p : Price} {u v : Int} {x : Link} {c : Cost} (hx : x ∈ t.links) (ht : Fine t) (hp : Fair p) (h : leads false p x u = some (v, c)) : Small c := by
  have := leads_cost hx ht hp h
  exact ⟨by omega, by omega, by omega, by omega⟩

set_option maxRecDepth 100000 in
set_option maxHeartbeats 16000000 in
theorem walked_in (A : Option Addr) (nn c : Nat) (A' : Option Addr) (m d : Nat) (F : FuncId) (C : Array Value) (p : Price) (t : Town) (place : Int) (A2 : Option Addr) (k2 c2 : Nat) (l : List Int) (w : World)
    (hm : m ≤ 20) (hk2 : k2 ≤ 40) (ht : LinksAt w w.heap.size A' m t.links) (hp : PriceAt w p F C) (hfine : Fine t) (hfair : Fair p) (hr : IntsAt w w.heap.size A2 k2 l) :
    CallsIn Fence.wide 9 Tryd.prog 89 #[.agg #[.slice A nn c, .slice A' m d, .bool false, .func (.func F) #[] C], .int .i64 place, .slice A2 k2 c2] w (WalkedOut w (walkS t p (place, zeroC) l)) := by
  have HT := Lib.hid ht
  have HP := Lib.hid hp
  have HR := Lib.hid hr
  have HLl := Lib.hid hr.len
  have HFI := Lib.hid hfine
  have HFA := Lib.hid hfair
  have HF : Hid (∀ x ∈ t.links, Fit x) := Lib.hid fun x hx => ⟨hfine.steps x hx, hfine.paces x hx⟩
  have h40 : decide ((40 : Int) < (k2 : Int)) = false := by simp; omega
  clear ht hp hr hfine hfair
  refine callsIn_of_wp_marks Tryd.func89 rfl trivial ?_ rfl
  simp only [Tryd.ntmps89, List.size_toArray, List.length_cons, List.length_nil, Nat.reduceAdd, Nat.reduceSub, Array.replicate_succ, Array.replicate_zero, List.push_toArray, List.append_toArray, List.nil_append, List.cons_append]
  gi_wp2
  have S0 : WalkSt w #[.slice A nn c, .slice A' m d, .bool false, .func (.func F) #[] C] t p place l 0 place zeroC (((w.alloc (.cells #[.slice A nn c, .slice A' m d, .bool false, .func (.func F) #[] C] 115)).alloc (.cells #[.int .i64 0, .int .i64 0, .int .i64 0, .int .i64 0, .int .i64 0, .slice none 0 0] 111)).alloc (.cells #[.int .i64 place, .int .i64 0, .int .i64 0, .int .i64 0, .int .i64 0, .slice none 0 0] 111)) := by
    have Y := (Blk.new (w.alloc (.cells #[.slice A nn c, .slice A' m d, .bool false, .func (.func F) #[] C] 115)) 111 #[.int .i64 0, .int .i64 0, .int .i64 0, .int .i64 0, .int .i64 0, .slice none 0 0]).alloc (.cells #[.int .i64 place, .int .i64 0, .int .i64 0, .int .i64 0, .int .i64 0, .slice none 0 0] 111)
    have Z := Blk.new ((w.alloc (.cells #[.slice A nn c, .slice A' m d, .bool false, .func (.func F) #[] C] 115)).alloc (.cells #[.int .i64 0, .int .i64 0, .int .i64 0, .int .i64 0, .int .i64 0, .slice none 0 0] 111)) 111 #[.int .i64 place, .int .i64 0, .int .i64 0, .int .i64 0, .int .i64 0, .slice none 0 0]
    rw [World.size_alloc] at Y
    rw [World.size_alloc, World.size_alloc] at Z
    exact ⟨(((Below.refl _ _).alloc (Nat.le_refl _) _).alloc (by simp) _).alloc (by simp; omega) _, ((Blk.new w _ _).alloc _).alloc _, Y, Z⟩
  generalize (((w.alloc (.cells #[.slice A nn c, .slice A' m d, .bool false, .func (.func F) #[] C] 115)).alloc (.cells #[.int .i64 0, .int .i64 0, .int .i64 0, .int .i64 0, .int .i64 0, .slice none 0 0] 111)).alloc (.cells #[.int .i64 place, .int .i64 0, .int .i64 0, .int .i64 0, .int .i64 0, .slice none 0 0] 111)) = w0 at *
  have S0' := Lib.hid S0
  clear S0
  refine wpIn_loop (fun a W => ∃ (k : Nat) (at_ : Int) (co : Cost) (ds : List Deferred) (u10 u11 u23 u24 u25 u26 u27 u28 u29 u45 u46 u47 u48 u49 : Value), k ≤ k2 ∧ Hid (WalkSt w #[.slice A nn c, .slice A' m d, .bool false, .func (.func F) #[] C] t p place l k at_ co W ∧ Marks w.heap.size W ds ∧ Walk t false p place at_ co (l.take k) ∧ walkS t p (at_, co) (l.drop k) = walkS t p (place, zeroC) l) ∧
      a = { tmps := #[.agg #[.slice A nn c, .slice A' m d, .bool false, .func (.func F) #[] C], .int .i64 place, .slice A2 k2 c2, .pointer (some ⟨w.heap.size, 0, none⟩), undef, undef, .pointer (some ⟨w.heap.size + 1, 0, none⟩), .bool false, .pointer (some ⟨w.heap.size + 1 + 1, 0, none⟩), undef, u10, u11, undef, undef, .int .i64 place, .agg #[.int .i64 place, .int .i64 0, .int .i64 0, .int .i64 0, .int .i64 0, .slice none 0 0], .slice A2 k2 c2, .int .i64 k2, .bool false, undef, .slice A2 k2 c2, .int .i64 k2, .int .i64 k, u23, u24, u25, u26, u27, u28, u29, undef, undef, undef, undef, undef, undef, undef, undef, undef, undef, undef, undef, undef, undef, undef, u45, u46, u47, u48, u49], defers := ds })
    (fun a _ => k2 - (intOf (a.tmps.getD 22 undef)).toNat) ?_ ?_
  · refine ⟨0, place, zeroC, [], undef, undef, undef, undef, undef, undef, undef, undef, undef, undef, undef, undef, undef, undef, Nat.zero_le _, Lib.hid ⟨S0'.out, trivial, .nil _, rfl⟩, ?_⟩
    rfl
  · rintro a W ⟨k, at_, co, ds, u10, u11, u23, u24, u25, u26, u27, u28, u29, u45, u46, u47, u48, u49, hk, HS, rfl⟩
    have X := HS.out.1.wk
    have R := HS.out.1.rs
    have x0 := X.cell 0
    have x1 := X.cell 1
    have x2 := X.cell 2
    have x3 := X.cell 3
    have x4 := X.cell 4
    have x5 := X.cell 5
    have r0 := R.cell 0
    have r1 := R.cell 1
    have r2 := R.cell 2
    have r3 := R.cell 3
    have r4 := R.cell 4
    have r5 := R.cell 5
    have q0 := R.frozen 0
    have q1 := R.frozen 1
    have q2 := R.frozen 2
    have q3 := R.frozen 3
    have q4 := R.frozen 4
    have q5 := R.frozen 5
    by_cases hlt : k < k2
    · obtain ⟨b, off, id, rfl, hb, hid, hcell⟩ := (HR.out.below HS.out.1.bel).cell hlt
      have hbl : b < W.heap.size := Nat.lt_of_lt_of_le hb HS.out.1.bel.size
      have c0 := HS.out.1.ch.cell 0
      have c1 := HS.out.1.ch.cell 1
      have c2' := HS.out.1.ch.cell 2
      have c3 := HS.out.1.ch.cell 3
      have lw := HS.out.1.wk.lt
      have lw0 : w.heap.size < W.heap.size := by omega
      have lw1 : w.heap.size + 1 < W.heap.size := by omega
      have HID := Lib.hid hid
      have HB := Lib.hid hb
      clear hid hb X R r0 r1 r2 r3 r4 r5 q0 q1 q2 q3 q4 q5
      gi_wp2
      refine ⟨trivial, (callsIn_wide.2 (from_any _ _ _ _ _ rfl at_ _)).mono ?_⟩
      rintro e w1 ⟨rfl, rfl⟩
      have W2B : Below w.heap.size w ((W.alloc (.cells #[.int .i64 id] 3)).alloc (.cells #[.bool false] 4)) := (HS.out.1.bel.alloc HS.out.1.bel.size _).alloc (by simp; have := HS.out.1.bel.size; omega) _
      have FI := (from_in ((W.alloc (.cells #[.int .i64 id] 3)).alloc (.cells #[.bool false] 4)) #[.slice A nn c, .slice A' m d, .bool false, .func (.func F) #[] C] at_).base W2B
      have WI : WalkIn w #[.slice A nn c, .slice A' m d, .bool false, .func (.func F) #[] C] t p place l k at_ co id ds W.heap.size false ((((W.alloc (.cells #[.int .i64 id] 3)).alloc (.cells #[.bool false] 4)).alloc (.cells #[.slice A nn c, .slice A' m d, .bool false, .func (.func F) #[] C] 115)).alloc (.cells #[.int .i64 at_] 3)).heap.size ((((W.alloc (.cells #[.int .i64 id] 3)).alloc (.cells #[.bool false] 4)).alloc (.cells #[.slice A nn c, .slice A' m d, .bool false, .func (.func F) #[] C] 115)).alloc (.cells #[.int .i64 at_] 3)) := by
        have b1 : Below W.heap.size W ((((W.alloc (.cells #[.int .i64 id] 3)).alloc (.cells #[.bool false] 4)).alloc (.cells #[.slice A nn c, .slice A' m d, .bool false, .func (.func F) #[] C] 115)).alloc (.cells #[.int .i64 at_] 3)) := ((((Below.refl _ _).alloc (Nat.le_refl _) _).alloc (by simp) _).alloc (by simp; omega) _).alloc (by simp; omega) _
        have Y := ((Blk.new (W.alloc (.cells #[.int .i64 id] 3)) 4 #[.bool false]).alloc (.cells #[.slice A nn c, .slice A' m d, .bool false, .func (.func F) #[] C] 115)).alloc (.cells #[.int .i64 at_] 3)
        rw [World.size_alloc] at Y
        exact ⟨HS.out.1.below b1, (((Blk.new W _ _).alloc _).alloc _).alloc _, Y, HS.out.2.1.below b1, Nat.le_refl _⟩
      have g1l := FI.chart.lt
      have g2l := FI.place.lt
      have hdl : ∀ dd ∈ ds, ∀ r, dd.target = .collected r → r < ((((W.alloc (.cells #[.int .i64 id] 3)).alloc (.cells #[.bool false] 4)).alloc (.cells #[.slice A nn c, .slice A' m d, .bool false, .func (.func F) #[] C] 115)).alloc (.cells #[.int .i64 at_] 3)).heap.size := fun dd hd r hr => by
        have := HS.out.2.1.lt dd hd r hr
        simp
        omega
      rw [World.size_alloc, World.size_alloc] at FI g1l g2l
      have HSZ : Hid (w.heap.size ≤ W.heap.size ∧ ((((W.alloc (.cells #[.int .i64 id] 3)).alloc (.cells #[.bool false] 4)).alloc (.cells #[.slice A nn c, .slice A' m d, .bool false, .func (.func F) #[] C] 115)).alloc (.cells #[.int .i64 at_] 3)).heap.size = W.heap.size + 4) := Lib.hid ⟨HS.out.1.bel.size, by simp⟩
      gi_wp2
      generalize ((((W.alloc (.cells #[.int .i64 id] 3)).alloc (.cells #[.bool false] 4)).alloc (.cells #[.slice A nn c, .slice A' m d, .bool false, .func (.func F) #[] C] 115)).alloc (.cells #[.int .i64 at_] 3)) = W4 at *
      have hws : w.heap.size ≤ W4.heap.size := FI.below.size
      refine wpIn_rangeFunc_ownH rfl (by omega) (gf := 140) (lb := #[.pointer (some ⟨W.heap.size + 1 + 1, 0, none⟩), .pointer (some ⟨W.heap.size + 1 + 1 + 1, 0, none⟩)]) rfl trivial (enters_of Tryd.func140 (by kernel_rfl) rfl)
        (from1_stops 8 (by omega) A nn c A' m d false F C p t at_ (W.heap.size + 1 + 1) (W.heap.size + 1 + 1 + 1) w W4 hm HT.out HP.out HF.out FI) (fun h k => fromK_t h k) (fromK_b g1l g2l hws) (Below.refl _ _) (fun _ => rfl)
        (fun pre Wr => WalkIn w #[.slice A nn c, .slice A' m d, .bool false, .func (.func F) #[] C] t p place l k at_ co id ds W.heap.size false W4.heap.size Wr ∧ ∀ y ∈ pre, y.1.1.id ≠ id)
        (fun cd pre Wr => cd = .exit 2 ∧ ∃ y : Out false p at_ t.links, y.1.1.id = id ∧ WalkIn w #[.slice A nn c, .slice A' m d, .bool false, .func (.func F) #[] C] t p place l k y.1.2.1 (addC co y.1.2.2) id ds W.heap.size true W4.heap.size Wr)
        (ownFrom_shut (fun s Wr h => h.1.sz) (fun s Wr Wr' h hs => ⟨h.1.shut hs hws hdl, h.2⟩))
        (fun cd => ownFrom_shut (fun s Wr h => by obtain ⟨_, y, _, h⟩ := h; exact h.sz) (fun s Wr Wr' h hs => by obtain ⟨h0, y, h1, h⟩ := h; exact ⟨h0, y, h1, h.shut hs hws hdl⟩))
        ⟨WI, by simp⟩
        (fun y a' Wr => ∃ Bx, W4.heap.size ≤ Bx ∧ Blk Wr Bx 45 #[.int .i64 y.1.1.id, .int .i64 y.1.1.fr, .int .i64 y.1.1.to, .int .i64 y.1.1.steps, .int .i64 y.1.1.paces] ∧ Blk Wr (Bx + 1) 111 #[.int .i64 y.1.2.1, .int .i64 y.1.2.2.a, .int .i64 y.1.2.2.b, .int .i64 y.1.2.2.c, .int .i64 y.1.2.2.d, .slice none 0 0] ∧
          a' = { tmps := #[.agg #[.slice A nn c, .slice A' m d, .bool false, .func (.func F) #[] C], .int .i64 place, .slice (some ⟨b, off, none⟩) k2 c2, .pointer (some ⟨w.heap.size, 0, none⟩), undef, undef, .pointer (some ⟨w.heap.size + 1, 0, none⟩), .bool false, .pointer (some ⟨w.heap.size + 1 + 1, 0, none⟩), undef, .pointer (some ⟨W.heap.size, 0, none⟩), .pointer (some ⟨W.heap.size + 1, 0, none⟩), .pointer (some ⟨Bx, 0, none⟩), .pointer (some ⟨Bx + 1, 0, none⟩), .int .i64 place, .agg #[.int .i64 place, .int .i64 0, .int .i64 0, .int .i64 0, .int .i64 0, .slice none 0 0], .slice (some ⟨b, off, none⟩) k2 c2, .int .i64 k2, .bool false, undef, .slice (some ⟨b, off, none⟩) k2 c2, .int .i64 k2, .int .i64 k, .bool true, .pointer (some ⟨b, off + k, none⟩), .int .i64 id, .agg #[.slice A nn c, .slice A' m d, .bool false, .func (.func F) #[] C], .pointer (some ⟨w.heap.size + 1 + 1, 0, none⟩), .int .i64 at_, .func (.func 140) #[] #[.pointer (some ⟨W.heap.size + 1 + 1, 0, none⟩), .pointer (some ⟨W.heap.size + 1 + 1 + 1, 0, none⟩)], linkV y.1.1, .agg #[.int .i64 y.1.2.1, .int .i64 y.1.2.2.a, .int .i64 y.1.2.2.b, .int .i64 y.1.2.2.c, .int .i64 y.1.2.2.d, .slice none 0 0], undef, undef, undef, undef, undef, undef, undef, undef, undef, undef, undef, undef, undef, u45, u46, u47, u48, u49], defers := [] })
        (fun y a' => ownFrom_shut (fun _ Wr h => by obtain ⟨Bx, h1, h2, _⟩ := h; exact Nat.le_trans h1 (Nat.le_of_lt h2.lt)) (fun _ Wr Wr' h hs => by obtain ⟨Bx, h1, h2, h3, h4⟩ := h; exact ⟨Bx, h1, hs.blk h2, hs.blk h3, h4⟩)) ?assign ?body ?done ?stop
      case assign =>
        rintro l' pre ⟨⟨x, v, cx⟩, hy⟩ Wr K hI hK
        unfold Out.enc
        gi_wp2
        have hb : Below Wr.heap.size Wr ((Wr.alloc (.cells #[.int .i64 x.id, .int .i64 x.fr, .int .i64 x.to, .int .i64 x.steps, .int .i64 x.paces] 45)).alloc (.cells #[.int .i64 v, .int .i64 cx.a, .int .i64 cx.b, .int .i64 cx.c, .int .i64 cx.d, .slice none 0 0] 111)) := ((Below.refl _ _).alloc (Nat.le_refl _) _).alloc (by simp) _
        have Y := Blk.new (Wr.alloc (.cells #[.int .i64 x.id, .int .i64 x.fr, .int .i64 x.to, .int .i64 x.steps, .int .i64 x.paces] 45)) 111 #[.int .i64 v, .int .i64 cx.a, .int .i64 cx.b, .int .i64 cx.c, .int .i64 cx.d, .slice none 0 0]
        rw [World.size_alloc] at Y
        have hsz := hI.1.sz
        exact hK _ _ (keepsFrom_below hb) (fromK_below hb (by omega) (by omega) (by omega)) ⟨hI.1.below hb, hI.2⟩ ⟨Wr.heap.size, hsz, (Blk.new Wr _ _).alloc _, Y, rfl⟩
      case body =>
        rintro l' pre ⟨⟨x, v, cx⟩, hy⟩ a' Wr hl ⟨r, hrr⟩ ⟨hI, hno⟩ ⟨Bx, hBx, bX, bY, rfl⟩ hlen
        dsimp only at bX bY ⊢
        have HN := Lib.hid hno
        have HY := Lib.hid hy
        have HI := Lib.hid hI
        have HBX := Lib.hid bX
        have HBY := Lib.hid bY
        have i0 := bX.cell 0
        have i1 := hI.b10.cell 0
        have sz := hI.sz
        have szx := bX.lt
        have szy := bY.lt
        clear hno hI bX bY hrr
        by_cases hxi : x.id = id
        · have hxi' : (x.id == id) = true := by simpa using hxi
          have HXI := Lib.hid hxi
          clear hxi
          gi_wp2
          have HSM : Hid (Small co ∧ Small cx) := Lib.hid ⟨Small.walk HS.out.2.2.1 HFI.out HFA.out (by rw [List.length_take]; omega), Small.leads (outs_leads hy).1 HFI.out HFA.out (outs_leads hy).2⟩
          refine cls_open (C := fun V => Below Wr.heap.size Wr V) (Below.refl _ Wr) fun σ hσ of hof hcls => ?_
          have HOF := Lib.hid hof
          have HCL := Lib.hid hcls
          clear hof hcls
          have y0 : ∀ z, (of z).cell? ⟨Bx + 1, 0, none⟩ = some (.int .i64 v) := fun z => (HBY.out.below (HOF.out z) szy).cell 0
          have y1 : ∀ z, (of z).cell? ⟨Bx + 1, 1, none⟩ = some (.int .i64 cx.a) := fun z => (HBY.out.below (HOF.out z) szy).cell 1
          have y2 : ∀ z, (of z).cell? ⟨Bx + 1, 2, none⟩ = some (.int .i64 cx.b) := fun z => (HBY.out.below (HOF.out z) szy).cell 2
          have y3 : ∀ z, (of z).cell? ⟨Bx + 1, 3, none⟩ = some (.int .i64 cx.c) := fun z => (HBY.out.below (HOF.out z) szy).cell 3
          have y4 : ∀ z, (of z).cell? ⟨Bx + 1, 4, none⟩ = some (.int .i64 cx.d) := fun z => (HBY.out.below (HOF.out z) szy).cell 4
          have u0 : ∀ z, (of z).cell? ⟨w.heap.size + 1 + 1, 0, none⟩ = some (.int .i64 at_) := fun z => (HI.out.st.wk.below (HOF.out z) HI.out.st.wk.lt).cell 0
          have u1 : ∀ z, (of z).cell? ⟨w.heap.size + 1 + 1, 1, none⟩ = some (.int .i64 co.a) := fun z => (HI.out.st.wk.below (HOF.out z) HI.out.st.wk.lt).cell 1
          have u2 : ∀ z, (of z).cell? ⟨w.heap.size + 1 + 1, 2, none⟩ = some (.int .i64 co.b) := fun z => (HI.out.st.wk.below (HOF.out z) HI.out.st.wk.lt).cell 2
          have u3 : ∀ z, (of z).cell? ⟨w.heap.size + 1 + 1, 3, none⟩ = some (.int .i64 co.c) := fun z => (HI.out.st.wk.below (HOF.out z) HI.out.st.wk.lt).cell 3
          have u4 : ∀ z, (of z).cell? ⟨w.heap.size + 1 + 1, 4, none⟩ = some (.int .i64 co.d) := fun z => (HI.out.st.wk.below (HOF.out z) HI.out.st.wk.lt).cell 4
          have hfw : ∀ f, Fence.wide.fn f := fun _ => trivial
          refine wpIn_region_tail (Cls of) 8 (by kernel_rfl) (by kernel_rfl) (by kernel_rfl) (HCL.out _ (below_drewN (Below.refl _ _) 1)) ?_
          simp only [List.take_succ_cons, List.take_zero, List.drop_succ_cons, List.drop_zero]
          repeat (gi_big_quiet_step (exact plus_cls co cx HSM.out.1 HSM.out.2 HOF.out HCL.out _))
          refine wpQuietIn_nil ?_
          rintro _ ⟨z, rfl⟩
          have hz := HOF.out z
          clear y0 y1 y2 y3 y4 u0 u1 u2 u3 u4
          have HIz := Lib.hid (HI.out.below hz)
          have HZ := Lib.hid hz
          clear hz
          generalize of z = Wz at *
          have X := HIz.out.st.wk
          have u0 := X.cell 0
          have u1 := X.cell 1
          have u2 := X.cell 2
          have u3 := X.cell 3
          have u4 := X.cell 4
          have v0 := X.frozen 0
          have v1 := X.frozen 1
          have v2 := X.frozen 2
          have v3 := X.frozen 3
          have v4 := X.frozen 4
          have b0 := HIz.out.b11.cell 0
          have b1 := HIz.out.b11.frozen 0
          have hne : ¬ (W.heap.size + 1 = w.heap.size + 1 + 1) := by omega
          have hne' : ¬ (w.heap.size + 1 + 1 = W.heap.size + 1) := by omega
          have hne2 : ¬ (W.heap.size = w.heap.size + 1) := by omega
          have hne3 : ¬ (w.heap.size + 1 = W.heap.size) := by omega
          clear X
          gi_wp2
          have hput := HIz.out.put lw v (addC co cx)
          exact ⟨(keepsFrom_below HZ.out).trans hput.2, rfl, ⟨(x, v, cx), hy⟩, HXI.out, hput.1⟩
        · have hxi' : (x.id == id) = false := by simpa using hxi
          have HXI := Lib.hid hxi
          clear hxi
          gi_wp2
          exact ⟨KeepsFrom.refl _ _, ⟨Below.refl _ _, rfl, rfl⟩, HI.out, fun y hy' => by
            rcases List.mem_append.1 hy' with h | h
            · exact HN.out y h
            · rw [List.mem_singleton.1 h]; exact HXI.out⟩
      case done =>
        rintro D ys Wr hD rfl ⟨hI, hno⟩ hK
        have X := hI.st.wk
        have R := hI.st.rs
        have x0 := X.cell 0
        have x1 := X.cell 1
        have x2 := X.cell 2
        have x3 := X.cell 3
        have x4 := X.cell 4
        have x5 := X.cell 5
        have r0 := R.cell 0
        have r1 := R.cell 1
        have r2 := R.cell 2
        have r3 := R.cell 3
        have r4 := R.cell 4
        have r5 := R.cell 5
        have q0 := R.frozen 0
        have q1 := R.frozen 1
        have q2 := R.frozen 2
        have q3 := R.frozen 3
        have q4 := R.frozen 4
        have q5 := R.frozen 5
        have f0 := hI.b11.cell 0
        have HI := Lib.hid hI
        have HN := Lib.hid hno
        have HK := Lib.hid hK
        have HR6 := Lib.hid (ret6 R (hI.marks.more (Nat.le_trans hws hD) hK (fun dd hd r hr => Nat.lt_of_lt_of_le (hdl dd hd r hr) hD) #[]) hI.st.bel (by omega) (.int .i64 at_) (.int .i64 co.a) (.int .i64 co.b) (.int .i64 co.c) (.int .i64 co.d) (.slice none 0 0))
        clear X R hI hno hK
        gi_wp2
        refine leaves_marks _ _ HR6.out.2.1 ?_
        intro w' hs
        have RW := hs.blk HR6.out.1
        have y0 := RW.cell 0
        have y1 := RW.cell 1
        have y2 := RW.cell 2
        have y3 := RW.cell 3
        have y4 := RW.cell 4
        have y5 := RW.cell 5
        refine ⟨.tuple #[.agg #[.int .i64 at_, .int .i64 co.a, .int .i64 co.b, .int .i64 co.c, .int .i64 co.d, .slice none 0 0], .bool false], ?_, ?_⟩
        · simp [results, Tryd.results89, go_sem, y0, y1, y2, y3, y4, y5]
        · have hn : walkS t p (place, zeroC) l = none := by
            rw [← HS.out.2.2.2, drop_at HID.out]
            simp only [walkS]
            rw [stepF_none (fun y hy => HN.out ⟨y, hy⟩ (by unfold allOut; simp))]
          rw [hn]
          exact ⟨at_, co, rfl, (fun q hq => by cases hq), HR6.out.2.2.trans hs.below⟩
      case stop =>
        rintro D cd pre Wr hD _ ⟨rfl, ⟨⟨x, v, cx⟩, hy⟩, hxi, hI⟩ hK
        dsimp only at hxi hI
        have HI := Lib.hid hI
        have HXI := Lib.hid hxi
        have HK := Lib.hid hK
        have f0 := hI.b11.cell 0
        clear hxi hI hK
        gi_wp2
        have e1 : ((k + 1 : Nat) : Int) = (k : Int) + 1 := by omega
        have hxl := outs_leads hy
        dsimp only at hxl
        have hst : stepF t p at_ id = some (v, cx) := by rw [← HXI.out, stepF_leads HFI.out.ids hxl.1]; exact hxl.2
        have hkl : k < l.length := by rw [HLl.out]; exact hlt
        refine ⟨⟨k + 1, v, addC co cx, _, _, _, _, _, _, _, _, _, _, _, _, _, _, _, by omega, Lib.hid ⟨⟨HI.out.st.bel, HI.out.st.ch, HI.out.st.rs, HI.out.st.wk⟩, HI.out.marks.more (Nat.le_trans hws hD) HK.out (fun dd hd r hr => Nat.lt_of_lt_of_le (hdl dd hd r hr) hD) #[], ?_, ?_⟩, by rw [e1]⟩, ?_⟩
        · have h := HS.out.2.2.1.snoc hxl.1 hxl.2
          rw [List.take_add_one, HID.out, ← HXI.out]
          exact h
        · rw [← HS.out.2.2.2, drop_at HID.out]
          simp only [walkS, hst]
        · simp [intOf]; omega
    · obtain rfl : k = k2 := by omega
      have HR6 := Lib.hid (ret6 R HS.out.2.1 HS.out.1.bel (by omega) (.int .i64 at_) (.int .i64 co.a) (.int .i64 co.b) (.int .i64 co.c) (.int .i64 co.d) (.slice none 0 0))
      clear X R
      gi_wp2
      refine leaves_marks _ _ HR6.out.2.1 ?_
      intro w' hs
      have RW := hs.blk HR6.out.1
      have y0 := RW.cell 0
      have y1 := RW.cell 1
      have y2 := RW.cell 2
      have y3 := RW.cell 3
      have y4 := RW.cell 4
      have y5 := RW.cell 5
      refine ⟨.tuple #[.agg #[.int .i64 at_, .int .i64 co.a, .int .i64 co.b, .int .i64 co.c, .int .i64 co.d, .slice none 0 0], .bool true], ?_, ?_⟩
      · simp [results, Tryd.results89, go_sem, y0, y1, y2, y3, y4, y5]
      · have hd : l.drop k = [] := List.drop_of_length_le (by rw [HLl.out]; exact Nat.le_refl _)
        have hw := HS.out.2.2.2
        rw [hd] at hw
        exact ⟨at_, co, by rw [← hw]; rfl, fun q hq => by rw [← hw] at hq; exact (Option.some.inj hq).symm, HR6.out.2.2.trans hs.below⟩

theorem walked_any (A : Option Addr) (nn c : Nat) (A' : Option Addr) (m d : Nat) (F : FuncId) (C : Array Value) (p : Price) (t : Town) (place : Int) (A2 : Option Addr) (k2 c2 : Nat) (l : List Int) (w : World)
    (hm : m ≤ 20) (hk2 : k2 ≤ 40) (ht : LinksAt w w.heap.size A' m t.links) (hp : PriceAt w p F C) (hfine : Fine t) (hfair : Fair p) (hr : IntsAt w w.heap.size A2 k2 l) :
    Calls Tryd.prog 89 #[.agg #[.slice A nn c, .slice A' m d, .bool false, .func (.func F) #[] C], .int .i64 place, .slice A2 k2 c2] w (WalkedOut w (walkedF t p place l)) := by
  have := callsIn_wide.1 (walked_in A nn c A' m d F C p t place A2 k2 c2 l w hm hk2 ht hp hfine hfair hr)
  unfold walkedF
  rwa [if_neg (by rw [hr.len]; omega)]

set_option maxRecDepth 100000 in
set_option maxHeartbeats 4000000 in
theorem walked_long (A : Option Addr) (nn c : Nat) (A' : Option Addr) (m d : Nat) (F : FuncId) (C : Array Value) (p : Price) (t : Town) (place : Int) (A2 : Option Addr) (k2 c2 : Nat) (l : List Int) (w : World)
    (hk2 : 40 < k2) (hk : k2 ≤ 1000) (hr : IntsAt w w.heap.size A2 k2 l) :
    Calls Tryd.prog 89 #[.agg #[.slice A nn c, .slice A' m d, .bool false, .func (.func F) #[] C], .int .i64 place, .slice A2 k2 c2] w (WalkedOut w (walkedF t p place l)) := by
  have HL := Lib.hid hr.len
  have h40 : decide ((40 : Int) < (k2 : Int)) = true := by simp; omega
  clear hr
  go_enter Tryd.func89, Tryd.ntmps89
  go_wp2_with fail
  have hn : walkedF t p place l = none := by unfold walkedF; rw [if_pos (by rw [HL.out]; exact hk2)]
  rw [hn]
  refine bodyPost_ret (v := .tuple #[.agg #[.int .i64 place, .int .i64 0, .int .i64 0, .int .i64 0, .int .i64 0, .slice none 0 0], .bool false]) (by simp [results, Tryd.results89, go_sem]) rfl ⟨place, ⟨0, 0, 0, 0⟩, rfl, (fun q hq => by cases hq), (((Below.refl _ _).alloc (Nat.le_refl _) _).alloc (by simp) _).alloc (by simp; omega) _⟩
end Go.Proofs.YtahkjagjcogeiaaDoor
/- A region that draws its order: a head whose operations are quiet but for one that lays a new block, and a tail that waits for the head. -/
namespace Go.Proofs.YtahkjagjcogeiaaDoor
open Go.RowKit
set_option linter.unusedVariables false

def dstAt (l : List Oper) (i : Nat) : Option Tmp := (l[i]?).bind (·.dst)
/-- The frame a0, the slots of the operations S set. -/
structure Desc (l : List Oper) (k : Nat) (val : Nat → Value) (a0 : Act) (S : Nat → Bool) (a : Act) : Prop where
  defers : a.defers = a0.defers
  size : a.tmps.size = a0.tmps.size
  set_ : ∀ i, i < k → S i = true → ∀ d, dstAt l i = some d → a.tmps.getD d undef = val i
  other : ∀ t, (∀ i, i < k → S i = true → dstAt l i ≠ some t) → a.tmps.getD t undef = a0.tmps.getD t undef

/-- Each operation of the head has a slot of its own. -/
def Own1 (l : List Oper) (k : Nat) : Prop := ∀ i, i < k → ∃ d, dstAt l i = some d ∧ ∀ i', i' < k → dstAt l i' = some d → i' = i

section
variable {l : List Oper} {k : Nat} {val : Nat → Value} {a0 a a' : Act} {S S' : Nat → Bool}
theorem Desc.init (hS : ∀ i, i < k → S i = false) : Desc l k val a0 S a0 := ⟨rfl, rfl, (fun i hi h => by rw [hS i hi] at h; cases h), fun _ _ => rfl⟩
theorem getD_set_same (t : Array Value) (d : Nat) (v : Value) (h : d < t.size) : (t.setIfInBounds d v).getD d undef = v := by
  rw [Array.getD_eq_getD_getElem?, Array.getElem?_setIfInBounds_self_of_lt h]; rfl
theorem getD_set_other (t : Array Value) {d e : Nat} (v : Value) (h : d ≠ e) : (t.setIfInBounds d v).getD e undef = t.getD e undef := by
  rw [Array.getD_eq_getD_getElem?, Array.getElem?_setIfInBounds_ne h, ← Array.getD_eq_getD_getElem?]
theorem Desc.step (h : Desc l k val a0 S a) (ho : Own1 l k) {i : Nat} (hi : i < k) {d : Tmp} (hd : dstAt l i = some d) (hsz : d < a0.tmps.size) : Desc l k val a0 (done S i) (a.put (some d) (val i)) := by
  refine ⟨h.defers, by simp [Act.put, h.size], fun i' hi' hS d' hd' => ?_, fun t ht => ?_⟩
  · by_cases e : i' = i
    · subst e
      rw [hd] at hd'
      cases hd'
      exact getD_set_same _ _ _ (by rw [h.size]; exact hsz)
    · have hne : d ≠ d' := by
        intro e'
        subst e'
        obtain ⟨d2, h1, h2⟩ := ho i hi
        rw [hd] at h1
        cases h1
        exact e (h2 i' hi' hd')
      rw [show (a.put (some d) (val i)).tmps = a.tmps.setIfInBounds d (val i) from rfl, getD_set_other _ _ hne]
      exact h.set_ i' hi' (by simpa [done, e] using hS) d' hd'
  · have hne : d ≠ t := fun e => ht i hi (by simp [done]) (by rw [hd, e])
    rw [show (a.put (some d) (val i)).tmps = a.tmps.setIfInBounds d (val i) from rfl, getD_set_other _ _ hne]
    refine h.other t fun i' hi' hS => ht i' hi' ?_
    unfold done
    split
    · rfl
    · exact hS
theorem Desc.agree (h : Desc l k val a0 S a) (h' : Desc l k val a0 S' a') (ho : Own1 l k) (t : Tmp) (hS : ∀ i, i < k → dstAt l i = some t → S i = S' i) : a.tmps.getD t undef = a'.tmps.getD t undef := by
  by_cases hex : ∃ i, i < k ∧ dstAt l i = some t ∧ S i = true
  · obtain ⟨i, hi, hd, hs⟩ := hex
    rw [h.set_ i hi hs t hd, h'.set_ i hi (by rw [← hS i hi hd]; exact hs) t hd]
  · have hno : ∀ i, i < k → S i = true → dstAt l i ≠ some t := fun i hi hs hd => hex ⟨i, hi, hd, hs⟩
    rw [h.other t hno, h'.other t (fun i hi hs hd => hno i hi (by rw [hS i hi hd]; exact hs) hd)]
theorem Desc.eq (h : Desc l k val a0 S a) (h' : Desc l k val a0 S a') (ho : Own1 l k) : a = a' := by
  obtain ⟨t, d⟩ := a
  obtain ⟨t', d'⟩ := a'
  have e1 : d = d' := by have := h.defers; have := h'.defers; simp_all
  have e2 : t = t' := by
    have s1 : t.size = a0.tmps.size := h.size
    have s2 : t'.size = a0.tmps.size := h'.size
    apply Array.ext (by omega)
    intro i h1 h2
    have := h.agree h' ho i (fun _ _ _ => rfl)
    simpa [h1, h2] using this
  rw [e1, e2]
theorem Desc.vals {val' : Nat → Value} (h : Desc l k val a0 S a) (hv : ∀ i, i < k → S i = true → val i = val' i) : Desc l k val' a0 S a := ⟨h.defers, h.size, fun i hi hs d hd => (h.set_ i hi hs d hd).trans (hv i hi hs), h.other⟩
theorem Desc.sets {S'' : Nat → Bool} (h : Desc l k val a0 S a) (hv : ∀ i, i < k → S i = S'' i) : Desc l k val a0 S'' a := ⟨h.defers, h.size, fun i hi hs => h.set_ i hi ((hv i hi).trans hs), fun t ht => h.other t fun i hi hs => ht i hi ((hv i hi).symm.trans hs)⟩
end

section
variable {F : Fence} {n : Nat} {P : Program} {ops : Array Oper} {o : Oper} {a a' : Act}
theorem eval_agree {x : Operand} (h : ∀ t, x = .tmp t → a.tmps.getD t undef = a'.tmps.getD t undef) : a.eval x = a'.eval x := by
  cases x with
  | tmp t => exact h t rfl
  | _ => rfl
theorem execOp_agree (hs : ∀ cs b, o.op ≠ .select cs b) (h : ∀ t ∈ o.looksAt ops, a.tmps.getD t undef = a'.tmps.getD t undef) : execOp a.eval o = execOp a'.eval o :=
  execOp_congr o hs fun x hx => eval_agree fun t e => h t (by
    subst e
    exact List.mem_append_left _ (List.mem_filterMap.2 ⟨.tmp t, by simpa using hx, rfl⟩))
theorem about_agree (w : World) (h : ∀ t ∈ o.looksAt ops, a.tmps.getD t undef = a'.tmps.getD t undef) : o.about P w a.eval = o.about P w a'.eval :=
  about_congr o w fun x hx => eval_agree fun t e => h t (by
    subst e
    exact List.mem_append_left _ (List.mem_filterMap.2 ⟨.tmp t, by simpa using hx, rfl⟩))
theorem wanted_agree (hz : a.tmps.size = a'.tmps.size) (h : ∀ t ∈ o.looksAt ops, a.tmps.getD t undef = a'.tmps.getD t undef) : Region.wanted o (yielded ops a.tmps) = Region.wanted o (yielded ops a'.tmps) := by
  unfold Region.wanted
  cases hg : o.guard with
  | none => rfl
  | some g =>
    obtain ⟨g, b⟩ := g
    have e : yielded ops a.tmps g = yielded ops a'.tmps g := by
      unfold yielded
      cases hd : (ops[g]?).bind (·.dst) with
      | none => rfl
      | some d =>
        have hm : d ∈ o.looksAt ops := by
          unfold Oper.looksAt
          rw [hg]
          exact List.mem_append_right _ (by simp [hd])
        have h1 := h d hm
        have h2 : a.tmps[d]? = a'.tmps[d]? := by
          rcases Nat.lt_or_ge d a.tmps.size with hlt | hge
          · have hlt' : d < a'.tmps.size := by rw [← hz]; exact hlt
            simpa [hlt, hlt'] using h1
          · have hge' : a'.tmps.size ≤ d := by rw [← hz]; exact hge
            rw [Array.getElem?_eq_none hge, Array.getElem?_eq_none hge']
        simp [h2]
    simp only [e]
theorem yields_agree {C : World → Prop} {v : Value} (hs : ∀ cs b, o.op ≠ .select cs b) (hz : a.tmps.size = a'.tmps.size) (h : ∀ t ∈ o.looksAt ops, a.tmps.getD t undef = a'.tmps.getD t undef) (hy : YieldsQuiet F n P ops C o v a) : YieldsQuiet F n P ops C o v a' := by
  refine hy.of_same (execOp_agree hs h).symm (wanted_agree hz h).symm (fun w => (about_agree w h).symm)

/-- Values put in, one behind another. -/
def putAll : Act → List Oper → List Value → Act
  | a, o :: l, v :: vs => putAll (a.put o.dst v) l vs
  | a, _, _ => a
theorem putAll_snoc : ∀ {l : List Oper} {vs : List Value} {a : Act} {m : Nat} {o : Oper} {v : Value}, l[m]? = some o → vs[m]? = some v → putAll a (l.take (m + 1)) (vs.take (m + 1)) = (putAll a (l.take m) (vs.take m)).put o.dst v
  | [], _, _, _, _, _, h, _ => by simp at h
  | _ :: _, [], _, _, _, _, _, h => by simp at h
  | o' :: l, v' :: vs, a, 0, o, v, h, h' => by simp at h h'; subst h h'; simp [putAll]
  | o' :: l, v' :: vs, a, m + 1, o, v, h, h' => by
    simp only [List.take_succ_cons, putAll]
    exact putAll_snoc (by simpa using h) (by simpa using h')
theorem lex_vals {C : World → Prop} {Q : Act → Prop} : ∀ (seg : List Oper) (a : Act), wpQuietIn F n P ops C Q seg a →
    ∃ vs : List Value, vs.length = seg.length ∧ Q (putAll a seg vs) ∧ ∀ i o v, seg[i]? = some o → vs[i]? = some v → YieldsQuiet F n P ops C o v (putAll a (seg.take i) (vs.take i))
  | [], a, h => ⟨[], rfl, h, fun i o v ho => by simp at ho⟩
  | o :: seg, a, h => by
    obtain ⟨ha, h2⟩ := h
    have main : ∃ v, YieldsQuiet F n P ops C o v a ∧ wpQuietIn F n P ops C Q seg (a.put o.dst v) := by
      by_cases hw : Region.wanted o (yielded ops a.tmps) = true
      · rw [if_pos hw] at h2
        obtain ⟨v, h3, h4⟩ := h2
        exact ⟨v, ⟨ha, .inl ⟨hw, h3⟩⟩, h4⟩
      · rw [if_neg hw] at h2
        exact ⟨undef, ⟨ha, .inr ⟨by simpa using hw, rfl⟩⟩, h2⟩
    obtain ⟨v, hy, h4⟩ := main
    obtain ⟨vs, h5, h6, h7⟩ := lex_vals seg _ h4
    refine ⟨v :: vs, by simp [h5], h6, fun i o' v' ho hv => ?_⟩
    cases i with
    | zero => simp at ho hv; subst ho hv; exact hy
    | succ i => exact h7 i o' v' (by simpa using ho) (by simpa using hv)
end

/-- The look of such a region. -/
def freshB (l : List Oper) (k j : Nat) : Bool :=
  decide (j < k) && decide (k < l.length) && backB l.toArray && Region.noSelect l.toArray && noDeferB l && Region.sinkB .any l.toArray k && Region.chainB .any l.toArray k &&
  ((List.range k).all fun i => (dstAt l i).isSome && ((List.range k).all fun i' => i == i' || dstAt l i != dstAt l i')) &&
  ((List.range k).all fun i => ((l[i]?).map fun o => (o.looksAt l.toArray).all fun t => (List.range k).all fun i' => dstAt l i' != some t || (i' != j && afterB l i i')).getD false)
/-- The slots are there. -/
def slotsB (l : List Oper) (k sz : Nat) : Bool := (List.range k).all fun i => ((dstAt l i).map fun d => decide (d < sz)).getD false

section
variable {F : Fence} {n : Nat} {P : Program} {Q : Exit → Act → World → Prop} {l : List Oper} {k j : Nat}
structure FreshOk (l : List Oper) (k j : Nat) : Prop where
  jk : j < k
  kl : k < l.length
  back : backB l.toArray = true
  nosel : Region.noSelect l.toArray = true
  nodef : noDeferB l = true
  sink : Region.sinkB .any l.toArray k = true
  chain : Region.chainB .any l.toArray k = true
  own : Own1 l k
  deps : ∀ i, i < k → ∀ o, l[i]? = some o → ∀ t ∈ o.looksAt l.toArray, ∀ i', i' < k → dstAt l i' = some t → i' ≠ j ∧ afterB l i i' = true
theorem freshOk (h : freshB l k j = true) : FreshOk l k j := by
  unfold freshB at h
  simp only [Bool.and_eq_true, decide_eq_true_eq] at h
  obtain ⟨⟨⟨⟨⟨⟨⟨⟨h1, h2⟩, h3⟩, h4⟩, h5⟩, h6⟩, h7⟩, h8⟩, h9⟩ := h
  refine ⟨h1, h2, h3, h4, h5, h6, h7, fun i hi => ?_, fun i hi o ho t ht i' hi' hd => ?_⟩
  · have h := List.all_eq_true.1 h8 i (List.mem_range.2 hi)
    simp only [Bool.and_eq_true] at h
    obtain ⟨d, hd⟩ := Option.isSome_iff_exists.1 h.1
    refine ⟨d, hd, fun i' hi' hd' => ?_⟩
    have h' := List.all_eq_true.1 h.2 i' (List.mem_range.2 hi')
    simp only [Bool.or_eq_true, beq_iff_eq, bne_iff_ne] at h'
    rcases h' with h' | h'
    · exact h'.symm
    · exact absurd (hd.trans hd'.symm) h'
  · have h := List.all_eq_true.1 h9 i (List.mem_range.2 hi)
    rw [ho] at h
    simp only [Option.map_some, Option.getD_some] at h
    have h' := List.all_eq_true.1 (List.all_eq_true.1 h t ht) i' (List.mem_range.2 hi')
    simp only [Bool.or_eq_true, bne_iff_ne, Bool.and_eq_true] at h'
    rcases h' with h' | h'
    · exact absurd hd h'
    · exact h'

theorem afterB_lt (hb : backB l.toArray = true) {i i' : Nat} (h : afterB l i i' = true) : i' < i := by
  unfold afterB at h
  split at h
  · rename_i o ho
    have hi := (List.getElem?_eq_some_iff.1 ho).1
    obtain ⟨e, he, h2⟩ := List.any_eq_true.1 h
    simp only [Bool.and_eq_true, beq_iff_eq] at h2
    have h3 := List.all_eq_true.1 hb i (by simpa using hi)
    rw [show l.toArray[i]? = some o by simpa using ho] at h3
    simp only [Option.map_some, Option.getD_some] at h3
    rw [Array.all_eq_true_iff_forall_mem] at h3
    have h4 := h3 e (by simpa using he)
    simp only [h2.2, Bool.not_true, Bool.false_or, decide_eq_true_eq] at h4
    omega
  · cases h

/-- The values of the head, by its last frame. -/
def valOf (l : List Oper) (AF : Act) (i : Nat) : Value := AF.tmps.getD ((dstAt l i).getD 0) undef

/-- What the walk of the head shows: each operation but j yields its value, in every class of worlds that is shut under growth. -/
theorem head_yields (ok : FreshOk l k j) {a0 AF : Act} {C : World → Prop} (hs : slotsB l k a0.tmps.size = true)
    (h : wpQuietIn F n P l.toArray C (fun a1 => wpQuietIn F n P l.toArray C (fun a2 => a2 = AF) ((l.take k).drop (j + 1)) a1) (l.take j) a0) :
    Desc l k (valOf l AF) a0 (fun i => decide (i < k) && decide (i ≠ j)) AF ∧
    ∀ i, i < k → i ≠ j → ∀ o, l[i]? = some o → ∃ LF, Desc l k (valOf l AF) a0 (fun i' => decide (i' < i) && decide (i' ≠ j)) LF ∧ YieldsQuiet F n P l.toArray C o (valOf l AF i) LF := by
  have hkl := ok.kl
  have hjk := ok.jk
  have hslot : ∀ i, i < k → ∀ d, dstAt l i = some d → d < a0.tmps.size := fun i hi d hd => by
    have := List.all_eq_true.1 hs i (List.mem_range.2 hi)
    rw [hd] at this
    simpa using this
  obtain ⟨vs1, l1, h2, y1⟩ := lex_vals _ _ h
  obtain ⟨vs2, l2, h3, y2⟩ := lex_vals _ _ h2
  have n1 : vs1.length = j := by rw [l1]; simp; omega
  have n2 : vs2.length = k - (j + 1) := by rw [l2]; simp; omega
  obtain ⟨val, hval⟩ : ∃ val : Nat → Value, val = fun i => if i < j then vs1.getD i undef else vs2.getD (i - (j + 1)) undef := ⟨_, rfl⟩
  have D1 : ∀ m, m ≤ j → Desc l k val a0 (fun i' => decide (i' < m) && decide (i' ≠ j)) (putAll a0 ((l.take j).take m) (vs1.take m)) := by
    intro m
    induction m with
    | zero => intro _; simp only [List.take_zero, putAll]; exact Desc.init (fun i _ => by simp)
    | succ m ih =>
      intro hm
      have ho : (l.take j)[m]? = some (l[m]'(by omega)) := by rw [List.getElem?_take_of_lt (by omega)]; exact List.getElem?_eq_getElem _
      have hv : vs1[m]? = some (vs1[m]'(by omega)) := List.getElem?_eq_getElem _
      rw [putAll_snoc ho hv]
      obtain ⟨d, hd, _⟩ := ok.own m (by omega)
      have hdd : (l[m]'(by omega)).dst = some d := by
        unfold dstAt at hd
        rw [List.getElem?_eq_getElem (by omega)] at hd
        exact hd
      have hvm : val m = vs1[m]'(by omega) := by rw [hval]; simp only; rw [if_pos (by omega), List.getD_eq_getElem?_getD, hv]; rfl
      rw [hdd, ← hvm]
      refine ((ih (by omega)).step ok.own (i := m) (by omega) hd (hslot m (by omega) d hd)).sets fun i hi => ?_
      unfold done
      by_cases e : i = m
      · rw [if_pos e, Bool.eq_iff_iff]; simp only [Bool.and_eq_true, decide_eq_true_eq, true_iff]; omega
      · rw [if_neg e, Bool.eq_iff_iff]; simp only [Bool.and_eq_true, decide_eq_true_eq]; omega
  have D2 : ∀ m, m ≤ k - (j + 1) → Desc l k val a0 (fun i' => decide (i' < j + 1 + m) && decide (i' ≠ j)) (putAll (putAll a0 (l.take j) vs1) (((l.take k).drop (j + 1)).take m) (vs2.take m)) := by
    intro m
    induction m with
    | zero =>
      intro _
      simp only [List.take_zero, putAll]
      have h0 := D1 j (Nat.le_refl _)
      have e1 : (l.take j).take j = l.take j := List.take_of_length_le (by rw [List.length_take]; omega)
      have e2 : vs1.take j = vs1 := List.take_of_length_le (by omega)
      rw [e1, e2] at h0
      exact h0.sets fun i hi => by rw [Bool.eq_iff_iff]; simp only [Bool.and_eq_true, decide_eq_true_eq]; omega
    | succ m ih =>
      intro hm
      have hlm : j + 1 + m < l.length := by omega
      have ho : ((l.take k).drop (j + 1))[m]? = some (l[j + 1 + m]'hlm) := by rw [List.getElem?_drop, List.getElem?_take_of_lt (by omega)]; exact List.getElem?_eq_getElem _
      have hv : vs2[m]? = some (vs2[m]'(by omega)) := List.getElem?_eq_getElem _
      rw [putAll_snoc ho hv]
      obtain ⟨d, hd, _⟩ := ok.own (j + 1 + m) (by omega)
      have hdd : (l[j + 1 + m]'hlm).dst = some d := by
        unfold dstAt at hd
        rw [List.getElem?_eq_getElem hlm] at hd
        exact hd
      have hvm : val (j + 1 + m) = vs2[m]'(by omega) := by rw [hval]; simp only; rw [if_neg (by omega), show j + 1 + m - (j + 1) = m by omega, List.getD_eq_getElem?_getD, hv]; rfl
      rw [hdd, ← hvm]
      refine ((ih (by omega)).step ok.own (i := j + 1 + m) (by omega) hd (hslot _ (by omega) d hd)).sets fun i hi => ?_
      unfold done
      by_cases e : i = j + 1 + m
      · rw [if_pos e, Bool.eq_iff_iff]; simp only [Bool.and_eq_true, decide_eq_true_eq, true_iff]; omega
      · rw [if_neg e, Bool.eq_iff_iff]; simp only [Bool.and_eq_true, decide_eq_true_eq]; omega
  have DF : Desc l k val a0 (fun i => decide (i < k) && decide (i ≠ j)) AF := by
    have h0 := D2 (k - (j + 1)) (Nat.le_refl _)
    have e1 : ((l.take k).drop (j + 1)).take (k - (j + 1)) = (l.take k).drop (j + 1) := List.take_of_length_le (by rw [List.length_drop, List.length_take]; omega)
    have e2 : vs2.take (k - (j + 1)) = vs2 := List.take_of_length_le (by omega)
    rw [e1, e2, h3] at h0
    exact h0.sets fun i hi => by rw [Bool.eq_iff_iff]; simp only [Bool.and_eq_true, decide_eq_true_eq]; omega
  have hvv : ∀ i, i < k → i ≠ j → val i = valOf l AF i := fun i hi hij => by
    obtain ⟨d, hd, _⟩ := ok.own i hi
    unfold valOf
    rw [hd]
    exact (DF.set_ i hi (by simp [hi, hij]) d hd).symm
  refine ⟨DF.vals fun i hi hs => hvv i hi (by simpa using (Bool.and_eq_true_iff.1 hs).2), fun i hi hij o ho => ?_⟩
  rcases Nat.lt_or_ge i j with hlt | hge
  · have hv : vs1[i]? = some (vs1[i]'(by omega)) := List.getElem?_eq_getElem _
    have hy := y1 i o _ (by rw [List.getElem?_take_of_lt hlt]; exact ho) hv
    have hvm : val i = vs1[i]'(by omega) := by rw [hval]; simp only; rw [if_pos hlt, List.getD_eq_getElem?_getD, hv]; rfl
    rw [← hvm, hvv i hi hij] at hy
    exact ⟨_, (D1 i (by omega)).vals fun i' hi' hs => hvv i' hi' (by simpa using (Bool.and_eq_true_iff.1 hs).2), hy⟩
  · obtain ⟨m, rfl⟩ : ∃ m, i = j + 1 + m := ⟨i - (j + 1), by omega⟩
    have hv : vs2[m]? = some (vs2[m]'(by omega)) := List.getElem?_eq_getElem _
    have hy := y2 m o _ (by rw [List.getElem?_drop, List.getElem?_take_of_lt (by omega)]; exact ho) hv
    have hvm : val (j + 1 + m) = vs2[m]'(by omega) := by rw [hval]; simp only; rw [if_neg (by omega), show j + 1 + m - (j + 1) = m by omega, List.getD_eq_getElem?_getD, hv]; rfl
    rw [← hvm, hvv _ hi hij] at hy
    exact ⟨_, (D2 m (by omega)).vals fun i' hi' hs => hvv i' hi' (by simpa using (Bool.and_eq_true_iff.1 hs).2), hy⟩

theorem ready_nil_all {ops : Array Oper} {listed : Array Bool} (hb : backB ops = true) (hsz : listed.size = ops.size) (hr : Region.ready .any ops listed = []) : ∀ i, i < ops.size → listed.getD i false = true := by
  refine dag_of_back hb (fun i => listed.getD i false) ?_
  intro i o ho hu
  have hlt : i < listed.size := by rw [hsz]; exact (Array.getElem?_eq_some_iff.1 ho).1
  have hu' : listed.getD i true = false := getD_in hlt hu
  have hno : ¬ i ∈ Region.ready .any ops listed := by rw [hr]; simp
  rw [mem_ready] at hno
  have h2 : ¬ ∀ e ∈ o.after, Region.binds .any e = true → listed.getD e.on false = true := fun h => hno ⟨hu', o, ho, h⟩
  refine Classical.byContradiction fun hc => h2 fun e he hbnd => ?_
  cases hc' : listed.getD e.on false with
  | true => rfl
  | false => exact absurd ⟨e, he, hbnd, hc'⟩ hc

/-- The first of a list of operations. -/
theorem wpListIn_head {ops : Array Oper} {o : Oper} {rest : List Oper} {a : Act} {w : World} {K : Act → World → Prop} (h : wpListIn F n P ops Q (o :: rest) a w) (hK : ∀ a' w', wpListIn F n P ops Q rest a' w' → K a' w') : wpListIn F n P ops (Exit.then K Q) [o] a w := by
  simp only [wpListIn] at h ⊢
  split
  · rename_i hw
    rw [if_pos hw] at h
    unfold Oper.wpIn at h ⊢
    refine ⟨h.1, ?_⟩
    have h4 := h.2
    generalize (o.semAt F.round a.eval).run P w = r at h4 ⊢
    cases r with
    | ok x w' =>
      cases x <;> simp only [Oper.uponIn, Exit.then] at h4 ⊢ <;>
        first
          | exact hK _ _ h4
          | exact ⟨h4.1, CallsIn.mono h4.2 (fun e w'' he => by cases e <;> first | exact hK _ _ he | exact he)⟩
          | exact ⟨h4.1, RoundIn.mono h4.2 (fun e w'' he => by cases e <;> first | exact hK _ _ he | exact he)⟩
          | exact ⟨h4.1, RowsIn.mono h4.2 (fun v w'' he => hK _ _ he)⟩
          | exact h4
    | halt x w' => cases x <;> simp only [Oper.uponIn, Exit.then] at h4 ⊢ <;> exact h4
  · rename_i hw
    rw [if_neg hw] at h
    exact ⟨h.1, hK _ _ h.2⟩

/-- Whether the new block is there yet. -/
def FCls (V : World) (ty : TypeId) (cs : Array Value) (ob : Option Nat) (W : World) : Prop := Below V.heap.size V W ∧ ∀ b, ob = some b → V.heap.size ≤ b ∧ Blk W b ty cs
theorem FCls.grow {V : World} {ty : TypeId} {cs : Array Value} {ob : Option Nat} {W W' : World} (h : FCls V ty cs ob W) (hb : Below W.heap.size W W') : FCls V ty cs ob W' :=
  ⟨h.1.trans (hb.mono h.1.size), fun b e => ⟨(h.2 b e).1, (h.2 b e).2.below hb (h.2 b e).2.lt⟩⟩

/-- THE LAW: a head whose operations are quiet, but for number j, which lays a new block; then a tail. -/
theorem wpIn_region_fresh {id : Nat} {a0 AF : Act} {w V : World} {oj : Oper} {dj : Tmp} (fv : Nat → Value) (ty : TypeId) (cs : Array Value) (k j : Nat)
    (hm : P.follows .mixedOrders = true) (hB : freshB l k j = true) (hs : slotsB l k a0.tmps.size = true) (hoj : l[j]? = some oj) (hdj : oj.dst = some dj) (hgj : oj.guard = none) (hV : Below V.heap.size V w.drew)
    (hq : ∀ C : World → Prop, (∀ W, C W → Below V.heap.size V W) → (∀ W W', C W → Below W.heap.size W W' → C W') → wpQuietIn F n P l.toArray C (fun a1 => wpQuietIn F n P l.toArray C (fun a2 => a2 = AF) ((l.take k).drop (j + 1)) a1) (l.take j) a0)
    (hfresh : ∀ W, Below V.heap.size V W → (∀ f, oj.about P W AF.eval = some f → F.fn f) ∧ (execOp AF.eval oj).run P W = .ok (.value (fv W.heap.size)) (W.alloc (.cells cs ty)))
    (htail : ∀ b W, Below V.heap.size V W → V.heap.size ≤ b → Blk W b ty cs → wpListIn F n P l.toArray Q (l.drop k) (AF.put (some dj) (fv b)) W) : (Code.region id l.toArray true).wpIn F n P Q a0 w := by
  have ok := freshOk hB
  have hnd : noDefer l.toArray := noDefer_of ok.nodef
  have hkl := ok.kl
  have hjk := ok.jk
  have hslot : ∀ i, i < k → ∀ d, dstAt l i = some d → d < a0.tmps.size := fun i hi d hd => by
    have := List.all_eq_true.1 hs i (List.mem_range.2 hi)
    rw [hd] at this
    simpa using this
  have hdj' : dstAt l j = some dj := by unfold dstAt; rw [hoj]; exact hdj
  have hyl : ∀ C : World → Prop, (∀ W, C W → Below V.heap.size V W) → (∀ W W', C W → Below W.heap.size W W' → C W') → _ := fun C h1 h2 => head_yields ok hs (hq C h1 h2)
  have DF := (hyl (fun W => Below V.heap.size V W) (fun _ h => h) (fun W W' h k => h.trans (k.mono h.size))).1
  let vb : Option Nat → Nat → Value := fun ob i => if i = j then fv (ob.getD 0) else valOf l AF i
  let St : Array Bool → Act → World → Prop := fun listed a W =>
    (HeadInv .any l.toArray k listed ∧ (∃ i, i < k ∧ listed.getD i false = false) ∧ ∃ ob : Option Nat, listed.getD j false = ob.isSome ∧ FCls V ty cs ob W ∧ Desc l k (vb ob) a0 (fun i => listed.getD i false) a) ∨
    ∃ m, k ≤ m ∧ m ≤ l.length ∧ listed.size = l.length ∧ (∀ i, i < m → listed.getD i false = true) ∧ (∀ t, m ≤ t → t < l.length → listed.getD t true = false) ∧ wpListIn F n P l.toArray Q (l.drop m) a W
  -- where the head goes on, or is over
  have hgo : ∀ (listed : Array Bool) (a : Act) (W : World) (ob : Option Nat), HeadInv .any l.toArray k listed → listed.getD j false = ob.isSome → FCls V ty cs ob W → Desc l k (vb ob) a0 (fun i => listed.getD i false) a → St listed a W := by
    intro listed a W ob inv hj hc hD
    by_cases hex : ∃ i, i < k ∧ listed.getD i false = false
    · exact .inl ⟨inv, hex, ob, hj, hc, hD⟩
    · have hall : ∀ i, i < k → listed.getD i false = true := fun i hi => by
        cases h : listed.getD i false with
        | true => rfl
        | false => exact absurd ⟨i, hi, h⟩ hex
      rw [hall j hjk] at hj
      obtain ⟨b, rfl⟩ := Option.isSome_iff_exists.1 hj.symm
      obtain ⟨h1, h2⟩ := hc
      obtain ⟨h3, h4⟩ := h2 b rfl
      have hT : Desc l k (vb (some b)) a0 (done (fun i => decide (i < k) && decide (i ≠ j)) j) (AF.put (some dj) (vb (some b) j)) :=
        (DF.vals (val' := vb (some b)) fun i hi hS => by
          have : i ≠ j := by simpa using (Bool.and_eq_true_iff.1 hS).2
          show valOf l AF i = if i = j then _ else _
          rw [if_neg this]).step ok.own hjk hdj' (hslot j hjk dj hdj')
      have hEq : a = AF.put (some dj) (vb (some b) j) := hD.eq (hT.sets fun i hi => by
        rw [hall i hi]
        unfold done
        split
        · rfl
        · rename_i hne; simp [hi, hne]) ok.own
      have hvj : vb (some b) j = fv b := by show (if j = j then _ else _) = _; rw [if_pos rfl]; rfl
      rw [hvj] at hEq
      subst hEq
      exact .inr ⟨k, Nat.le_refl _, by omega, by rw [inv.size]; simp, hall, fun t ht hlt => inv.tail t ht (by simpa using hlt), htail b W h1 h3 h4⟩
  refine wpIn_region_inv hm St ?_ ?_ ?_ ?_
  · rintro listed a W (⟨inv, _⟩ | ⟨m, _, _, h, _⟩)
    · exact inv.size
    · simpa using h
  · refine .inl ⟨⟨by simp, fun j oj _ hl => (by rw [getD_replicate_false] at hl; cases hl), fun t _ ht => getD_in (by simpa using ht) (getD_replicate_false _ _)⟩, ⟨j, hjk, getD_replicate_false _ _⟩, none, getD_replicate_false _ _, ⟨hV, fun b e => by cases e⟩, Desc.init fun i _ => getD_replicate_false _ _⟩
  · rintro listed a W i o ho hu hd (⟨inv, ⟨i0, hi0, hf0⟩, ob, hj, hc, hD⟩ | ⟨m, hkm, hml, hsz, hall, hrest, hwp⟩)
    · have hiN : i < l.toArray.size := (Array.getElem?_eq_some_iff.1 ho).1
      have hmem : i ∈ Region.ready .any l.toArray listed := mem_ready.2 ⟨hu, o, ho, hd⟩
      have hik : i < k := by
        rcases Nat.lt_or_ge i k with h | h
        · exact h
        · exact absurd hmem (tail_waits ok.sink ok.chain (by simpa using hkl) inv _ i0 rfl hi0 (getD_in (by rw [inv.size]; simp; omega) hf0) i h)
      have inv' := inv.set hmem hik
      have hol : l[i]? = some o := by simpa using ho
      have hwait : ∀ i', afterB l i i' = true → listed.getD i' false = true := fun i' h => by
        unfold afterB at h
        rw [hol] at h
        obtain ⟨e, he, h2⟩ := List.any_eq_true.1 h
        simp only [Bool.and_eq_true, beq_iff_eq] at h2
        rw [← h2.1]
        exact hd e (by simpa using he) h2.2
      have hset : ∀ i', (listed.setIfInBounds i true).getD i' false = done (fun i => listed.getD i false) i i' := fun i' => by
        unfold done
        by_cases e : i' = i
        · subst e
          rw [if_pos rfl, Array.getD_eq_getD_getElem?, Array.getElem?_setIfInBounds]
          have : i' < listed.size := by rw [inv.size]; exact hiN
          simp [this]
        · rw [if_neg e, getD_set_ne false (Ne.symm e)]
      have hfalse : listed.getD i false = false := getD_both hu
      by_cases e : i = j
      · subst e
        obtain rfl : oj = o := Option.some.inj (hoj.symm.trans hol)
        have hag : ∀ t ∈ oj.looksAt l.toArray, a.tmps.getD t undef = AF.tmps.getD t undef := fun t ht => by
          have hDF' : Desc l k (vb ob) a0 (fun i' => decide (i' < k) && decide (i' ≠ i)) AF := DF.vals fun i' hi' hS => by
            have : i' ≠ i := by simpa using (Bool.and_eq_true_iff.1 hS).2
            show valOf l AF i' = if i' = i then _ else _
            rw [if_neg this]
          refine hD.agree hDF' ok.own t fun i' hi' hd' => ?_
          obtain ⟨h1, h2⟩ := ok.deps i hik oj hol t ht i' hi' hd'
          rw [hwait i' h2]
          simp [hi', h1]
        obtain ⟨hab, hrun⟩ := hfresh W hc.1
        have hsel : ∀ cs b, oj.op ≠ .select cs b := fun cs b => Region.noSelect_spec ok.nosel i oj cs b ho
        have hwant : Region.wanted oj (yielded l.toArray a.tmps) = true := by unfold Region.wanted; rw [hgj]
        simp only [wpListIn]
        rw [if_pos hwant]
        unfold Oper.wpIn
        refine ⟨fun f hf => hab f (by rw [← about_agree W hag]; exact hf), ?_⟩
        rw [Oper.semAt_eq _ _ _ (hnd i oj ho), execOp_agree hsel hag, hrun]
        show Exit.then _ Q .normal _ _
        have hob : ob = none := by
          rw [hfalse] at hj
          cases ob with
          | none => rfl
          | some b => cases hj
        subst hob
        refine hgo _ _ _ (some W.heap.size) inv' (by rw [hset]; simp [done]) ⟨hc.1.alloc hc.1.size _, fun b hb => by cases hb; exact ⟨hc.1.size, Blk.new W _ _⟩⟩ ?_
        have hD' : Desc l k (vb (some W.heap.size)) a0 (fun i => listed.getD i false) a := hD.vals fun i' hi' hS => by
          have hne : i' ≠ i := fun e => by subst e; rw [hfalse] at hS; cases hS
          show (if i' = i then _ else _) = if i' = i then _ else _
          rw [if_neg hne, if_neg hne]
        have h5 := hD'.step ok.own hik hdj' (hslot i hik dj hdj')
        have hvj : vb (some W.heap.size) i = fv W.heap.size := by show (if i = i then _ else _) = _; rw [if_pos rfl]; rfl
        rw [hvj] at h5
        rw [hdj]
        exact h5.sets fun i' _ => (hset i').symm
      · have hy := (hyl (FCls V ty cs ob) (fun _ h => h.1) (fun W W' h k => h.grow k)).2 i hik e o hol
        obtain ⟨LF, hLF, hyq⟩ := hy
        have hsel : ∀ cs b, o.op ≠ .select cs b := fun cs b => Region.noSelect_spec ok.nosel i o cs b ho
        have hLF' : Desc l k (vb ob) a0 (fun i' => decide (i' < i) && decide (i' ≠ j)) LF := hLF.vals fun i' hi' hS => by
          have : i' ≠ j := by simpa using (Bool.and_eq_true_iff.1 hS).2
          show valOf l AF i' = if i' = j then _ else _
          rw [if_neg this]
        have hag : ∀ t ∈ o.looksAt l.toArray, LF.tmps.getD t undef = a.tmps.getD t undef := fun t ht => by
          refine hLF'.agree hD ok.own t fun i' hi' hd' => ?_
          obtain ⟨h1, h2⟩ := ok.deps i hik o hol t ht i' hi' hd'
          have h3 := afterB_lt ok.back h2
          rw [hwait i' h2]
          simp [h3, h1]
        have hya := yields_agree hsel (hLF'.size.trans hD.size.symm) hag hyq
        obtain ⟨d, hdi, _⟩ := ok.own i hik
        have hdo : o.dst = some d := by unfold dstAt at hdi; rw [hol] at hdi; exact hdi
        have hvi : vb ob i = valOf l AF i := by show (if i = j then _ else _) = _; rw [if_neg e]
        have hnext : ∀ W', FCls V ty cs ob W' → St (listed.setIfInBounds i true) (a.put o.dst (valOf l AF i)) W' := fun W' hW' => by
          refine hgo _ _ _ ob inv' (by rw [hset]; unfold done; rw [if_neg (Ne.symm e)]; exact hj) hW' ?_
          have h5 := hD.step ok.own hik hdi (hslot i hik d hdi)
          rw [hvi] at h5
          rw [hdo]
          exact h5.sets fun i' _ => (hset i').symm
        simp only [wpListIn]
        rcases hya.2 with ⟨hw, hv⟩ | ⟨hw, hv⟩
        · rw [if_pos hw]
          exact wpIn_of_quiet' (K := fun a' => a' = a.put o.dst (valOf l AF i)) (hnd i o ho) hc (fun a' W' hW' ha' => by subst ha'; exact hnext W' hW') hya.1 ⟨_, hv, rfl⟩
        · rw [if_neg (by rw [hw]; simp)]
          refine ⟨hya.1 W hc, ?_⟩
          have := hnext W hc
          rw [hv] at this
          exact this
    · have hiN : i < l.length := by simpa using (Array.getElem?_eq_some_iff.1 ho).1
      have hfalse : listed.getD i false = false := getD_both hu
      have him : m ≤ i := by
        rcases Nat.lt_or_ge i m with h | h
        · rw [hall i h] at hfalse; cases hfalse
        · exact h
      have hie : i = m := by
        rcases Nat.eq_or_lt_of_le him with h | h
        · exact h.symm
        · exfalso
          have h1 := List.all_eq_true.1 ok.chain i (List.mem_range.2 (by simpa using hiN))
          simp only [Bool.or_eq_true, decide_eq_true_eq] at h1
          rcases h1 with h1 | h1
          · omega
          · obtain ⟨o', ho', e, he, hb, hon⟩ := Region.waitsFor_spec h1
            obtain rfl : o' = o := Option.some.inj (ho'.symm.trans ho)
            have h2 := hd e he hb
            rw [hon, getD_both (hrest (i - 1) (by omega) (by omega))] at h2
            cases h2
      subst hie
      have hdrop : l.drop i = o :: l.drop (i + 1) := by
        obtain ⟨h1, h2⟩ := List.getElem?_eq_some_iff.1 (show l[i]? = some o by simpa using ho)
        rw [List.drop_eq_getElem_cons h1, h2]
      rw [hdrop] at hwp
      refine wpListIn_head hwp fun a' W' h' => .inr ⟨i + 1, by omega, by omega, by simpa using hsz, fun i' hi' => ?_, fun t ht hlt => ?_, h'⟩
      · by_cases e : i' = i
        · subst e
          have : i' < listed.size := by omega
          rw [Array.getD_eq_getD_getElem?, Array.getElem?_setIfInBounds]
          simp [this]
        · rw [getD_set_ne false (Ne.symm e)]
          exact hall i' (by omega)
      · rw [getD_set_ne true (by omega)]
        exact hrest t (by omega) hlt
  · rintro listed a W hr (⟨inv, ⟨i0, hi0, hf0⟩, _⟩ | ⟨m, hkm, hml, hsz, hall, hrest, hwp⟩)
    · have := ready_nil_all ok.back inv.size hr i0 (by simp; omega)
      rw [this] at hf0
      cases hf0
    · have hmN : m = l.length := by
        rcases Nat.eq_or_lt_of_le hml with h | h
        · exact h
        · exfalso
          have h1 := ready_nil_all ok.back (by simpa using hsz) hr m (by simpa using h)
          rw [getD_both (hrest m (Nat.le_refl _) h)] at h1
          cases h1
      subst hmN
      rw [List.drop_length] at hwp
      exact hwp
end
end Go.Proofs.YtahkjagjcogeiaaDoor
/- A region that draws its order: quiet operations, one that lays a new block (or none), and effects one behind the other; quiet ones may come late. -/
namespace Go.Proofs.YtahkjagjcogeiaaDoor
open Go.RowKit
set_option linter.unusedVariables false

def pick (l : List Oper) (qs : List Nat) : List Oper := qs.filterMap fun i => l[i]?
def upS (l : List Nat) : Bool := match l with
  | [] => true
  | x :: r => r.all (fun y => decide (x < y)) && upS r
theorem upS_pair : ∀ {l : List Nat}, upS l = true → l.Pairwise (· < ·)
  | [], _ => .nil
  | x :: r, h => by
    simp only [upS, Bool.and_eq_true] at h
    exact .cons (fun y hy => by simpa using List.all_eq_true.1 h.1 y hy) (upS_pair h.2)

/-- Operations that make no call. -/
def floatB (o : Oper) : Bool := match o.op with
  | .move _ | .assign _ | .pick _ _ _ | .build _ _ | .load _ _ | .binOp _ _ _ _ _ | .unOp _ _ _ | .fieldAddr _ _ _ | .field _ _ _ | .indexAddr _ _ _ | .index _ _ _ | .extract _ _ => true
  | _ => false
theorem value_noenter {P : Program} {w w' : World} {s : Sem Value} {f : FuncId} {args : Array Value} (h : ((do pure (Next.value (← s))) : Sem Next).run P w = .ok (.enter f args) w') : False := by
  rw [Sem.run_bind] at h
  cases hs : s.run P w with
  | ok x w2 => rw [hs] at h; simp [Result.andThen, Sem.run_pure] at h
  | halt x w2 => rw [hs] at h; simp [Result.andThen] at h
theorem float_noenter {P : Program} {ρ : Operand → Value} {o : Oper} {w w' : World} {f : FuncId} {args : Array Value} (hf : floatB o = true) (h : (execOp ρ o).run P w = .ok (.enter f args) w') : False := by
  obtain ⟨dst, op, type, pos, after, guard⟩ := o
  unfold floatB at hf
  cases op <;> simp only at hf <;> first | cases hf | skip
  all_goals
    simp only [execOp] at h
    first
      | exact value_noenter h
      | (simp [Sem.run_pure] at h; done)
      | (rw [Sem.run_bind] at h
         generalize (asBool _).run P w = r at h
         cases r <;> simp [Result.andThen, Sem.run_pure] at h)

/-- The look of such a region: quiet ones qs, effects es, the new block's j (beyond the end: none). -/
def mixB (l : List Oper) (qs es : List Nat) (j : Nat) : Bool :=
  upS qs && upS es && backB l.toArray && Region.noSelect l.toArray && noDeferB l &&
  (qs.all fun i => decide (i < l.length) && i != j && !es.contains i) && (es.all fun i => decide (i < l.length) && i != j) &&
  ((List.range l.length).all fun i => qs.contains i || es.contains i || i == j) &&
  ((List.range l.length).all fun i => es.contains i || ((dstAt l i).isSome && ((List.range l.length).all fun i' => i == i' || dstAt l i != dstAt l i'))) &&
  ((List.range l.length).all fun i => ((l[i]?).map fun o => (o.looksAt l.toArray).all fun t => (List.range l.length).all fun i' => dstAt l i' != some t || (afterB l i i' && (es.contains i || qs.contains i'))).getD false) &&
  (es.all fun e => es.all fun e' => decide (e ≤ e') || afterB l e e') && (es.all fun e => decide (l.length ≤ j) || afterB l e j) &&
  (qs.all fun i => ((l[i]?).map floatB).getD false || es.all fun e => afterB l e i) && (es.all fun e => (dstAt l e).isNone)
structure MixOk (l : List Oper) (qs es : List Nat) (j : Nat) : Prop where
  up : qs.Pairwise (· < ·)
  upE : es.Pairwise (· < ·)
  back : backB l.toArray = true
  nosel : Region.noSelect l.toArray = true
  nodef : noDeferB l = true
  q : ∀ i ∈ qs, i < l.length ∧ i ≠ j ∧ i ∉ es
  e : ∀ i ∈ es, i < l.length ∧ i ≠ j
  part : ∀ i, i < l.length → i ∈ qs ∨ i ∈ es ∨ i = j
  own : ∀ i, i < l.length → i ∉ es → ∃ d, dstAt l i = some d ∧ ∀ i', i' < l.length → dstAt l i' = some d → i' = i
  deps : ∀ i, i < l.length → ∀ o, l[i]? = some o → ∀ t ∈ o.looksAt l.toArray, ∀ i', i' < l.length → dstAt l i' = some t → afterB l i i' = true ∧ (i ∉ es → i' ∈ qs)
  chain : ∀ e ∈ es, ∀ e' ∈ es, e' < e → afterB l e e' = true
  fresh : ∀ e ∈ es, j < l.length → afterB l e j = true
  floats : ∀ i ∈ qs, ∀ o, l[i]? = some o → floatB o = true ∨ ∀ e ∈ es, afterB l e i = true
  edst : ∀ e ∈ es, dstAt l e = none
theorem mixOk {l : List Oper} {qs es : List Nat} {j : Nat} (h : mixB l qs es j = true) : MixOk l qs es j := by
  unfold mixB at h
  simp only [Bool.and_eq_true] at h
  obtain ⟨⟨⟨⟨⟨⟨⟨⟨⟨⟨⟨⟨⟨h1, h2⟩, h3⟩, h4⟩, h5⟩, h6⟩, h7⟩, h8⟩, h9⟩, h10⟩, h11⟩, h12⟩, h13⟩, h14⟩ := h
  refine ⟨upS_pair h1, upS_pair h2, h3, h4, h5, fun i hi => ?_, fun i hi => ?_, fun i hi => ?_, fun i hi hne => ?_, fun i hi o ho t ht i' hi' hd => ?_, fun e he e' he' hlt => ?_, fun e he hj => ?_, fun i hi o ho => ?_, fun e he => ?_⟩
  · have := List.all_eq_true.1 h6 i hi
    simp only [Bool.and_eq_true, decide_eq_true_eq, bne_iff_ne, Bool.not_eq_true', List.contains_eq_mem, decide_eq_false_iff_not] at this
    exact ⟨this.1.1, this.1.2, this.2⟩
  · have := List.all_eq_true.1 h7 i hi
    simp only [Bool.and_eq_true, decide_eq_true_eq, bne_iff_ne] at this
    exact this
  · have := List.all_eq_true.1 h8 i (List.mem_range.2 hi)
    simp only [Bool.or_eq_true, List.contains_eq_mem, decide_eq_true_eq, beq_iff_eq] at this
    rcases this with (h | h) | h
    · exact .inl h
    · exact .inr (.inl h)
    · exact .inr (.inr h)
  · have h := List.all_eq_true.1 h9 i (List.mem_range.2 hi)
    simp only [Bool.or_eq_true, List.contains_eq_mem, decide_eq_true_eq] at h
    rcases h with h | h
    · exact absurd h hne
    · simp only [Bool.and_eq_true] at h
      obtain ⟨d, hd⟩ := Option.isSome_iff_exists.1 h.1
      refine ⟨d, hd, fun i' hi' hd' => ?_⟩
      have h' := List.all_eq_true.1 h.2 i' (List.mem_range.2 hi')
      simp only [Bool.or_eq_true, beq_iff_eq, bne_iff_ne] at h'
      rcases h' with h' | h'
      · exact h'.symm
      · exact absurd (hd.trans hd'.symm) h'
  · have h := List.all_eq_true.1 h10 i (List.mem_range.2 hi)
    rw [ho] at h
    simp only [Option.map_some, Option.getD_some] at h
    have h' := List.all_eq_true.1 (List.all_eq_true.1 h t ht) i' (List.mem_range.2 hi')
    simp only [Bool.or_eq_true, bne_iff_ne, Bool.and_eq_true, List.contains_eq_mem, decide_eq_true_eq] at h'
    rcases h' with h' | h'
    · exact absurd hd h'
    · exact ⟨h'.1, fun hn => h'.2.resolve_left hn⟩
  · have := List.all_eq_true.1 (List.all_eq_true.1 h11 e he) e' he'
    simp only [Bool.or_eq_true, decide_eq_true_eq] at this
    exact this.resolve_left (by omega)
  · have := List.all_eq_true.1 h12 e he
    simp only [Bool.or_eq_true, decide_eq_true_eq] at this
    exact this.resolve_left (by omega)
  · have := List.all_eq_true.1 h13 i hi
    rw [ho] at this
    simp only [Option.map_some, Option.getD_some, Bool.or_eq_true] at this
    rcases this with h | h
    · exact .inl h
    · exact .inr fun e he => List.all_eq_true.1 h e he
  · have := List.all_eq_true.1 h14 e he
    simpa using this

/-- The slots are there. -/
def slotsM (l : List Oper) (sz : Nat) : Bool := (List.range l.length).all fun i => ((dstAt l i).map fun d => decide (d < sz)).getD true

section
variable {F : Fence} {n : Nat} {P : Program} {l : List Oper} {qs es : List Nat} {j : Nat}
/-- The frame with the slots of the quiet operations S set. -/
structure DescM (l : List Oper) (qs : List Nat) (val : Nat → Value) (a0 : Act) (S : Nat → Bool) (a : Act) : Prop where
  defers : a.defers = a0.defers
  size : a.tmps.size = a0.tmps.size
  set_ : ∀ i ∈ qs, S i = true → ∀ d, dstAt l i = some d → a.tmps.getD d undef = val i
  other : ∀ t, (∀ i ∈ qs, S i = true → dstAt l i ≠ some t) → a.tmps.getD t undef = a0.tmps.getD t undef
def OwnQ (l : List Oper) (qs : List Nat) : Prop := ∀ i ∈ qs, ∃ d, dstAt l i = some d ∧ ∀ i' ∈ qs, dstAt l i' = some d → i' = i
theorem MixOk.ownQ (ok : MixOk l qs es j) : OwnQ l qs := fun i hi => by
  obtain ⟨d, hd, h⟩ := ok.own i (ok.q i hi).1 (ok.q i hi).2.2
  exact ⟨d, hd, fun i' hi' hd' => h i' (ok.q i' hi').1 hd'⟩
section
variable {val : Nat → Value} {a0 a a' : Act} {S S' : Nat → Bool}
theorem DescM.init (hS : ∀ i ∈ qs, S i = false) : DescM l qs val a0 S a0 := ⟨rfl, rfl, (fun i hi h => by rw [hS i hi] at h; cases h), fun _ _ => rfl⟩
theorem DescM.step (h : DescM l qs val a0 S a) (ho : OwnQ l qs) {i : Nat} (hi : i ∈ qs) {d : Tmp} (hd : dstAt l i = some d) (hsz : d < a0.tmps.size) : DescM l qs val a0 (done S i) (a.put (some d) (val i)) := by
  refine ⟨h.defers, by simp [Act.put, h.size], fun i' hi' hS d' hd' => ?_, fun t ht => ?_⟩
  · by_cases e : i' = i
    · subst e
      rw [hd] at hd'
      cases hd'
      exact getD_set_same _ _ _ (by rw [h.size]; exact hsz)
    · have hne : d ≠ d' := by
        intro e'
        subst e'
        obtain ⟨d2, h1, h2⟩ := ho i hi
        rw [hd] at h1
        cases h1
        exact e (h2 i' hi' hd')
      rw [show (a.put (some d) (val i)).tmps = a.tmps.setIfInBounds d (val i) from rfl, getD_set_other _ _ hne]
      exact h.set_ i' hi' (by simpa [done, e] using hS) d' hd'
  · have hne : d ≠ t := fun e => ht i hi (by simp [done]) (by rw [hd, e])
    rw [show (a.put (some d) (val i)).tmps = a.tmps.setIfInBounds d (val i) from rfl, getD_set_other _ _ hne]
    refine h.other t fun i' hi' hS => ht i' hi' ?_
    unfold done
    split
    · rfl
    · exact hS
theorem DescM.vals {val' : Nat → Value} (h : DescM l qs val a0 S a) (hv : ∀ i ∈ qs, S i = true → val i = val' i) : DescM l qs val' a0 S a := ⟨h.defers, h.size, fun i hi hs d hd => (h.set_ i hi hs d hd).trans (hv i hi hs), h.other⟩
theorem DescM.sets {S'' : Nat → Bool} (h : DescM l qs val a0 S a) (hv : ∀ i ∈ qs, S i = S'' i) : DescM l qs val a0 S'' a := ⟨h.defers, h.size, fun i hi hs => h.set_ i hi ((hv i hi).trans hs), fun t ht => h.other t fun i hi hs => ht i hi ((hv i hi).symm.trans hs)⟩
end

/-- What the walk of the quiet ones shows. -/
theorem quiet_yields (ok : MixOk l qs es j) {a0 AF : Act} {C : World → Prop} (hs : slotsM l a0.tmps.size = true)
    (h : wpQuietIn F n P l.toArray C (fun a2 => a2 = AF) (pick l qs) a0) :
    DescM l qs (valOf l AF) a0 (fun _ => true) AF ∧
    ∀ i ∈ qs, ∀ o, l[i]? = some o → ∃ LF, DescM l qs (valOf l AF) a0 (fun i' => decide (i' < i)) LF ∧ YieldsQuiet F n P l.toArray C o (valOf l AF i) LF := by
  have hslot : ∀ i ∈ qs, ∀ d, dstAt l i = some d → d < a0.tmps.size := fun i hi d hd => by
    have := List.all_eq_true.1 hs i (List.mem_range.2 (ok.q i hi).1)
    rw [hd] at this
    simpa using this
  obtain ⟨vs, l1, h2, y1⟩ := lex_vals _ _ h
  have hpick : ∀ (rs : List Nat), (∀ i ∈ rs, i < l.length) → pick l rs = rs.filterMap (fun i => l[i]?) ∧ (pick l rs).length = rs.length ∧ ∀ (m i : Nat), rs[m]? = some i → (pick l rs)[m]? = l[i]? := by
    intro rs
    induction rs with
    | nil => intro _; exact ⟨rfl, rfl, fun m i hm => by simp at hm⟩
    | cons r rs ih =>
      intro hr
      obtain ⟨_, i2, i3⟩ := ih (fun i hi => hr i (by simp [hi]))
      have hlt := hr r (by simp)
      have e : pick l (r :: rs) = l[r] :: pick l rs := by
        unfold pick
        rw [List.filterMap_cons, List.getElem?_eq_getElem hlt]
      refine ⟨rfl, by rw [e]; simp [i2], fun m i hm => ?_⟩
      rw [e]
      cases m with
      | zero => simp at hm; subst hm; simp [hlt]
      | succ m => simpa using i3 m i (by simpa using hm)
  obtain ⟨_, p2, p3⟩ := hpick qs (fun i hi => (ok.q i hi).1)
  have n1 : vs.length = qs.length := by rw [l1, p2]
  obtain ⟨val, hval⟩ : ∃ val : Nat → Value, val = fun i => vs.getD (qs.idxOf i) undef := ⟨_, rfl⟩
  have hnd : qs.Nodup := ok.up.imp (fun h e => by omega)
  have hidx : ∀ (m i : Nat), qs[m]? = some i → qs.idxOf i = m := fun m i hm => by
    obtain ⟨h1, h2⟩ := List.getElem?_eq_some_iff.1 hm
    rw [← h2]
    exact hnd.idxOf_getElem m h1
  have D1 : ∀ m, m ≤ qs.length → DescM l qs val a0 (fun i' => decide (qs.idxOf i' < m)) (putAll a0 ((pick l qs).take m) (vs.take m)) := by
    intro m
    induction m with
    | zero => intro _; simp only [List.take_zero, putAll]; exact DescM.init (fun i _ => by simp)
    | succ m ih =>
      intro hm
      have hqm : qs[m]? = some (qs[m]'(by omega)) := List.getElem?_eq_getElem _
      have hmem : qs[m]'(by omega) ∈ qs := List.getElem_mem _
      have hlt := (ok.q _ hmem).1
      have ho : (pick l qs)[m]? = some (l[qs[m]'(by omega)]'hlt) := by rw [p3 m _ hqm]; exact List.getElem?_eq_getElem _
      have hv : vs[m]? = some (vs[m]'(by omega)) := List.getElem?_eq_getElem _
      rw [putAll_snoc ho hv]
      obtain ⟨d, hd, _⟩ := ok.ownQ _ hmem
      have hdd : (l[qs[m]'(by omega)]'hlt).dst = some d := by
        unfold dstAt at hd
        rw [List.getElem?_eq_getElem hlt] at hd
        exact hd
      have hvm : val (qs[m]'(by omega)) = vs[m]'(by omega) := by rw [hval]; simp only; rw [hidx m _ hqm, List.getD_eq_getElem?_getD, hv]; rfl
      rw [hdd, ← hvm]
      refine ((ih (by omega)).step ok.ownQ hmem hd (hslot _ hmem d hd)).sets fun i hi => ?_
      obtain ⟨m', hm'⟩ := List.getElem?_of_mem hi
      have hi' := hidx m' i hm'
      unfold done
      by_cases e : i = qs[m]'(by omega)
      · rw [if_pos e, e, hidx m _ hqm]; simp
      · have hne : m' ≠ m := fun e' => by subst e'; exact e (by rw [hqm] at hm'; exact (Option.some.inj hm').symm)
        rw [if_neg e, hi', Bool.eq_iff_iff]; simp only [decide_eq_true_eq]; omega
  have hAF : putAll a0 (pick l qs) vs = AF := h2
  have DF : DescM l qs val a0 (fun _ => true) AF := by
    have h0 := D1 qs.length (Nat.le_refl _)
    have e1 : (pick l qs).take qs.length = pick l qs := List.take_of_length_le (by rw [p2]; exact Nat.le_refl _)
    have e2 : vs.take qs.length = vs := List.take_of_length_le (by omega)
    rw [e1, e2, hAF] at h0
    exact h0.sets fun i hi => by simp [List.idxOf_lt_length_iff.2 hi]
  have hvv : ∀ i ∈ qs, val i = valOf l AF i := fun i hi => by
    obtain ⟨d, hd, _⟩ := ok.ownQ i hi
    unfold valOf
    rw [hd]
    exact (DF.set_ i hi rfl d hd).symm
  refine ⟨DF.vals fun i hi _ => hvv i hi, fun i hi o ho => ?_⟩
  obtain ⟨m, hm⟩ := List.getElem?_of_mem hi
  have hml := (List.getElem?_eq_some_iff.1 hm).1
  have hv : vs[m]? = some (vs[m]'(by omega)) := List.getElem?_eq_getElem _
  have hy := y1 m o _ (by rw [p3 m i hm]; exact ho) hv
  have hvm : val i = vs[m]'(by omega) := by rw [hval]; simp only; rw [hidx m i hm, List.getD_eq_getElem?_getD, hv]; rfl
  rw [← hvm, hvv i hi] at hy
  refine ⟨_, ((D1 m (by omega)).vals fun i' hi' _ => hvv i' hi').sets fun i' hi' => ?_, hy⟩
  obtain ⟨m', hm'⟩ := List.getElem?_of_mem hi'
  rw [hidx m' i' hm', Bool.eq_iff_iff]
  simp only [decide_eq_true_eq]
  obtain ⟨a1, a2⟩ := List.getElem?_eq_some_iff.1 hm
  obtain ⟨b1, b2⟩ := List.getElem?_eq_some_iff.1 hm'
  have hp := List.pairwise_iff_getElem.1 ok.up
  constructor
  · intro h3
    have := hp m' m b1 a1 h3
    omega
  · intro h3
    rcases Nat.lt_trichotomy m' m with h4 | h4 | h4
    · exact h4
    · subst h4; rw [hm] at hm'; cases hm'; omega
    · have := hp m m' a1 b1 h4; omega

/-- Two frames that are alike but for some slots. -/
structure Rel (M : Tmp → Prop) (a A : Act) : Prop where
  defers : a.defers = A.defers
  size : a.tmps.size = A.tmps.size
  same : ∀ t, ¬ M t → a.tmps.getD t undef = A.tmps.getD t undef

theorem wpListIn_rel {ops : Array Oper} {o : Oper} {a A : Act} {W : World} {M : Tmp → Prop} {K K' : Act → World → Prop} {Q : Exit → Act → World → Prop} (hsel : ∀ cs b, o.op ≠ .select cs b) (hnd : ∀ c, o.op ≠ .defer c) (hdst : o.dst = none) (hR : Rel M a A) (hag : ∀ t ∈ o.looksAt ops, ¬ M t)
    (h : wpListIn F n P ops (Exit.then K (fun _ _ _ => False)) [o] A W) (hK : ∀ A' a' W', A'.tmps = A.tmps → a'.tmps = a.tmps → a'.defers = A'.defers → K A' W' → K' a' W') : wpListIn F n P ops (Exit.then K' Q) [o] a W := by
  have hag' : ∀ t ∈ o.looksAt ops, A.tmps.getD t undef = a.tmps.getD t undef := fun t ht => (hR.same t (hag t ht)).symm
  simp only [wpListIn] at h ⊢
  rw [wanted_agree hR.size.symm hag'] at h
  split
  · rename_i hw
    rw [if_pos hw] at h
    unfold Oper.wpIn at h ⊢
    rw [Oper.semAt_eq _ _ _ hnd] at h ⊢
    rw [execOp_agree hsel hag'] at h
    refine ⟨fun f hf => h.1 f (by rw [about_agree W hag']; exact hf), ?_⟩
    have h4 := h.2
    generalize (execOp a.eval o).run P W = r at h4 ⊢
    cases r with
    | ok x w' =>
      cases x <;> simp only [Oper.uponIn, Exit.then, hdst, Act.put] at h4 ⊢ <;>
        first
          | exact hK _ _ _ rfl rfl hR.defers h4
          | (refine hK _ _ _ ?_ ?_ ?_ h4 <;> simp [hR.defers]; done)
          | exact ⟨h4.1, CallsIn.mono h4.2 (fun e w'' he => by cases e <;> first | exact hK _ _ _ rfl rfl hR.defers he | exact False.elim he | (obtain ⟨_, _, he⟩ := he; exact False.elim he))⟩
          | exact ⟨h4.1, RoundIn.mono h4.2 (fun e w'' he => by cases e <;> first | exact hK _ _ _ rfl rfl hR.defers he | exact False.elim he | (obtain ⟨_, _, he⟩ := he; exact False.elim he))⟩
          | exact ⟨h4.1, RowsIn.mono h4.2 (fun v w'' he => hK _ _ _ rfl rfl hR.defers he)⟩
          | exact h4
          | exact False.elim h4
    | halt x w' => cases x <;> simp only [Oper.uponIn, Exit.then] at h4 ⊢ <;> first | exact h4 | exact False.elim h4
  · rename_i hw
    rw [if_neg hw] at h
    refine ⟨fun f hf => h.1 f (by rw [about_agree W hag']; exact hf), ?_⟩
    have h2 := h.2
    rw [hdst] at h2 ⊢
    exact hK _ _ _ rfl rfl hR.defers h2

/-- The effects, one behind the other, each in a world of the class, leaving one. -/
def wpE (F : Fence) (n : Nat) (P : Program) (ops : Array Oper) (CV : World → Prop) (Qn : Act → World → Prop) : List Oper → Act → World → Prop
  | [], a, w => Qn a w
  | o :: r, a, w => wpListIn F n P ops (Exit.then (fun a' w' => CV w' ∧ wpE F n P ops CV Qn r a' w') (fun _ _ _ => False)) [o] a w

theorem pick_cons {l : List Oper} {i : Nat} {o : Oper} {r : List Nat} (h : l[i]? = some o) : pick l (i :: r) = o :: pick l r := by
  unfold pick
  rw [List.filterMap_cons, h]

/-- THE LAW. -/
theorem wpIn_region_mix {Q : Exit → Act → World → Prop} {id : Nat} {a0 AF : Act} {w V : World} (fv : Nat → Value) (ty : TypeId) (cs : Array Value) (qs es : List Nat) (j : Nat) (dj : Tmp)
    (hm : P.follows .mixedOrders = true) (hB : mixB l qs es j = true) (hs : slotsM l a0.tmps.size = true) (hV : Below V.heap.size V w.drew)
    (hj : j < l.length → ∃ oj, l[j]? = some oj ∧ oj.dst = some dj ∧ oj.guard = none ∧ ∀ W, Below V.heap.size V W → (∀ f, oj.about P W AF.eval = some f → F.fn f) ∧ (execOp AF.eval oj).run P W = .ok (.value (fv W.heap.size)) (W.alloc (.cells cs ty)))
    (hq : ∀ C : World → Prop, (∃ W, C W) → (∀ W, C W → Below V.heap.size V W) → (∀ W W', C W → Below W.heap.size W W' → C W') → wpQuietIn F n P l.toArray C (fun a2 => a2 = AF) (pick l qs) a0)
    (htail : ∀ b W, Below V.heap.size V W → (j < l.length → V.heap.size ≤ b ∧ Blk W b ty cs) → wpE F n P l.toArray (fun W => Below V.heap.size V W) (Q .normal) (pick l es) (if j < l.length then AF.put (some dj) (fv b) else AF) W) :
    (Code.region id l.toArray true).wpIn F n P Q a0 w := by
  have ok := mixOk hB
  have hnd : noDefer l.toArray := noDefer_of ok.nodef
  have hyl : ∀ C : World → Prop, (∃ W, C W) → (∀ W, C W → Below V.heap.size V W) → (∀ W W', C W → Below W.heap.size W W' → C W') → _ := fun C h0 h1 h2 => quiet_yields ok hs (hq C h0 h1 h2)
  have DF := (hyl (fun W => Below V.heap.size V W) ⟨_, hV⟩ (fun _ h => h) (fun W W' h k => h.trans (k.mono h.size))).1
  have hslot : ∀ i, i < l.length → ∀ d, dstAt l i = some d → d < a0.tmps.size := fun i hi d hd => by
    have := List.all_eq_true.1 hs i (List.mem_range.2 hi)
    rw [hd] at this
    simpa using this
  have hje : j < l.length → j ∉ es := fun hlt he => (ok.e j he).2 rfl
  have hdj : j < l.length → dstAt l j = some dj := fun hlt => by
    obtain ⟨oj, h1, h2, _⟩ := hj hlt
    unfold dstAt; rw [h1]; exact h2
  let js : List Nat := if j < l.length then j :: qs else qs
  let vb : Option Nat → Nat → Value := fun ob i => if i = j then fv (ob.getD 0) else valOf l AF i
  have hjs : ∀ i, i ∈ js ↔ i ∈ qs ∨ (i = j ∧ j < l.length) := fun i => by
    show i ∈ (if j < l.length then j :: qs else qs) ↔ _
    by_cases h : j < l.length
    · rw [if_pos h]; simp [h]; exact Or.comm
    · rw [if_neg h]; simp [h]
  have hjlt : ∀ i ∈ js, i < l.length ∧ i ∉ es := fun i hi => by
    rcases (hjs i).1 hi with h | ⟨h1, h2⟩
    · exact ⟨(ok.q i h).1, (ok.q i h).2.2⟩
    · rw [h1]; exact ⟨h2, hje h2⟩
  have ownJ : OwnQ l js := fun i hi => by
    obtain ⟨d, hd, h⟩ := ok.own i (hjlt i hi).1 (hjlt i hi).2
    exact ⟨d, hd, fun i' hi' hd' => h i' (hjlt i' hi').1 hd'⟩
  have hvq : ∀ ob, ∀ i ∈ qs, vb ob i = valOf l AF i := fun ob i hi => by
    show (if i = j then _ else _) = _
    rw [if_neg (ok.q i hi).2.1]
  let CV : World → Prop := fun W => Below V.heap.size V W
  let Miss : Array Bool → Tmp → Prop := fun listed t => ∃ i ∈ qs, listed.getD i false = false ∧ dstAt l i = some t
  let Star : Act → Prop := fun A => A.tmps.size = a0.tmps.size ∧ (∀ i ∈ qs, ∀ d, dstAt l i = some d → A.tmps.getD d undef = valOf l AF i) ∧ ∀ t, (∀ i, i < l.length → dstAt l i ≠ some t) → A.tmps.getD t undef = a0.tmps.getD t undef
  let StA : Array Bool → Act → World → Prop := fun listed a W => listed.size = l.length ∧ (∀ e ∈ es, listed.getD e false = false) ∧ ∃ ob : Option Nat, (j < l.length → listed.getD j false = ob.isSome) ∧ (l.length ≤ j → ob = none) ∧ FCls V ty cs ob W ∧ DescM l js (vb ob) a0 (fun i => listed.getD i false) a
  let StB : Array Bool → Act → World → Prop := fun listed a W => ∃ (A : Act) (m : Nat), listed.size = l.length ∧ m ≤ es.length ∧ (∀ e ∈ es.take m, listed.getD e false = true) ∧ (∀ e ∈ es.drop m, listed.getD e false = false) ∧ (j < l.length → listed.getD j false = true) ∧ CV W ∧ Rel (Miss listed) a A ∧ Star A ∧
    (∀ i ∈ qs, listed.getD i false = false → ∀ o, l[i]? = some o → floatB o = true) ∧ wpE F n P l.toArray CV (Q .normal) (pick l (es.drop m)) A W
  have toB : ∀ listed a W, StA listed a W → (j < l.length → listed.getD j false = true) → (∀ i ∈ qs, listed.getD i false = false → ∀ o, l[i]? = some o → floatB o = true) → StB listed a W := by
    rintro listed a W ⟨hsz, hes, ob, h1, h2, hc, hD⟩ hjl hfl
    have hfacts : ∃ b, (j < l.length → ob = some b) ∧ (j < l.length → V.heap.size ≤ b ∧ Blk W b ty cs) := by
      by_cases h : j < l.length
      · have h3 := h1 h
        rw [hjl h] at h3
        obtain ⟨b, rfl⟩ := Option.isSome_iff_exists.1 h3.symm
        exact ⟨b, fun _ => rfl, fun _ => hc.2 b rfl⟩
      · exact ⟨0, fun h' => absurd h' h, fun h' => absurd h' h⟩
    obtain ⟨b, hob, hblk⟩ := hfacts
    have hw := htail b W hc.1 hblk
    refine ⟨_, 0, hsz, Nat.zero_le _, (fun e he => by simp at he), (fun e he => hes e (by simpa using he)), hjl, hc.1, ?_, ?_, hfl, by simpa using hw⟩
    · -- the frames
      by_cases h : j < l.length
      · rw [if_pos h]
        refine ⟨hD.defers.trans (show _ = (AF.put (some dj) (fv b)).defers from DF.defers.symm), by rw [hD.size]; simp [Act.put, DF.size], fun t ht => ?_⟩
        have hput : (AF.put (some dj) (fv b)).tmps = AF.tmps.setIfInBounds dj (fv b) := rfl
        by_cases e1 : t = dj
        · subst e1
          rw [hput, getD_set_same _ _ _ (by rw [DF.size]; exact hslot j h t (hdj h)), hD.set_ j ((hjs j).2 (.inr ⟨rfl, h⟩)) (hjl h) t (hdj h)]
          show (if j = j then _ else _) = _
          rw [if_pos rfl, hob h]; rfl
        · rw [hput, getD_set_other _ _ (Ne.symm e1)]
          by_cases hex : ∃ i ∈ qs, dstAt l i = some t
          · obtain ⟨i, hi, hd⟩ := hex
            have hl : listed.getD i false = true := by
              cases hc' : listed.getD i false with
              | true => rfl
              | false => exact absurd ⟨i, hi, hc', hd⟩ ht
            rw [hD.set_ i ((hjs i).2 (.inl hi)) hl t hd, hvq ob i hi, DF.set_ i hi rfl t hd]
          · rw [hD.other t (fun i hi hs hd => by
              rcases (hjs i).1 hi with h3 | ⟨h3, _⟩
              · exact hex ⟨i, h3, hd⟩
              · rw [h3, hdj h] at hd; exact e1 (Option.some.inj hd).symm), DF.other t (fun i hi _ hd => hex ⟨i, hi, hd⟩)]
      · rw [if_neg h]
        refine ⟨hD.defers.trans DF.defers.symm, hD.size.trans DF.size.symm, fun t ht => ?_⟩
        by_cases hex : ∃ i ∈ qs, dstAt l i = some t
        · obtain ⟨i, hi, hd⟩ := hex
          have hl : listed.getD i false = true := by
            cases hc' : listed.getD i false with
            | true => rfl
            | false => exact absurd ⟨i, hi, hc', hd⟩ ht
          rw [hD.set_ i ((hjs i).2 (.inl hi)) hl t hd, hvq ob i hi, DF.set_ i hi rfl t hd]
        · rw [hD.other t (fun i hi hs hd => by
            rcases (hjs i).1 hi with h3 | ⟨_, h3⟩
            · exact hex ⟨i, h3, hd⟩
            · exact h h3), DF.other t (fun i hi _ hd => hex ⟨i, hi, hd⟩)]
    · by_cases h : j < l.length
      · rw [if_pos h]
        have hput : (AF.put (some dj) (fv b)).tmps = AF.tmps.setIfInBounds dj (fv b) := rfl
        refine ⟨by rw [hput]; simp [DF.size], fun i hi d hd => ?_, fun t ht => ?_⟩
        · have hne : dj ≠ d := fun e => by
            obtain ⟨d2, h3, h4⟩ := ok.own j h (hje h)
            rw [hdj h] at h3
            cases h3
            exact (ok.q i hi).2.1 (h4 i (ok.q i hi).1 (by rw [hd, e]))
          rw [hput, getD_set_other _ _ hne]
          exact DF.set_ i hi rfl d hd
        · rw [hput, getD_set_other _ _ (fun e => ht j h (by rw [hdj h, e]))]
          exact DF.other t fun i hi _ => ht i (ok.q i hi).1
      · rw [if_neg h]
        exact ⟨DF.size, fun i hi d hd => DF.set_ i hi rfl d hd, fun t ht => DF.other t fun i hi _ => ht i (ok.q i hi).1⟩
  let St : Array Bool → Act → World → Prop := fun listed a W => StA listed a W ∨ StB listed a W
  have setD : ∀ (listed : Array Bool) (i i' : Nat), listed.size = l.length → i < l.length → (listed.setIfInBounds i true).getD i' false = done (fun i => listed.getD i false) i i' := fun listed i i' hsz hi => by
    unfold done
    by_cases e : i' = i
    · subst e
      rw [if_pos rfl, Array.getD_eq_getD_getElem?, Array.getElem?_setIfInBounds]
      have : i' < listed.size := by omega
      simp [this]
    · rw [if_neg e, getD_set_ne false (Ne.symm e)]
  have stepB : ∀ listed a W i o, l[i]? = some o → listed.getD i true = false → (∀ i', afterB l i i' = true → listed.getD i' false = true) → StB listed a W → wpListIn F n P l.toArray (Exit.then (St (listed.setIfInBounds i true)) Q) [o] a W := by
    rintro listed a W i o hol hu hwait ⟨A, m, hsz, hm', ht, hdp, hjl, hcv, hR, hSt, hfl, hwp⟩
    have hi : i < l.length := (List.getElem?_eq_some_iff.1 hol).1
    have hfalse : listed.getD i false = false := getD_both hu
    have hsel : ∀ cs b, o.op ≠ .select cs b := fun cs b => Region.noSelect_spec ok.nosel i o cs b (by simpa using hol)
    rcases ok.part i hi with hiq | hie | hij
    · obtain ⟨LF, hLF, hyq⟩ := (hyl CV ⟨_, hV⟩ (fun _ h => h) (fun W W' h k => h.trans (k.mono h.size))).2 i hiq o hol
      have hag : ∀ t ∈ o.looksAt l.toArray, LF.tmps.getD t undef = a.tmps.getD t undef := fun t ht' => by
        by_cases hex : ∃ i', i' < l.length ∧ dstAt l i' = some t
        · obtain ⟨i', hi', hd⟩ := hex
          obtain ⟨h1, h2⟩ := ok.deps i hi o hol t ht' i' hi' hd
          have h3 := h2 (ok.q i hiq).2.2
          have h4 := afterB_lt ok.back h1
          rw [hLF.set_ i' h3 (by simpa using h4) t hd, hR.same t (fun ⟨i2, h5, h6, h7⟩ => by
            obtain ⟨d, h8, h9⟩ := ok.ownQ i' h3
            rw [hd] at h8
            cases h8
            have := h9 i2 h5 h7
            subst this
            rw [hwait _ h1] at h6
            cases h6), hSt.2.1 i' h3 t hd]
        · have hno : ∀ i', i' < l.length → dstAt l i' ≠ some t := fun i' hi' hd => hex ⟨i', hi', hd⟩
          rw [hLF.other t (fun i' hi' _ => hno i' (ok.q i' hi').1), hR.same t (fun ⟨i2, h5, _, h7⟩ => hno i2 (ok.q i2 h5).1 h7), hSt.2.2 t hno]
      have hya := yields_agree hsel (hLF.size.trans (hSt.1.symm.trans hR.size.symm)) hag hyq
      obtain ⟨d, hdi, huniq⟩ := ok.ownQ i hiq
      have hdo : o.dst = some d := by unfold dstAt at hdi; rw [hol] at hdi; exact hdi
      have hnext : St (listed.setIfInBounds i true) (a.put o.dst (valOf l AF i)) W := by
        refine .inr ⟨A, m, by simpa using hsz, hm', fun e he => ?_, fun e he => ?_, fun h => ?_, hcv, ?_, hSt, fun i' hi' hf => ?_, hwp⟩
        · rw [setD _ _ _ hsz hi]; unfold done; split
          · rfl
          · exact ht e he
        · rw [setD _ _ _ hsz hi]; unfold done; rw [if_neg (fun e' => by subst e'; exact (ok.q e hiq).2.2 (List.mem_of_mem_drop he))]; exact hdp e he
        · rw [setD _ _ _ hsz hi]; unfold done; split
          · rfl
          · exact hjl h
        · rw [hdo]
          refine ⟨hR.defers, by rw [← hR.size]; simp [Act.put], fun t ht' => ?_⟩
          by_cases e : t = d
          · subst e
            rw [show (a.put (some t) (valOf l AF i)).tmps = a.tmps.setIfInBounds t (valOf l AF i) from rfl, getD_set_same _ _ _ (by rw [hR.size, hSt.1]; exact hslot i hi t hdi), hSt.2.1 i hiq t hdi]
          · rw [show (a.put (some d) (valOf l AF i)).tmps = a.tmps.setIfInBounds d (valOf l AF i) from rfl, getD_set_other _ _ (Ne.symm e)]
            refine hR.same t fun ⟨i2, h5, h6, h7⟩ => ht' ⟨i2, h5, ?_, h7⟩
            rw [setD _ _ _ hsz hi]; unfold done
            rw [if_neg (fun e' => by subst e'; rw [hdi] at h7; exact e (Option.some.inj h7).symm)]
            exact h6
        · rw [setD _ _ _ hsz hi] at hf
          unfold done at hf
          split at hf
          · cases hf
          · exact hfl i' hi' hf
      simp only [wpListIn]
      rcases hya.2 with ⟨hw, hv⟩ | ⟨hw, hv⟩
      · rw [if_pos hw]
        have h3 := hv W hcv
        unfold Oper.quietAtIn at h3
        unfold Oper.wpIn
        refine ⟨hya.1 W hcv, ?_⟩
        rw [Oper.semAt_eq _ _ _ (hnd i o (by simpa using hol))]
        have hne : ∀ f args w', (execOp a.eval o).run P W ≠ .ok (.enter f args) w' := fun f args w' h => float_noenter (hfl i hiq hfalse o hol) h
        generalize (execOp a.eval o).run P W = r at h3 hne ⊢
        cases r with
        | ok x w' =>
          cases x <;> simp only [Oper.quietUponIn] at h3 <;> simp only [Oper.uponIn]
          case value u =>
            obtain ⟨e1, e2⟩ := h3
            rw [e1, e2]
            exact hnext
          case skip =>
            obtain ⟨e1, e2⟩ := h3
            rw [e1, ← e2]
            exact hnext
          case enter f args => exact absurd rfl (hne f args w')
        | halt x w' => simp only [Oper.quietUponIn] at h3
      · rw [if_neg (by rw [hw]; simp)]
        refine ⟨hya.1 W hcv, ?_⟩
        rw [hv] at hnext
        exact hnext
    · have hmem : i ∈ es.drop m := by
        rcases (List.mem_append.1 (by rw [List.take_append_drop]; exact hie : i ∈ es.take m ++ es.drop m)) with h | h
        · rw [ht i h] at hfalse; cases hfalse
        · exact h
      have hml : m < es.length := by
        rcases Nat.lt_or_ge m es.length with h | h
        · exact h
        · rw [List.drop_of_length_le h] at hmem; cases hmem
      have hdrop : es.drop m = es[m] :: es.drop (m + 1) := List.drop_eq_getElem_cons hml
      have hie' : i = es[m] := by
        rw [hdrop] at hmem
        rcases List.mem_cons.1 hmem with h | h
        · exact h
        · exfalso
          have hlt : es[m] < i := by
            have hp := ok.upE.sublist (List.drop_sublist m es)
            rw [hdrop, List.pairwise_cons] at hp
            exact hp.1 i h
          have h1 := hwait _ (ok.chain i hie es[m] (List.getElem_mem _) hlt)
          rw [hdp es[m] (by rw [hdrop]; exact List.mem_cons_self)] at h1
          cases h1
      rw [hdrop, ← hie', pick_cons hol] at hwp
      have hdn : o.dst = none := by
        have := ok.edst i hie
        unfold dstAt at this
        rw [hol] at this
        exact this
      refine wpListIn_rel hsel (hnd i o (by simpa using hol)) hdn hR (fun t ht' => ?_) hwp ?_
      · rintro ⟨i2, h5, h6, h7⟩
        obtain ⟨h1, _⟩ := ok.deps i hi o hol t ht' i2 (ok.q i2 h5).1 h7
        rw [hwait _ h1] at h6
        cases h6
      · rintro A' a' W' eA ea ed ⟨hcv', hwp'⟩
        refine .inr ⟨A', m + 1, by simpa using hsz, hml, fun e he => ?_, fun e he => ?_, fun h => ?_, hcv', ?_, ?_, fun i' hi' hf => ?_, hwp'⟩
        · rw [setD _ _ _ hsz hi]; unfold done; split
          · rfl
          · rename_i hne
            rw [List.take_succ_eq_append_getElem hml] at he
            rcases List.mem_append.1 he with h | h
            · exact ht e h
            · exact absurd ((List.mem_singleton.1 h).trans hie'.symm) hne
        · rw [setD _ _ _ hsz hi]; unfold done
          have hne : e ≠ i := fun e' => by
            have hp := ok.upE.sublist (List.drop_sublist m es)
            rw [hdrop, List.pairwise_cons] at hp
            have := hp.1 e he
            omega
          rw [if_neg hne]
          exact hdp e (by rw [hdrop]; exact List.mem_cons_of_mem _ he)
        · rw [setD _ _ _ hsz hi]; unfold done; split
          · rfl
          · exact hjl h
        · refine ⟨ed, by rw [ea, eA]; exact hR.size, fun t ht' => ?_⟩
          rw [ea, eA]
          refine hR.same t fun ⟨i2, h5, h6, h7⟩ => ht' ⟨i2, h5, ?_, h7⟩
          rw [setD _ _ _ hsz hi]; unfold done
          rw [if_neg (fun e' => by subst e'; exact (ok.q i2 h5).2.2 hie)]
          exact h6
        · exact ⟨by rw [eA]; exact hSt.1, by rw [eA]; exact hSt.2.1, by rw [eA]; exact hSt.2.2⟩
        · rw [setD _ _ _ hsz hi] at hf
          unfold done at hf
          split at hf
          · cases hf
          · exact hfl i' hi' hf
    · subst hij
      rw [hjl hi] at hfalse
      cases hfalse
  refine wpIn_region_inv hm St ?_ ?_ ?_ ?_
  · rintro listed a W (⟨h, _⟩ | ⟨A, m, h, _⟩) <;> simpa using h
  · exact .inl ⟨by simp, fun e _ => getD_replicate_false _ _, none, fun _ => getD_replicate_false _ _, fun _ => rfl, ⟨hV, fun b e => by cases e⟩, DescM.init fun i _ => getD_replicate_false _ _⟩
  · rintro listed a W i o ho hu hd hst
    have hol : l[i]? = some o := by simpa using ho
    have hi : i < l.length := (List.getElem?_eq_some_iff.1 hol).1
    have hwait : ∀ i', afterB l i i' = true → listed.getD i' false = true := fun i' h => by
      unfold afterB at h
      rw [hol] at h
      obtain ⟨e, he, h2⟩ := List.any_eq_true.1 h
      simp only [Bool.and_eq_true, beq_iff_eq] at h2
      rw [← h2.1]
      exact hd e (by simpa using he) h2.2
    rcases hst with hA | hBB
    · have hA0 := hA
      obtain ⟨hsz, hes, ob, h1, h2, hc, hD⟩ := hA
      have hfalse : listed.getD i false = false := getD_both hu
      have hsel : ∀ cs b, o.op ≠ .select cs b := fun cs b => Region.noSelect_spec ok.nosel i o cs b ho
      rcases ok.part i hi with hiq | hie | hij
      · have hne : i ≠ j := (ok.q i hiq).2.1
        obtain ⟨LF, hLF, hyq⟩ := (hyl (FCls V ty cs ob) ⟨_, hc⟩ (fun _ h => h.1) (fun W W' h k => h.grow k)).2 i hiq o hol
        have hag : ∀ t ∈ o.looksAt l.toArray, LF.tmps.getD t undef = a.tmps.getD t undef := fun t ht' => by
          by_cases hex : ∃ i', i' < l.length ∧ dstAt l i' = some t
          · obtain ⟨i', hi', hd'⟩ := hex
            obtain ⟨h3, h4⟩ := ok.deps i hi o hol t ht' i' hi' hd'
            have h5 := h4 (ok.q i hiq).2.2
            rw [hLF.set_ i' h5 (by simpa using afterB_lt ok.back h3) t hd', hD.set_ i' ((hjs i').2 (.inl h5)) (hwait _ h3) t hd', hvq ob i' h5]
          · have hno : ∀ i', i' < l.length → dstAt l i' ≠ some t := fun i' hi' hd => hex ⟨i', hi', hd⟩
            rw [hLF.other t (fun i' hi' _ => hno i' (ok.q i' hi').1), hD.other t (fun i' hi' _ => hno i' (hjlt i' hi').1)]
        have hya := yields_agree hsel (hLF.size.trans hD.size.symm) hag hyq
        obtain ⟨d, hdi, _⟩ := ok.ownQ i hiq
        have hdo : o.dst = some d := by unfold dstAt at hdi; rw [hol] at hdi; exact hdi
        have hnext : ∀ W', FCls V ty cs ob W' → St (listed.setIfInBounds i true) (a.put o.dst (valOf l AF i)) W' := fun W' hW' => by
          refine .inl ⟨by simpa using hsz, fun e he => ?_, ob, fun h => ?_, h2, hW', ?_⟩
          · rw [setD _ _ _ hsz hi]; unfold done
            rw [if_neg (fun e' => by subst e'; exact (ok.q e hiq).2.2 he)]
            exact hes e he
          · rw [setD _ _ _ hsz hi]; unfold done
            rw [if_neg (Ne.symm hne)]
            exact h1 h
          · have h5 := hD.step ownJ ((hjs i).2 (.inl hiq)) hdi (hslot i hi d hdi)
            rw [hvq ob i hiq] at h5
            rw [hdo]
            exact h5.sets fun i' _ => (setD _ _ _ hsz hi).symm
        simp only [wpListIn]
        rcases hya.2 with ⟨hw, hv⟩ | ⟨hw, hv⟩
        · rw [if_pos hw]
          exact wpIn_of_quiet' (K := fun a' => a' = a.put o.dst (valOf l AF i)) (hnd i o ho) hc (fun a' W' hW' ha' => by subst ha'; exact hnext W' hW') hya.1 ⟨_, hv, rfl⟩
        · rw [if_neg (by rw [hw]; simp)]
          refine ⟨hya.1 W hc, ?_⟩
          have := hnext W hc
          rw [hv] at this
          exact this
      · refine stepB listed a W i o hol hu hwait (toB listed a W hA0 (fun h => hwait j (ok.fresh i hie h)) fun i' hi' hf o' ho' => ?_)
        rcases ok.floats i' hi' o' ho' with h | h
        · exact h
        · rw [hwait i' (h i hie)] at hf
          cases hf
      · subst hij
        obtain ⟨oj, hoj, hdd, hgj, hfr⟩ := hj hi
        obtain rfl : oj = o := Option.some.inj (hoj.symm.trans hol)
        have hag : ∀ t ∈ oj.looksAt l.toArray, a.tmps.getD t undef = AF.tmps.getD t undef := fun t ht' => by
          by_cases hex : ∃ i', i' < l.length ∧ dstAt l i' = some t
          · obtain ⟨i', hi', hd'⟩ := hex
            obtain ⟨h3, h4⟩ := ok.deps i hi oj hol t ht' i' hi' hd'
            have h5 := h4 (hje hi)
            rw [hD.set_ i' ((hjs i').2 (.inl h5)) (hwait _ h3) t hd', hvq ob i' h5, DF.set_ i' h5 rfl t hd']
          · have hno : ∀ i', i' < l.length → dstAt l i' ≠ some t := fun i' hi' hd => hex ⟨i', hi', hd⟩
            rw [hD.other t (fun i' hi' _ => hno i' (hjlt i' hi').1), DF.other t (fun i' hi' _ => hno i' (ok.q i' hi').1)]
        obtain ⟨hab, hrun⟩ := hfr W hc.1
        have hwant : Region.wanted oj (yielded l.toArray a.tmps) = true := by unfold Region.wanted; rw [hgj]
        simp only [wpListIn]
        rw [if_pos hwant]
        unfold Oper.wpIn
        refine ⟨fun f hf => hab f (by rw [← about_agree W hag]; exact hf), ?_⟩
        rw [Oper.semAt_eq _ _ _ (hnd i oj ho), execOp_agree hsel hag, hrun]
        show Exit.then _ Q .normal _ _
        have hob : ob = none := by
          have h3 := h1 hi
          rw [hfalse] at h3
          cases ob with
          | none => rfl
          | some b => cases h3
        subst hob
        refine .inl ⟨by simpa using hsz, fun e he => ?_, some W.heap.size, fun _ => ?_, fun h => absurd hi (by omega), ⟨hc.1.alloc hc.1.size _, fun b hb => by cases hb; exact ⟨hc.1.size, Blk.new W _ _⟩⟩, ?_⟩
        · rw [setD _ _ _ hsz hi]; unfold done
          rw [if_neg (fun e' => by subst e'; exact hje hi he)]
          exact hes e he
        · rw [setD _ _ _ hsz hi]; simp [done]
        · have hD' : DescM l js (vb (some W.heap.size)) a0 (fun i => listed.getD i false) a := hD.vals fun i' hi' hS => by
            have hne : i' ≠ i := fun e => by subst e; rw [hfalse] at hS; cases hS
            show (if i' = i then _ else _) = if i' = i then _ else _
            rw [if_neg hne, if_neg hne]
          have h5 := hD'.step ownJ ((hjs i).2 (.inr ⟨rfl, hi⟩)) (hdj hi) (hslot i hi dj (hdj hi))
          have hvj : vb (some W.heap.size) i = fv W.heap.size := by show (if i = i then _ else _) = _; rw [if_pos rfl]; rfl
          rw [hvj] at h5
          rw [hdd]
          exact h5.sets fun i' _ => (setD _ _ _ hsz hi).symm
    · exact stepB listed a W i o hol hu hwait hBB
  · rintro listed a W hr hst
    have hall : ∀ listed a W, St listed a W → Region.ready .any l.toArray listed = [] → ∀ i, i < l.length → listed.getD i false = true := by
      rintro listed a W (⟨h, _⟩ | ⟨A, m, h, _⟩) hr i hi <;> exact ready_nil_all ok.back (by simpa using h) hr i (by simpa using hi)
    have hal := hall listed a W hst hr
    have hBB : StB listed a W := by
      rcases hst with h | h
      · exact toB listed a W h (fun h' => hal j h') (fun i hi hf => by rw [hal i (ok.q i hi).1] at hf; cases hf)
      · exact h
    obtain ⟨A, m, hsz, hm', ht, hdp, hjl, hcv, hR, hSt, hfl, hwp⟩ := hBB
    have hnil : es.drop m = [] := by
      cases h : es.drop m with
      | nil => rfl
      | cons e r =>
        have h1 := hdp e (by rw [h]; simp)
        rw [hal e (ok.e e (List.mem_of_mem_drop (by rw [h]; simp))).1] at h1
        cases h1
    rw [hnil] at hwp
    have hEq : a = A := by
      obtain ⟨t, d⟩ := a
      obtain ⟨t', d'⟩ := A
      have e1 : d = d' := hR.defers
      have s1 : t.size = t'.size := hR.size
      have e2 : t = t' := by
        apply Array.ext s1
        intro i h1 h2
        have := hR.same i (fun ⟨i2, h5, h6, _⟩ => by rw [hal i2 (ok.q i2 h5).1] at h6; cases h6)
        simpa [h1, h2] using this
      rw [e1, e2]
    subst hEq
    exact hwp

/-- By a mask. -/
def pickB : List Oper → List Bool → List Oper
  | o :: l, true :: bs => o :: pickB l bs
  | _ :: l, false :: bs => pickB l bs
  | _, _ => []
theorem quiet_of {V : World} {AF a0 : Act} (hq : ∀ (σ : Type) (_ : Nonempty σ) (of : σ → World), (∀ z, Below V.heap.size V (of z)) → (∀ z W', Below (of z).heap.size (of z) W' → Cls of W') → wpQuietIn F n P l.toArray (Cls of) (fun a2 => a2 = AF) (pick l qs) a0) :
    ∀ C : World → Prop, (∃ W, C W) → (∀ W, C W → Below V.heap.size V W) → (∀ W W', C W → Below W.heap.size W W' → C W') → wpQuietIn F n P l.toArray C (fun a2 => a2 = AF) (pick l qs) a0 := by
  rintro C ⟨W0, h0⟩ h1 h2
  have e : C = Cls (fun z : { W : World // C W } => z.1) := by
    funext W
    exact propext ⟨fun h => ⟨⟨W, h⟩, rfl⟩, fun ⟨z, hz⟩ => by rw [hz]; exact z.2⟩
  rw [e]
  exact hq _ ⟨⟨W0, h0⟩⟩ _ (fun z => h1 _ z.2) (fun z W' hb => ⟨⟨W', h2 _ _ z.2 hb⟩, rfl⟩)

/-- THE LAW, a new block among the operations. -/
theorem wpIn_region_new {Q : Exit → Act → World → Prop} {id : Nat} {a0 AF : Act} {w V : World} {oj : Oper} {dj : Tmp} (fv : Nat → Value) (ty : TypeId) (cs : Array Value) (qs es : List Nat) (j : Nat) (mq me : List Bool) (hmq : pick l qs = pickB l mq) (hme : pick l es = pickB l me)
    (hm : P.follows .mixedOrders = true) (hB : (mixB l qs es j && decide (j < l.length)) = true) (hs : slotsM l a0.tmps.size = true) (hV : Below V.heap.size V w.drew) (hoj : l[j]? = some oj) (hdj : oj.dst = some dj) (hgj : oj.guard = none)
    (hq : ∀ (σ : Type) (_ : Nonempty σ) (of : σ → World), (∀ z, Below V.heap.size V (of z)) → (∀ z W', Below (of z).heap.size (of z) W' → Cls of W') → wpQuietIn F n P l.toArray (Cls of) (fun a2 => a2 = AF) (pickB l mq) a0)
    (hfresh : ∀ W, Below V.heap.size V W → (∀ f, oj.about P W AF.eval = some f → F.fn f) ∧ (execOp AF.eval oj).run P W = .ok (.value (fv W.heap.size)) (W.alloc (.cells cs ty)))
    (htail : ∀ b W, Below V.heap.size V W → V.heap.size ≤ b → Blk W b ty cs → wpE F n P l.toArray (fun W => Below V.heap.size V W) (Q .normal) (pickB l me) (AF.put (some dj) (fv b)) W) :
    (Code.region id l.toArray true).wpIn F n P Q a0 w := by
  rw [Bool.and_eq_true, decide_eq_true_eq] at hB
  rw [← hmq] at hq
  rw [← hme] at htail
  exact wpIn_region_mix fv ty cs qs es j dj hm hB.1 hs hV (fun _ => ⟨oj, hoj, hdj, hgj, hfresh⟩) (quiet_of hq) (fun b W h1 h2 => by rw [if_pos hB.2]; exact htail b W h1 (h2 hB.2).1 (h2 hB.2).2)

/-- THE LAW, without a new block. -/
theorem wpIn_region_old {Q : Exit → Act → World → Prop} {id : Nat} {a0 AF : Act} {w V : World} (qs es : List Nat) (mq me : List Bool) (hmq : pick l qs = pickB l mq) (hme : pick l es = pickB l me)
    (hm : P.follows .mixedOrders = true) (hB : mixB l qs es l.length = true) (hs : slotsM l a0.tmps.size = true) (hV : Below V.heap.size V w.drew)
    (hq : ∀ (σ : Type) (_ : Nonempty σ) (of : σ → World), (∀ z, Below V.heap.size V (of z)) → (∀ z W', Below (of z).heap.size (of z) W' → Cls of W') → wpQuietIn F n P l.toArray (Cls of) (fun a2 => a2 = AF) (pickB l mq) a0)
    (htail : ∀ W, Below V.heap.size V W → wpE F n P l.toArray (fun W => Below V.heap.size V W) (Q .normal) (pickB l me) AF W) :
    (Code.region id l.toArray true).wpIn F n P Q a0 w := by
  rw [← hmq] at hq
  rw [← hme] at htail
  exact wpIn_region_mix (fun _ => undef) 0 #[] qs es l.length 0 hm hB hs hV (fun h => absurd h (Nat.lt_irrefl _)) (quiet_of hq) (fun b W h1 _ => by rw [if_neg (Nat.lt_irrefl _)]; exact htail W h1)

theorem wpE_nil {ops : Array Oper} {CV : World → Prop} {Qn : Act → World → Prop} {a : Act} {w : World} (h : Qn a w) : wpE F n P ops CV Qn [] a w := h
theorem wpE_cons {ops : Array Oper} {CV : World → Prop} {Qn : Act → World → Prop} {o : Oper} {r : List Oper} {a : Act} {w : World} (h : wpListIn F n P ops (Exit.then (fun a' w' => CV w' ∧ wpE F n P ops CV Qn r a' w') (fun _ _ _ => False)) [o] a w) : wpE F n P ops CV Qn (o :: r) a w := h
end
end Go.Proofs.YtahkjagjcogeiaaDoor
