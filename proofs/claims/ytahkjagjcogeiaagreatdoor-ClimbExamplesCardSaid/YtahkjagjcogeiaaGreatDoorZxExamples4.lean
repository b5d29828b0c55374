/- Part 4 of the texts of this claim, joined. -/
import Derived.Maps.RangeWalk
import Derived.Maps.OwnIn
import Derived.WideKeyPair
import Derived.Deep.Cut
import Derived.Laws.StructEq
import Derived.Test.YtahkjagjcogeiaaGreatDoorZxExamples3
set_option linter.unusedVariables false
/- climb.chart.walked: a list of links followed. -/
namespace Go.Proofs.YtahkjagjcogeiaaGreatDoor
section
open Go.RowKit Go.Shelf
attribute [local go_sem] Oper.semAt_some
theorem fromK_t {n₀ g1 g2 : Nat} {A B C : World} (h : FromK n₀ g1 g2 A B) (k : FromK n₀ g1 g2 B C) : FromK n₀ g1 g2 A C := ⟨h.1.trans k.1, k.2.1.trans h.2.1, k.2.2.trans h.2.2⟩
theorem fromK_b {n₀ g1 g2 : Nat} {w : World} (h1 : g1 < w.heap.size) (h2 : g2 < w.heap.size) (h0 : n₀ ≤ w.heap.size) (W : World) (l : Nat) (o o' : Obj) (hl : w.heap.size ≤ l) (h : W.heap[l]? = some o) (hc : o.isCells = false) (hw : o.isWalk = false) : FromK n₀ g1 g2 W (W.putObj l o') :=
 ⟨belowK_b h0 W l o o' hl h hc hw, World.putObj_heap_other (by omega), World.putObj_heap_other (by omega)⟩
theorem fromK_below {n₀ g1 g2 : Nat} {W W' : World} (hb : Below W.heap.size W W') (h1 : g1 < W.heap.size) (h2 : g2 < W.heap.size) (h0 : n₀ ≤ W.heap.size) : FromK n₀ g1 g2 W W' := ⟨hb.mono h0, hb.block _ h1, hb.block _ h2⟩
theorem stepF_none {t : Town} {p : Price} {u i : Int} (h : ∀ y ∈ outs false p u t.links, y.1.id ≠ i) : stepF t p u i = none := by
 unfold stepF
 rw [List.findSome?_eq_none_iff]
 intro x hx
 by_cases e : x.id = i
 ·rw [if_pos e]
  cases hl : leads false p x u with
  | none => rfl
  | some r => exact absurd e (h (x, r.1, r.2) (by unfold outs; rw [List.mem_filterMap]; exact ⟨x, hx, by rw [hl]; rfl⟩))
 ·rw [if_neg e]
theorem outs_leads {dk : Bool} {p : Price} {u : Int} {l : List Link} {y : Link × Int × Cost} (h : y ∈ outs dk p u l) : y.1 ∈ l ∧ leads dk p y.1 u = some (y.2.1, y.2.2) := by
 unfold outs at h
 rw [List.mem_filterMap] at h
 obtain ⟨x, hx, h1⟩ := h
 cases hl : leads dk p x u with
 | none => rw [hl] at h1; cases h1
 | some r => rw [hl] at h1; cases h1; exact ⟨hx, hl⟩
structure WalkSt (w : World) (T : Array Value) (t : Town) (p : Price) (place : Int) (l : List Int) (k : Nat) (at_ : Int) (co : Cost) (W : World) : Prop where
 bel : Below w.heap.size w W
 ch : Blk W w.heap.size 107 T
 rs : Blk W (w.heap.size + 1) 99 #[.int .i64 0, .int .i64 0, .int .i64 0, .int .i64 0, .int .i64 0, .slice none 0 0]
 wk : Blk W (w.heap.size + 1 + 1) 99 #[.int .i64 at_, .int .i64 co.a, .int .i64 co.b, .int .i64 co.c, .int .i64 co.d, .slice none 0 0]
theorem WalkSt.below {w W W' : World} {T : Array Value} {t : Town} {p : Price} {place : Int} {l : List Int} {k : Nat} {at_ : Int} {co : Cost} (h : WalkSt w T t p place l k at_ co W) (hb : Below W.heap.size W W') : WalkSt w T t p place l k at_ co W' :=
 ⟨h.bel.trans (hb.mono h.bel.size), h.ch.below hb h.ch.lt, h.rs.below hb h.rs.lt, h.wk.below hb h.wk.lt⟩
theorem WalkSt.shut {w W W' : World} {S : Nat} {T : Array Value} {t : Town} {p : Price} {place : Int} {l : List Int} {k : Nat} {at_ : Int} {co : Cost} (h : WalkSt w T t p place l k at_ co W) (hs : Shut S W W') (hS : w.heap.size ≤ S) : WalkSt w T t p place l k at_ co W' :=
 ⟨h.bel.trans (hs.below.mono hS), hs.blk h.ch, hs.blk h.rs, hs.blk h.wk⟩
theorem Marks.setCell {B : Nat} {W : World} {ds : List Deferred} (h : Marks B W ds) {g : Nat} {t : TypeId} {cs : Array Value} (hb : Blk W g t cs) (i : Nat) (v : Value) : Marks B (W.setCell ⟨g, i, none⟩ v) ds :=
 h.keep fun d hd r hr h0 => (Below.heap_setCell W ⟨g, i, none⟩ v r (by
  intro e
  have e' : r = g := e
  subst e'
  unfold Blk at hb
  rw [hb] at h0
  cases h0)).trans h0
def WalkedOut (w : World) (r : Option (Int × Cost)) (e : Ending) (w' : World) : Prop :=
 ∃ (x : Int) (co : Cost), e = .returned (.tuple #[.agg #[.int .i64 x, .int .i64 co.a, .int .i64 co.b, .int .i64 co.c, .int .i64 co.d, .slice none 0 0], .bool r.isSome]) ∧ (∀ q, r = some q → q = (x, co)) ∧ Below w.heap.size w w'
structure WalkIn (w : World) (T : Array Value) (t : Town) (p : Price) (place : Int) (l : List Int) (k : Nat) (at_ : Int) (co : Cost) (id : Int) (ds : List Deferred) (B10 : Nat) (found : Bool) (S : Nat) (W : World) : Prop where
 st : WalkSt w T t p place l k at_ co W
 b10 : Blk W B10 3 #[.int .i64 id]
 b11 : Blk W (B10 + 1) 4 #[.bool found]
 marks : Marks w.heap.size W ds
 sz : S ≤ W.heap.size
section
variable {w W W' : World} {T : Array Value} {t : Town} {p : Price} {place : Int} {l : List Int} {k : Nat} {at_ : Int} {co : Cost} {id : Int} {ds : List Deferred} {B10 : Nat} {found : Bool} {S : Nat}
theorem WalkIn.below (h : WalkIn w T t p place l k at_ co id ds B10 found S W) (hb : Below W.heap.size W W') : WalkIn w T t p place l k at_ co id ds B10 found S W' :=
 ⟨h.st.below hb, h.b10.below hb h.b10.lt, h.b11.below hb h.b11.lt, h.marks.below hb, Nat.le_trans h.sz hb.size⟩
theorem WalkIn.shut (h : WalkIn w T t p place l k at_ co id ds B10 found S W) (hs : Shut S W W') (hS : w.heap.size ≤ S) (hd : ∀ d ∈ ds, ∀ r, d.target = .collected r → r < S) : WalkIn w T t p place l k at_ co id ds B10 found S W' :=
 ⟨h.st.shut hs hS, hs.blk h.b10, hs.blk h.b11, h.marks.shut hs hd, Nat.le_trans h.sz hs.below.size⟩
theorem WalkSt.put (h : WalkSt w T t p place l k at_ co W) (v : Int) (c : Cost) : WalkSt w T t p place l k v c (((((W.setCell ⟨w.heap.size + 1 + 1, 0, none⟩ (.int .i64 v)).setCell ⟨w.heap.size + 1 + 1, 1, none⟩ (.int .i64 c.a)).setCell ⟨w.heap.size + 1 + 1, 2, none⟩ (.int .i64 c.b)).setCell ⟨w.heap.size + 1 + 1, 3, none⟩ (.int .i64 c.c)).setCell ⟨w.heap.size + 1 + 1, 4, none⟩ (.int .i64 c.d)) := by
 have f : ∀ {g : Nat} {ty : TypeId} {cs : Array Value}, Blk W g ty cs → g ≠ w.heap.size + 1 + 1 → Blk (((((W.setCell ⟨w.heap.size + 1 + 1, 0, none⟩ (.int .i64 v)).setCell ⟨w.heap.size + 1 + 1, 1, none⟩ (.int .i64 c.a)).setCell ⟨w.heap.size + 1 + 1, 2, none⟩ (.int .i64 c.b)).setCell ⟨w.heap.size + 1 + 1, 3, none⟩ (.int .i64 c.c)).setCell ⟨w.heap.size + 1 + 1, 4, none⟩ (.int .i64 c.d)) g ty cs :=
  fun b hne => ((((b.far (p := ⟨w.heap.size + 1 + 1, 0, none⟩) hne _).far (p := ⟨w.heap.size + 1 + 1, 1, none⟩) hne _).far (p := ⟨w.heap.size + 1 + 1, 2, none⟩) hne _).far (p := ⟨w.heap.size + 1 + 1, 3, none⟩) hne _).far (p := ⟨w.heap.size + 1 + 1, 4, none⟩) hne _
 exact ⟨((((h.bel.setCell (p := ⟨w.heap.size + 1 + 1, 0, none⟩) (by simp; omega) _).setCell (p := ⟨w.heap.size + 1 + 1, 1, none⟩) (by simp; omega) _).setCell (p := ⟨w.heap.size + 1 + 1, 2, none⟩) (by simp; omega) _).setCell (p := ⟨w.heap.size + 1 + 1, 3, none⟩) (by simp; omega) _).setCell (p := ⟨w.heap.size + 1 + 1, 4, none⟩) (by simp; omega) _,
  f h.ch (by omega), f h.rs (by omega), ((((h.wk.set_ 0 _).set_ 1 _).set_ 2 _).set_ 3 _).set_ 4 _⟩
theorem WalkIn.put (h : WalkIn w T t p place l k at_ co id ds B10 found S W) (hB : w.heap.size + 1 + 1 < B10) (v : Int) (c : Cost) : WalkIn w T t p place l k v c id ds B10 true S ((((((W.setCell ⟨w.heap.size + 1 + 1, 0, none⟩ (.int .i64 v)).setCell ⟨w.heap.size + 1 + 1, 1, none⟩ (.int .i64 c.a)).setCell ⟨w.heap.size + 1 + 1, 2, none⟩ (.int .i64 c.b)).setCell ⟨w.heap.size + 1 + 1, 3, none⟩ (.int .i64 c.c)).setCell ⟨w.heap.size + 1 + 1, 4, none⟩ (.int .i64 c.d)).setCell ⟨B10 + 1, 0, none⟩ (.bool true)) ∧ KeepsFrom S W ((((((W.setCell ⟨w.heap.size + 1 + 1, 0, none⟩ (.int .i64 v)).setCell ⟨w.heap.size + 1 + 1, 1, none⟩ (.int .i64 c.a)).setCell ⟨w.heap.size + 1 + 1, 2, none⟩ (.int .i64 c.b)).setCell ⟨w.heap.size + 1 + 1, 3, none⟩ (.int .i64 c.c)).setCell ⟨w.heap.size + 1 + 1, 4, none⟩ (.int .i64 c.d)).setCell ⟨B10 + 1, 0, none⟩ (.bool true)) := by
 have s5 := h.st.put v c
 have f : ∀ {g : Nat} {ty : TypeId} {cs : Array Value}, Blk W g ty cs → g ≠ w.heap.size + 1 + 1 → Blk (((((W.setCell ⟨w.heap.size + 1 + 1, 0, none⟩ (.int .i64 v)).setCell ⟨w.heap.size + 1 + 1, 1, none⟩ (.int .i64 c.a)).setCell ⟨w.heap.size + 1 + 1, 2, none⟩ (.int .i64 c.b)).setCell ⟨w.heap.size + 1 + 1, 3, none⟩ (.int .i64 c.c)).setCell ⟨w.heap.size + 1 + 1, 4, none⟩ (.int .i64 c.d)) g ty cs :=
  fun b hne => ((((b.far (p := ⟨w.heap.size + 1 + 1, 0, none⟩) hne _).far (p := ⟨w.heap.size + 1 + 1, 1, none⟩) hne _).far (p := ⟨w.heap.size + 1 + 1, 2, none⟩) hne _).far (p := ⟨w.heap.size + 1 + 1, 3, none⟩) hne _).far (p := ⟨w.heap.size + 1 + 1, 4, none⟩) hne _
 have b0 := f h.b10 (by omega)
 have b1 := f h.b11 (by omega)
 have far : ∀ {g : Nat} {ty : TypeId} {cs : Array Value}, Blk (((((W.setCell ⟨w.heap.size + 1 + 1, 0, none⟩ (.int .i64 v)).setCell ⟨w.heap.size + 1 + 1, 1, none⟩ (.int .i64 c.a)).setCell ⟨w.heap.size + 1 + 1, 2, none⟩ (.int .i64 c.b)).setCell ⟨w.heap.size + 1 + 1, 3, none⟩ (.int .i64 c.c)).setCell ⟨w.heap.size + 1 + 1, 4, none⟩ (.int .i64 c.d)) g ty cs → g ≠ B10 + 1 → Blk ((((((W.setCell ⟨w.heap.size + 1 + 1, 0, none⟩ (.int .i64 v)).setCell ⟨w.heap.size + 1 + 1, 1, none⟩ (.int .i64 c.a)).setCell ⟨w.heap.size + 1 + 1, 2, none⟩ (.int .i64 c.b)).setCell ⟨w.heap.size + 1 + 1, 3, none⟩ (.int .i64 c.c)).setCell ⟨w.heap.size + 1 + 1, 4, none⟩ (.int .i64 c.d)).setCell ⟨B10 + 1, 0, none⟩ (.bool true)) g ty cs := fun b hne => b.far (p := ⟨B10 + 1, 0, none⟩) hne _
 have W1 := h.st.wk.set_ 0 (.int .i64 v)
 have W2 := W1.set_ 1 (.int .i64 c.a)
 have W3 := W2.set_ 2 (.int .i64 c.b)
 have W4 := W3.set_ 3 (.int .i64 c.c)
 have m5 := ((((h.marks.setCell h.st.wk 0 (.int .i64 v)).setCell W1 1 (.int .i64 c.a)).setCell W2 2 (.int .i64 c.b)).setCell W3 3 (.int .i64 c.c)).setCell W4 4 (.int .i64 c.d)
 refine ⟨⟨⟨s5.bel.setCell (p := ⟨B10 + 1, 0, none⟩) (by simp; omega) _, far s5.ch (by omega), far s5.rs (by omega), far s5.wk (by omega)⟩, far b0 (by omega), b1.set_ 0 _, m5.setCell b1 0 _, ?_⟩, ?_⟩
 ·have := h.sz
  simpa [World.setCell] using this
 ·exact (((((keepsFrom_setCell S W _ _).trans (keepsFrom_setCell S _ _ _)).trans (keepsFrom_setCell S _ _ _)).trans (keepsFrom_setCell S _ _ _)).trans (keepsFrom_setCell S _ _ _)).trans (keepsFrom_setCell S _ _ _)
theorem Small.walk (h : Walk t false p place at_ co l) (ht : Fine t) (hp : Fair p) (hl : l.length ≤ 40) : Small co := by
 have := h.bound ht hp
 exact ⟨by omega, by omega, by omega, by omega⟩
end
theorem ret6 {w W : World} {B g : Nat} {t : TypeId} {ds : List Deferred} {z0 z1 z2 z3 z4 z5 : Value} (R : Blk W g t #[z0, z1, z2, z3, z4, z5]) (M : Marks B W ds) (L : Below B w W) (hg : B ≤ g) (v0 v1 v2 v3 v4 v5 : Value) :
  Blk ((((((W.setCell ⟨g, 0, none⟩ v0).setCell ⟨g, 1, none⟩ v1).setCell ⟨g, 2, none⟩ v2).setCell ⟨g, 3, none⟩ v3).setCell ⟨g, 4, none⟩ v4).setCell ⟨g, 5, none⟩ v5) g t #[v0, v1, v2, v3, v4, v5] ∧
  Marks B ((((((W.setCell ⟨g, 0, none⟩ v0).setCell ⟨g, 1, none⟩ v1).setCell ⟨g, 2, none⟩ v2).setCell ⟨g, 3, none⟩ v3).setCell ⟨g, 4, none⟩ v4).setCell ⟨g, 5, none⟩ v5) ds ∧
  Below B w ((((((W.setCell ⟨g, 0, none⟩ v0).setCell ⟨g, 1, none⟩ v1).setCell ⟨g, 2, none⟩ v2).setCell ⟨g, 3, none⟩ v3).setCell ⟨g, 4, none⟩ v4).setCell ⟨g, 5, none⟩ v5) := by
 have R1 := R.set_ 0 v0
 have R2 := R1.set_ 1 v1
 have R3 := R2.set_ 2 v2
 have R4 := R3.set_ 3 v3
 have R5 := R4.set_ 4 v4
 exact ⟨R5.set_ 5 v5, (((((M.setCell R 0 v0).setCell R1 1 v1).setCell R2 2 v2).setCell R3 3 v3).setCell R4 4 v4).setCell R5 5 v5,
  (((((L.setCell (p := ⟨g, 0, none⟩) hg _).setCell (p := ⟨g, 1, none⟩) hg _).setCell (p := ⟨g, 2, none⟩) hg _).setCell (p := ⟨g, 3, none⟩) hg _).setCell (p := ⟨g, 4, none⟩) hg _).setCell (p := ⟨g, 5, none⟩) hg _⟩
theorem drop_at {α : Type} {l : List α} {k : Nat} {x : α} (h : l[k]? = some x) : l.drop k = x :: l.drop (k + 1) := by
 obtain ⟨hk, e⟩ := List.getElem?_eq_some_iff.1 h
 rw [List.drop_eq_getElem_cons hk, e]
theorem plus_cls {W : World} {l' n : Nat} (x y : Cost) (hx : Small x) (hy : Small y) {σ : Type} {of : σ → World} (h1 : ∀ z, Below W.heap.size W (of z)) (h2 : ∀ V, Below W.heap.size W V → Cls of V) (z : σ) :
  CallsIn (Fence.wide.inRound l') n Tryz.prog 106 #[.agg #[.int .i64 x.a, .int .i64 x.b, .int .i64 x.c, .int .i64 x.d], .agg #[.int .i64 y.a, .int .i64 y.b, .int .i64 y.c, .int .i64 y.d]] (of z) fun e w'' => e = .returned (.agg #[.int .i64 (addC x y).a, .int .i64 (addC x y).b, .int .i64 (addC x y).c, .int .i64 (addC x y).d]) ∧ Cls of w'' :=
 (CallsIn.inRound l' (callsIn_wide.2 (plus_any x y (of z) hx hy))).mono fun e w'' ⟨he, hb⟩ => ⟨he, h2 _ ((h1 z).trans (hb.mono (h1 z).size))⟩
theorem Small.leads {t : Town} {p : Price} {u v : Int} {x : Link} {c : Cost} (hx : x ∈ t.links) (ht : Fine t) (hp : Fair p) (h : leads false p x u = some (v, c)) : Small c := by
 have := leads_cost hx ht hp h
 exact ⟨by omega, by omega, by omega, by omega⟩
set_option maxRecDepth 100000 in
set_option maxHeartbeats 16000000 in
theorem walked_in (A : Option Addr) (nn c : Nat) (A' : Option Addr) (m d : Nat) (F : FuncId) (C : Array Value) (p : Price) (t : Town) (place : Int) (A2 : Option Addr) (k2 c2 : Nat) (l : List Int) (w : World)
  (hm : m ≤ 20) (hk2 : k2 ≤ 40) (ht : LinksAt w w.heap.size A' m t.links) (hp : PriceAt w p F C) (hfine : Fine t) (hfair : Fair p) (hr : IntsAt w w.heap.size A2 k2 l) :
  CallsIn Fence.wide 9 Tryz.prog 95 #[.agg #[.slice A nn c, .slice A' m d, .bool false, .func (.func F) #[] C], .int .i64 place, .slice A2 k2 c2] w (WalkedOut w (walkS t p (place, zeroC) l)) := by
 have HT := lh ht
 have HP := lh hp
 have HR := lh hr
 have HLl := lh hr.len
 have HFI := lh hfine
 have HFA := lh hfair
 have HF : Hid (∀ x ∈ t.links, Fit x) := lh fun x hx => ⟨hfine.steps x hx, hfine.paces x hx⟩
 have h40 : decide ((40 : Int) < (k2 : Int)) = false := by simp; omega
 clear ht hp hr hfine hfair
 refine callsIn_of_wp_marks Tryz.func95 rfl trivial ?_ rfl
 simp only [Tryz.ntmps95, List.size_toArray, List.length_cons, List.length_nil, Nat.reduceAdd, Nat.reduceSub, Array.replicate_succ, Array.replicate_zero, List.push_toArray, List.append_toArray, List.nil_append, List.cons_append]
 gi_wp2
 have S0 : WalkSt w #[.slice A nn c, .slice A' m d, .bool false, .func (.func F) #[] C] t p place l 0 place zeroC (((w.alloc (.cells #[.slice A nn c, .slice A' m d, .bool false, .func (.func F) #[] C] 107)).alloc (.cells #[.int .i64 0, .int .i64 0, .int .i64 0, .int .i64 0, .int .i64 0, .slice none 0 0] 99)).alloc (.cells #[.int .i64 place, .int .i64 0, .int .i64 0, .int .i64 0, .int .i64 0, .slice none 0 0] 99)) := by
  have Y := (Blk.new (w.alloc (.cells #[.slice A nn c, .slice A' m d, .bool false, .func (.func F) #[] C] 107)) 99 #[.int .i64 0, .int .i64 0, .int .i64 0, .int .i64 0, .int .i64 0, .slice none 0 0]).alloc (.cells #[.int .i64 place, .int .i64 0, .int .i64 0, .int .i64 0, .int .i64 0, .slice none 0 0] 99)
  have Z := Blk.new ((w.alloc (.cells #[.slice A nn c, .slice A' m d, .bool false, .func (.func F) #[] C] 107)).alloc (.cells #[.int .i64 0, .int .i64 0, .int .i64 0, .int .i64 0, .int .i64 0, .slice none 0 0] 99)) 99 #[.int .i64 place, .int .i64 0, .int .i64 0, .int .i64 0, .int .i64 0, .slice none 0 0]
  rw [World.size_alloc] at Y
  rw [World.size_alloc, World.size_alloc] at Z
  exact ⟨(((Below.refl _ _).alloc (Nat.le_refl _) _).alloc (by simp) _).alloc (by simp; omega) _, ((Blk.new w _ _).alloc _).alloc _, Y, Z⟩
 generalize (((w.alloc (.cells #[.slice A nn c, .slice A' m d, .bool false, .func (.func F) #[] C] 107)).alloc (.cells #[.int .i64 0, .int .i64 0, .int .i64 0, .int .i64 0, .int .i64 0, .slice none 0 0] 99)).alloc (.cells #[.int .i64 place, .int .i64 0, .int .i64 0, .int .i64 0, .int .i64 0, .slice none 0 0] 99)) = w0 at *
 have S0' := lh S0
 clear S0
 refine wpIn_loop (fun a W => ∃ (k : Nat) (at_ : Int) (co : Cost) (ds : List Deferred) (u10 u11 u23 u24 u25 u26 u27 u28 u29 u45 u46 u47 u48 u49 : Value), k ≤ k2 ∧ Hid (WalkSt w #[.slice A nn c, .slice A' m d, .bool false, .func (.func F) #[] C] t p place l k at_ co W ∧ Marks w.heap.size W ds ∧ Walk t false p place at_ co (l.take k) ∧ walkS t p (at_, co) (l.drop k) = walkS t p (place, zeroC) l) ∧
   a = { tmps := #[.agg #[.slice A nn c, .slice A' m d, .bool false, .func (.func F) #[] C], .int .i64 place, .slice A2 k2 c2, .pointer (some ⟨w.heap.size, 0, none⟩), undef, undef, .pointer (some ⟨w.heap.size + 1, 0, none⟩), .bool false, .pointer (some ⟨w.heap.size + 1 + 1, 0, none⟩), undef, u10, u11, undef, undef, .int .i64 place, .agg #[.int .i64 place, .int .i64 0, .int .i64 0, .int .i64 0, .int .i64 0, .slice none 0 0], .slice A2 k2 c2, .int .i64 k2, .bool false, undef, .slice A2 k2 c2, .int .i64 k2, .int .i64 k, u23, u24, u25, u26, u27, u28, u29, undef, undef, undef, undef, undef, undef, undef, undef, undef, undef, undef, undef, undef, undef, undef, u45, u46, u47, u48, u49], defers := ds })
  (fun a _ => k2 - (intOf (a.tmps.getD 22 undef)).toNat) ?_ ?_
 ·refine ⟨0, place, zeroC, [], undef, undef, undef, undef, undef, undef, undef, undef, undef, undef, undef, undef, undef, undef, Nat.zero_le _, lh ⟨S0'.out, trivial, .nil _, rfl⟩, ?_⟩
  rfl
 ·rintro a W ⟨k, at_, co, ds, u10, u11, u23, u24, u25, u26, u27, u28, u29, u45, u46, u47, u48, u49, hk, HS, rfl⟩
  have X := HS.out.1.wk
  have R := HS.out.1.rs
  have x0 := X.cell 0
  have x1 := X.cell 1
  have x2 := X.cell 2
  have x3 := X.cell 3
  have x4 := X.cell 4
  have x5 := X.cell 5
  have r0 := R.cell 0
  have r1 := R.cell 1
  have r2 := R.cell 2
  have r3 := R.cell 3
  have r4 := R.cell 4
  have r5 := R.cell 5
  have q0 := R.frozen 0
  have q1 := R.frozen 1
  have q2 := R.frozen 2
  have q3 := R.frozen 3
  have q4 := R.frozen 4
  have q5 := R.frozen 5
  by_cases hlt : k < k2
  ·obtain ⟨b, off, id, rfl, hb, hid, hcell⟩ := (HR.out.below HS.out.1.bel).cell hlt
   have hbl : b < W.heap.size := Nat.lt_of_lt_of_le hb HS.out.1.bel.size
   have c0 := HS.out.1.ch.cell 0
   have c1 := HS.out.1.ch.cell 1
   have c2' := HS.out.1.ch.cell 2
   have c3 := HS.out.1.ch.cell 3
   have lw := HS.out.1.wk.lt
   have lw0 : w.heap.size < W.heap.size := by omega
   have lw1 : w.heap.size + 1 < W.heap.size := by omega
   have HID := lh hid
   have HB := lh hb
   clear hid hb X R r0 r1 r2 r3 r4 r5 q0 q1 q2 q3 q4 q5
   gi_wp2
   refine ⟨trivial, (callsIn_wide.2 (from_any _ _ _ _ _ rfl at_ _)).mono ?_⟩
   rintro e w1 ⟨rfl, rfl⟩
   have W2B : Below w.heap.size w ((W.alloc (.cells #[.int .i64 id] 3)).alloc (.cells #[.bool false] 4)) := (HS.out.1.bel.alloc HS.out.1.bel.size _).alloc (by simp; have := HS.out.1.bel.size; omega) _
   have FI := (from_in ((W.alloc (.cells #[.int .i64 id] 3)).alloc (.cells #[.bool false] 4)) #[.slice A nn c, .slice A' m d, .bool false, .func (.func F) #[] C] at_).base W2B
   have WI : WalkIn w #[.slice A nn c, .slice A' m d, .bool false, .func (.func F) #[] C] t p place l k at_ co id ds W.heap.size false ((((W.alloc (.cells #[.int .i64 id] 3)).alloc (.cells #[.bool false] 4)).alloc (.cells #[.slice A nn c, .slice A' m d, .bool false, .func (.func F) #[] C] 107)).alloc (.cells #[.int .i64 at_] 3)).heap.size ((((W.alloc (.cells #[.int .i64 id] 3)).alloc (.cells #[.bool false] 4)).alloc (.cells #[.slice A nn c, .slice A' m d, .bool false, .func (.func F) #[] C] 107)).alloc (.cells #[.int .i64 at_] 3)) := by
    have b1 : Below W.heap.size W ((((W.alloc (.cells #[.int .i64 id] 3)).alloc (.cells #[.bool false] 4)).alloc (.cells #[.slice A nn c, .slice A' m d, .bool false, .func (.func F) #[] C] 107)).alloc (.cells #[.int .i64 at_] 3)) := ((((Below.refl _ _).alloc (Nat.le_refl _) _).alloc (by simp) _).alloc (by simp; omega) _).alloc (by simp; omega) _
    have Y := ((Blk.new (W.alloc (.cells #[.int .i64 id] 3)) 4 #[.bool false]).alloc (.cells #[.slice A nn c, .slice A' m d, .bool false, .func (.func F) #[] C] 107)).alloc (.cells #[.int .i64 at_] 3)
    rw [World.size_alloc] at Y
    exact ⟨HS.out.1.below b1, (((Blk.new W _ _).alloc _).alloc _).alloc _, Y, HS.out.2.1.below b1, Nat.le_refl _⟩
   have g1l := FI.chart.lt
   have g2l := FI.place.lt
   have hdl : ∀ dd ∈ ds, ∀ r, dd.target = .collected r → r < ((((W.alloc (.cells #[.int .i64 id] 3)).alloc (.cells #[.bool false] 4)).alloc (.cells #[.slice A nn c, .slice A' m d, .bool false, .func (.func F) #[] C] 107)).alloc (.cells #[.int .i64 at_] 3)).heap.size := fun dd hd r hr => by
    have := HS.out.2.1.lt dd hd r hr
    simp
    omega
   rw [World.size_alloc, World.size_alloc] at FI g1l g2l
   have HSZ : Hid (w.heap.size ≤ W.heap.size ∧ ((((W.alloc (.cells #[.int .i64 id] 3)).alloc (.cells #[.bool false] 4)).alloc (.cells #[.slice A nn c, .slice A' m d, .bool false, .func (.func F) #[] C] 107)).alloc (.cells #[.int .i64 at_] 3)).heap.size = W.heap.size + 4) := lh ⟨HS.out.1.bel.size, by simp⟩
   gi_wp2
   generalize ((((W.alloc (.cells #[.int .i64 id] 3)).alloc (.cells #[.bool false] 4)).alloc (.cells #[.slice A nn c, .slice A' m d, .bool false, .func (.func F) #[] C] 107)).alloc (.cells #[.int .i64 at_] 3)) = W4 at *
   have hws : w.heap.size ≤ W4.heap.size := FI.below.size
   refine wpIn_rangeFunc_ownH rfl (by omega) (gf := 129) (lb := #[.pointer (some ⟨W.heap.size + 1 + 1, 0, none⟩), .pointer (some ⟨W.heap.size + 1 + 1 + 1, 0, none⟩)]) rfl trivial (enters_of Tryz.func129 (by kernel_rfl) rfl)
    (from1_stops 8 (by omega) A nn c A' m d false F C p t at_ (W.heap.size + 1 + 1) (W.heap.size + 1 + 1 + 1) w W4 hm HT.out HP.out HF.out FI) (fun h k => fromK_t h k) (fromK_b g1l g2l hws) (Below.refl _ _) (fun _ => rfl)
    (fun pre Wr => WalkIn w #[.slice A nn c, .slice A' m d, .bool false, .func (.func F) #[] C] t p place l k at_ co id ds W.heap.size false W4.heap.size Wr ∧ ∀ y ∈ pre, y.1.1.id ≠ id)
    (fun cd pre Wr => cd = .exit 2 ∧ ∃ y : Out false p at_ t.links, y.1.1.id = id ∧ WalkIn w #[.slice A nn c, .slice A' m d, .bool false, .func (.func F) #[] C] t p place l k y.1.2.1 (addC co y.1.2.2) id ds W.heap.size true W4.heap.size Wr)
    (ownFrom_shut (fun s Wr h => h.1.sz) (fun s Wr Wr' h hs => ⟨h.1.shut hs hws hdl, h.2⟩))
    (fun cd => ownFrom_shut (fun s Wr h => by obtain ⟨_, y, _, h⟩ := h; exact h.sz) (fun s Wr Wr' h hs => by obtain ⟨h0, y, h1, h⟩ := h; exact ⟨h0, y, h1, h.shut hs hws hdl⟩))
    ⟨WI, by simp⟩
    (fun y a' Wr => ∃ Bx, W4.heap.size ≤ Bx ∧ Blk Wr Bx 52 #[.int .i64 y.1.1.id, .int .i64 y.1.1.fr, .int .i64 y.1.1.to, .int .i64 y.1.1.steps, .int .i64 y.1.1.paces] ∧ Blk Wr (Bx + 1) 99 #[.int .i64 y.1.2.1, .int .i64 y.1.2.2.a, .int .i64 y.1.2.2.b, .int .i64 y.1.2.2.c, .int .i64 y.1.2.2.d, .slice none 0 0] ∧
     a' = { tmps := #[.agg #[.slice A nn c, .slice A' m d, .bool false, .func (.func F) #[] C], .int .i64 place, .slice (some ⟨b, off, none⟩) k2 c2, .pointer (some ⟨w.heap.size, 0, none⟩), undef, undef, .pointer (some ⟨w.heap.size + 1, 0, none⟩), .bool false, .pointer (some ⟨w.heap.size + 1 + 1, 0, none⟩), undef, .pointer (some ⟨W.heap.size, 0, none⟩), .pointer (some ⟨W.heap.size + 1, 0, none⟩), .pointer (some ⟨Bx, 0, none⟩), .pointer (some ⟨Bx + 1, 0, none⟩), .int .i64 place, .agg #[.int .i64 place, .int .i64 0, .int .i64 0, .int .i64 0, .int .i64 0, .slice none 0 0], .slice (some ⟨b, off, none⟩) k2 c2, .int .i64 k2, .bool false, undef, .slice (some ⟨b, off, none⟩) k2 c2, .int .i64 k2, .int .i64 k, .bool true, .pointer (some ⟨b, off + k, none⟩), .int .i64 id, .agg #[.slice A nn c, .slice A' m d, .bool false, .func (.func F) #[] C], .pointer (some ⟨w.heap.size + 1 + 1, 0, none⟩), .int .i64 at_, .func (.func 129) #[] #[.pointer (some ⟨W.heap.size + 1 + 1, 0, none⟩), .pointer (some ⟨W.heap.size + 1 + 1 + 1, 0, none⟩)], linkV y.1.1, .agg #[.int .i64 y.1.2.1, .int .i64 y.1.2.2.a, .int .i64 y.1.2.2.b, .int .i64 y.1.2.2.c, .int .i64 y.1.2.2.d, .slice none 0 0], undef, undef, undef, undef, undef, undef, undef, undef, undef, undef, undef, undef, undef, u45, u46, u47, u48, u49], defers := [] })
    (fun y a' => ownFrom_shut (fun _ Wr h => by obtain ⟨Bx, h1, h2, _⟩ := h; exact Nat.le_trans h1 (Nat.le_of_lt h2.lt)) (fun _ Wr Wr' h hs => by obtain ⟨Bx, h1, h2, h3, h4⟩ := h; exact ⟨Bx, h1, hs.blk h2, hs.blk h3, h4⟩)) ?assign ?body ?done ?stop
   case assign =>
    rintro l' pre ⟨⟨x, v, cx⟩, hy⟩ Wr K hI hK
    unfold Out.enc
    gi_wp2
    have hb : Below Wr.heap.size Wr ((Wr.alloc (.cells #[.int .i64 x.id, .int .i64 x.fr, .int .i64 x.to, .int .i64 x.steps, .int .i64 x.paces] 52)).alloc (.cells #[.int .i64 v, .int .i64 cx.a, .int .i64 cx.b, .int .i64 cx.c, .int .i64 cx.d, .slice none 0 0] 99)) := ((Below.refl _ _).alloc (Nat.le_refl _) _).alloc (by simp) _
    have Y := Blk.new (Wr.alloc (.cells #[.int .i64 x.id, .int .i64 x.fr, .int .i64 x.to, .int .i64 x.steps, .int .i64 x.paces] 52)) 99 #[.int .i64 v, .int .i64 cx.a, .int .i64 cx.b, .int .i64 cx.c, .int .i64 cx.d, .slice none 0 0]
    rw [World.size_alloc] at Y
    have hsz := hI.1.sz
    exact hK _ _ (keepsFrom_below hb) (fromK_below hb (by omega) (by omega) (by omega)) ⟨hI.1.below hb, hI.2⟩ ⟨Wr.heap.size, hsz, (Blk.new Wr _ _).alloc _, Y, rfl⟩
   case body =>
    rintro l' pre ⟨⟨x, v, cx⟩, hy⟩ a' Wr hl ⟨r, hrr⟩ ⟨hI, hno⟩ ⟨Bx, hBx, bX, bY, rfl⟩ hlen
    dsimp only at bX bY ⊢
    have HN := lh hno
    have HY := lh hy
    have HI := lh hI
    have HBX := lh bX
    have HBY := lh bY
    have i0 := bX.cell 0
    have i1 := hI.b10.cell 0
    have sz := hI.sz
    have szx := bX.lt
    have szy := bY.lt
    clear hno hI bX bY hrr
    by_cases hxi : x.id = id
    ·have hxi' : (x.id == id) = true := by simpa using hxi
     have HXI := lh hxi
     clear hxi
     gi_wp2
     have HSM : Hid (Small co ∧ Small cx) := lh ⟨Small.walk HS.out.2.2.1 HFI.out HFA.out (by rw [List.length_take]; omega), Small.leads (outs_leads hy).1 HFI.out HFA.out (outs_leads hy).2⟩
     refine cls_open (C := fun V => Below Wr.heap.size Wr V) (Below.refl _ Wr) fun σ hσ of hof hcls => ?_
     have HOF := lh hof
     have HCL := lh hcls
     clear hof hcls
     have y0 : ∀ z, (of z).cell? ⟨Bx + 1, 0, none⟩ = some (.int .i64 v) := fun z => (HBY.out.below (HOF.out z) szy).cell 0
     have y1 : ∀ z, (of z).cell? ⟨Bx + 1, 1, none⟩ = some (.int .i64 cx.a) := fun z => (HBY.out.below (HOF.out z) szy).cell 1
     have y2 : ∀ z, (of z).cell? ⟨Bx + 1, 2, none⟩ = some (.int .i64 cx.b) := fun z => (HBY.out.below (HOF.out z) szy).cell 2
     have y3 : ∀ z, (of z).cell? ⟨Bx + 1, 3, none⟩ = some (.int .i64 cx.c) := fun z => (HBY.out.below (HOF.out z) szy).cell 3
     have y4 : ∀ z, (of z).cell? ⟨Bx + 1, 4, none⟩ = some (.int .i64 cx.d) := fun z => (HBY.out.below (HOF.out z) szy).cell 4
     have u0 : ∀ z, (of z).cell? ⟨w.heap.size + 1 + 1, 0, none⟩ = some (.int .i64 at_) := fun z => (HI.out.st.wk.below (HOF.out z) HI.out.st.wk.lt).cell 0
     have u1 : ∀ z, (of z).cell? ⟨w.heap.size + 1 + 1, 1, none⟩ = some (.int .i64 co.a) := fun z => (HI.out.st.wk.below (HOF.out z) HI.out.st.wk.lt).cell 1
     have u2 : ∀ z, (of z).cell? ⟨w.heap.size + 1 + 1, 2, none⟩ = some (.int .i64 co.b) := fun z => (HI.out.st.wk.below (HOF.out z) HI.out.st.wk.lt).cell 2
     have u3 : ∀ z, (of z).cell? ⟨w.heap.size + 1 + 1, 3, none⟩ = some (.int .i64 co.c) := fun z => (HI.out.st.wk.below (HOF.out z) HI.out.st.wk.lt).cell 3
     have u4 : ∀ z, (of z).cell? ⟨w.heap.size + 1 + 1, 4, none⟩ = some (.int .i64 co.d) := fun z => (HI.out.st.wk.below (HOF.out z) HI.out.st.wk.lt).cell 4
     have hfw := hfT
     refine wpIn_region_tail (Cls of) 8 (by kernel_rfl) (by kernel_rfl) (by kernel_rfl) (HCL.out _ (below_drewN (Below.refl _ _) 1)) ?_
     simp only [List.take_succ_cons, List.take_zero, List.drop_succ_cons, List.drop_zero]
     repeat (gi_big_quiet_step (exact plus_cls co cx HSM.out.1 HSM.out.2 HOF.out HCL.out _))
     refine wpQuietIn_nil ?_
     rintro _ ⟨z, rfl⟩
     have hz := HOF.out z
     clear y0 y1 y2 y3 y4 u0 u1 u2 u3 u4
     have HIz := lh (HI.out.below hz)
     have HZ := lh hz
     clear hz
     generalize of z = Wz at *
     have X := HIz.out.st.wk
     have u0 := X.cell 0
     have u1 := X.cell 1
     have u2 := X.cell 2
     have u3 := X.cell 3
     have u4 := X.cell 4
     have v0 := X.frozen 0
     have v1 := X.frozen 1
     have v2 := X.frozen 2
     have v3 := X.frozen 3
     have v4 := X.frozen 4
     have b0 := HIz.out.b11.cell 0
     have b1 := HIz.out.b11.frozen 0
     have hne : ¬ (W.heap.size + 1 = w.heap.size + 1 + 1) := by omega
     have hne' : ¬ (w.heap.size + 1 + 1 = W.heap.size + 1) := by omega
     have hne2 : ¬ (W.heap.size = w.heap.size + 1) := by omega
     have hne3 : ¬ (w.heap.size + 1 = W.heap.size) := by omega
     clear X
     gi_wp2
     have hput := HIz.out.put lw v (addC co cx)
     exact ⟨(keepsFrom_below HZ.out).trans hput.2, rfl, ⟨(x, v, cx), hy⟩, HXI.out, hput.1⟩
    ·have hxi' : (x.id == id) = false := by simpa using hxi
     have HXI := lh hxi
     clear hxi
     gi_wp2
     exact ⟨KeepsFrom.refl _ _, ⟨Below.refl _ _, rfl, rfl⟩, HI.out, fun y hy' => by
      rcases List.mem_append.1 hy' with h | h
      ·exact HN.out y h
      ·rw [List.mem_singleton.1 h]; exact HXI.out⟩
   case done =>
    rintro D ys Wr hD rfl ⟨hI, hno⟩ hK
    have X := hI.st.wk
    have R := hI.st.rs
    have x0 := X.cell 0
    have x1 := X.cell 1
    have x2 := X.cell 2
    have x3 := X.cell 3
    have x4 := X.cell 4
    have x5 := X.cell 5
    have r0 := R.cell 0
    have r1 := R.cell 1
    have r2 := R.cell 2
    have r3 := R.cell 3
    have r4 := R.cell 4
    have r5 := R.cell 5
    have q0 := R.frozen 0
    have q1 := R.frozen 1
    have q2 := R.frozen 2
    have q3 := R.frozen 3
    have q4 := R.frozen 4
    have q5 := R.frozen 5
    have f0 := hI.b11.cell 0
    have HI := lh hI
    have HN := lh hno
    have HK := lh hK
    have HR6 := lh (ret6 R (hI.marks.more (Nat.le_trans hws hD) hK (fun dd hd r hr => Nat.lt_of_lt_of_le (hdl dd hd r hr) hD) #[]) hI.st.bel (by omega) (.int .i64 at_) (.int .i64 co.a) (.int .i64 co.b) (.int .i64 co.c) (.int .i64 co.d) (.slice none 0 0))
    clear X R hI hno hK
    gi_wp2
    refine leaves_marks _ _ HR6.out.2.1 ?_
    intro w' hs
    have RW := hs.blk HR6.out.1
    have y0 := RW.cell 0
    have y1 := RW.cell 1
    have y2 := RW.cell 2
    have y3 := RW.cell 3
    have y4 := RW.cell 4
    have y5 := RW.cell 5
    refine ⟨.tuple #[.agg #[.int .i64 at_, .int .i64 co.a, .int .i64 co.b, .int .i64 co.c, .int .i64 co.d, .slice none 0 0], .bool false], ?_, ?_⟩
    ·simp [results, Tryz.results95, go_sem, y0, y1, y2, y3, y4, y5]
    ·have hn : walkS t p (place, zeroC) l = none := by
      rw [← HS.out.2.2.2, drop_at HID.out]
      simp only [walkS]
      rw [stepF_none (fun y hy => HN.out ⟨y, hy⟩ (by unfold allOut; simp))]
     rw [hn]
     exact ⟨at_, co, rfl, (fun q hq => by cases hq), HR6.out.2.2.trans hs.below⟩
   case stop =>
    rintro D cd pre Wr hD _ ⟨rfl, ⟨⟨x, v, cx⟩, hy⟩, hxi, hI⟩ hK
    dsimp only at hxi hI
    have HI := lh hI
    have HXI := lh hxi
    have HK := lh hK
    have f0 := hI.b11.cell 0
    clear hxi hI hK
    gi_wp2
    have e1 : ((k + 1 : Nat) : Int) = (k : Int) + 1 := by omega
    have hxl := outs_leads hy
    dsimp only at hxl
    have hst : stepF t p at_ id = some (v, cx) := by rw [← HXI.out, stepF_leads HFI.out.ids hxl.1]; exact hxl.2
    have hkl : k < l.length := by rw [HLl.out]; exact hlt
    refine ⟨⟨k + 1, v, addC co cx, _, _, _, _, _, _, _, _, _, _, _, _, _, _, _, by omega, lh ⟨⟨HI.out.st.bel, HI.out.st.ch, HI.out.st.rs, HI.out.st.wk⟩, HI.out.marks.more (Nat.le_trans hws hD) HK.out (fun dd hd r hr => Nat.lt_of_lt_of_le (hdl dd hd r hr) hD) #[], ?_, ?_⟩, by rw [e1]⟩, ?_⟩
    ·have h := HS.out.2.2.1.snoc hxl.1 hxl.2
     rw [List.take_add_one, HID.out, ← HXI.out]
     exact h
    ·rw [← HS.out.2.2.2, drop_at HID.out]
     simp only [walkS, hst]
    ·simp [intOf]; omega
  ·obtain rfl : k = k2 := by omega
   have HR6 := lh (ret6 R HS.out.2.1 HS.out.1.bel (by omega) (.int .i64 at_) (.int .i64 co.a) (.int .i64 co.b) (.int .i64 co.c) (.int .i64 co.d) (.slice none 0 0))
   clear X R
   gi_wp2
   refine leaves_marks _ _ HR6.out.2.1 ?_
   intro w' hs
   have RW := hs.blk HR6.out.1
   have y0 := RW.cell 0
   have y1 := RW.cell 1
   have y2 := RW.cell 2
   have y3 := RW.cell 3
   have y4 := RW.cell 4
   have y5 := RW.cell 5
   refine ⟨.tuple #[.agg #[.int .i64 at_, .int .i64 co.a, .int .i64 co.b, .int .i64 co.c, .int .i64 co.d, .slice none 0 0], .bool true], ?_, ?_⟩
   ·simp [results, Tryz.results95, go_sem, y0, y1, y2, y3, y4, y5]
   ·have hd : l.drop k = [] := List.drop_of_length_le (by rw [HLl.out]; exact Nat.le_refl _)
    have hw := HS.out.2.2.2
    rw [hd] at hw
    exact ⟨at_, co, by rw [← hw]; rfl, fun q hq => by rw [← hw] at hq; exact (Option.some.inj hq).symm, HR6.out.2.2.trans hs.below⟩
theorem walked_any (A : Option Addr) (nn c : Nat) (A' : Option Addr) (m d : Nat) (F : FuncId) (C : Array Value) (p : Price) (t : Town) (place : Int) (A2 : Option Addr) (k2 c2 : Nat) (l : List Int) (w : World)
  (hm : m ≤ 20) (hk2 : k2 ≤ 40) (ht : LinksAt w w.heap.size A' m t.links) (hp : PriceAt w p F C) (hfine : Fine t) (hfair : Fair p) (hr : IntsAt w w.heap.size A2 k2 l) :
  Calls Tryz.prog 95 #[.agg #[.slice A nn c, .slice A' m d, .bool false, .func (.func F) #[] C], .int .i64 place, .slice A2 k2 c2] w (WalkedOut w (walkedF t p place l)) := by
 have := callsIn_wide.1 (walked_in A nn c A' m d F C p t place A2 k2 c2 l w hm hk2 ht hp hfine hfair hr)
 unfold walkedF
 rwa [if_neg (by rw [hr.len]; omega)]
set_option maxRecDepth 100000 in
set_option maxHeartbeats 4000000 in
theorem walked_long (A : Option Addr) (nn c : Nat) (A' : Option Addr) (m d : Nat) (F : FuncId) (C : Array Value) (p : Price) (t : Town) (place : Int) (A2 : Option Addr) (k2 c2 : Nat) (l : List Int) (w : World)
  (hk2 : 40 < k2) (hk : k2 ≤ 1000) (hr : IntsAt w w.heap.size A2 k2 l) :
  Calls Tryz.prog 95 #[.agg #[.slice A nn c, .slice A' m d, .bool false, .func (.func F) #[] C], .int .i64 place, .slice A2 k2 c2] w (WalkedOut w (walkedF t p place l)) := by
 have HL := lh hr.len
 have h40 : decide ((40 : Int) < (k2 : Int)) = true := by simp; omega
 clear hr
 go_enter Tryz.func95, Tryz.ntmps95
 go_wp2_with fail
 have hn : walkedF t p place l = none := by unfold walkedF; rw [if_pos (by rw [HL.out]; exact hk2)]
 rw [hn]
 refine bodyPost_ret (v := .tuple #[.agg #[.int .i64 place, .int .i64 0, .int .i64 0, .int .i64 0, .int .i64 0, .slice none 0 0], .bool false]) (by simp [results, Tryz.results95, go_sem]) rfl ⟨place, ⟨0, 0, 0, 0⟩, rfl, (fun q hq => by cases hq), (((Below.refl _ _).alloc (Nat.le_refl _) _).alloc (by simp) _).alloc (by simp; omega) _⟩
end
section
open Go.RowKit Go.MapKept
open Go.ChangeMaps (setBlock heap_setBlock_other heap_setBlock_same)
open Go.Maps (Keyed)
set_option linter.unusedSectionVars false
structure MapTy (P : Program) (t k e : TypeId) (α β : Type) (encK : α → Value) (encV : β → Value) (ok : α → Prop) (zero : Value) : Prop where
 und : P.underlying t = some (.map k e)
 keyed : Keyed P k
 reads : ∀ x, ok x → ∃ l, keyOf P k (encK x) = some l
 inj : ∀ x y, encK x = encK y → x = y
 zero : ∀ w, (zeroValue e).run P w = .ok zero w
def MapIs {α β : Type} (encK : α → Value) (encV : β → Value) (ok : α → Prop) (w : World) (r : Nat) (m : List (α × β)) : Prop :=
 ∃ es clock, w.heap[r]? = some (.map es clock) ∧ es.toList.map (fun e => (e.key, e.val)) = m.map (fun p => (encK p.1, encV p.2)) ∧ Stamped es clock ∧ ∀ p ∈ m, ok p.1
def look {α β : Type} [DecidableEq α] (m : List (α × β)) (x : α) : Option β := (m.find? fun p => decide (p.1 = x)).map Prod.snd
def put {α β : Type} [DecidableEq α] (m : List (α × β)) (x : α) (v : β) : List (α × β) :=
 if m.any (fun p => decide (p.1 = x)) then m.map (fun p => if p.1 = x then (x, v) else p) else m ++ [(x, v)]
def cut {α β : Type} [DecidableEq α] (m : List (α × β)) (x : α) : List (α × β) := m.filter fun p => !decide (p.1 = x)
section
variable {α β : Type} [DecidableEq α] {m : List (α × β)} {x y : α} {v : β}
theorem look_none : look m x = none ↔ ∀ p ∈ m, p.1 ≠ x := by
 unfold look
 simp [List.find?_eq_none]
theorem look_mem (h : look m x = some v) : (x, v) ∈ m := by
 unfold look at h
 cases hf : m.find? (fun p => decide (p.1 = x)) with
 | none => rw [hf] at h; cases h
 | some p =>
  rw [hf] at h
  have h1 := List.find?_some hf
  have h2 := List.mem_of_find?_eq_some hf
  simp at h h1
  obtain ⟨a, b⟩ := p
  simp at h h1
  subst h h1
  exact h2
theorem look_of_mem (hn : (m.map Prod.fst).Nodup) (h : (x, v) ∈ m) : look m x = some v := by
 unfold look
 induction m with
 | nil => simp at h
 | cons p m ih =>
  rw [List.map_cons, List.nodup_cons] at hn
  rcases List.mem_cons.1 h with h | h
  ·subst h; simp
  ·have hne : p.1 ≠ x := fun e => hn.1 (by rw [e]; exact List.mem_map.2 ⟨_, h, rfl⟩)
   rw [List.find?_cons_of_neg (by simpa using hne)]
   exact ih hn.2 h
theorem look_put : look (put m x v) y = if y = x then some v else look m y := by
 unfold put
 by_cases hany : m.any (fun p => decide (p.1 = x)) = true
 ·rw [if_pos hany]
  induction m with
  | nil => simp at hany
  | cons p m ih =>
   by_cases hp : p.1 = x
   ·by_cases hy : y = x
    ·subst hy; simp [look, hp]
    ·rw [if_neg hy]
     by_cases hm : m.any (fun p => decide (p.1 = x)) = true
     ·have := ih hm
      rw [if_neg hy] at this
      unfold look at this ⊢
      rw [List.map_cons, if_pos hp, List.find?_cons_of_neg (by simpa using fun e => hy e.symm), List.find?_cons_of_neg (by rw [hp]; simpa using fun e => hy e.symm)]
      exact this
     ·have hid : m.map (fun p => if p.1 = x then (x, v) else p) = m := by
       have h1 : m.map (fun p => if p.1 = x then (x, v) else p) = m.map id := List.map_congr_left fun q hq => by
        have : q.1 ≠ x := fun e => hm (List.any_eq_true.2 ⟨q, hq, by simpa using e⟩)
        simp [this]
       simpa using h1
      unfold look
      rw [List.map_cons, if_pos hp, hid, List.find?_cons_of_neg (by simpa using fun e => hy e.symm), List.find?_cons_of_neg (by rw [hp]; simpa using fun e => hy e.symm)]
   ·have hm : m.any (fun p => decide (p.1 = x)) = true := by simpa [hp] using hany
    have := ih hm
    unfold look at this ⊢
    rw [List.map_cons, if_neg hp]
    by_cases hpy : p.1 = y
    ·rw [List.find?_cons_of_pos (by simpa using hpy), List.find?_cons_of_pos (by simpa using hpy), if_neg (fun e => hp (hpy.trans e))]
    ·rw [List.find?_cons_of_neg (by simpa using hpy), List.find?_cons_of_neg (by simpa using hpy)]
     exact this
 ·rw [if_neg hany]
  have hno : ∀ p ∈ m, p.1 ≠ x := fun p hp e => hany (List.any_eq_true.2 ⟨p, hp, by simpa using e⟩)
  by_cases hy : y = x
  ·subst hy
   have hf : m.find? (fun p => decide (p.1 = y)) = none := by rw [List.find?_eq_none]; simpa using hno
   unfold look
   rw [List.find?_append, hf]
   simp
  ·rw [if_neg hy]
   unfold look
   rw [List.find?_append]
   have hxy : ¬ x = y := fun e => hy e.symm
   have hl : [(x, v)].find? (fun p => decide (p.1 = y)) = none := by simp [hxy]
   rw [hl]
   simp
theorem mem_cut {p : α × β} : p ∈ cut m x ↔ p ∈ m ∧ p.1 ≠ x := by unfold cut; simp
theorem look_cut : look (cut m x) y = if y = x then none else look m y := by
 by_cases hy : y = x
 ·rw [if_pos hy, look_none]
  intro p hp e
  exact (mem_cut.1 hp).2 (e.trans hy)
 ·rw [if_neg hy]
  unfold look cut
  rw [List.find?_filter]
  congr 2
  funext p
  by_cases hp : p.1 = y
  ·simp [hp, hy]
  ·simp [hp]
theorem mem_put {p : α × β} (h : p ∈ put m x v) : p = (x, v) ∨ (p ∈ m ∧ p.1 ≠ x) := by
 unfold put at h
 split at h
 ·obtain ⟨q, hq, rfl⟩ := List.mem_map.1 h
  by_cases e : q.1 = x
  ·simp [e]
  ·simp [e]; exact .inr hq
 ·rename_i hany
  rcases List.mem_append.1 h with h | h
  ·exact .inr ⟨h, fun e => hany (List.any_eq_true.2 ⟨p, h, by simpa using e⟩)⟩
  ·left; simpa using h
end
section
variable {P : Program} {t k e : TypeId} {α β : Type} [DecidableEq α] {encK : α → Value} {encV : β → Value} {okK : α → Prop} {zero : Value}
variable {w w' : World} {r : Nat} {m : List (α × β)}
theorem MapIs.lt (h : MapIs encK encV okK w r m) : r < w.heap.size := by
 obtain ⟨es, clock, hb, _⟩ := h
 exact (Array.getElem?_eq_some_iff.1 hb).1
theorem MapIs.ok (h : MapIs encK encV okK w r m) : ∀ p ∈ m, okK p.1 := by
 obtain ⟨_, _, _, _, _, h⟩ := h
 exact h
theorem MapIs.keep (h : MapIs encK encV okK w r m) (hb : w'.heap[r]? = w.heap[r]?) : MapIs encK encV okK w' r m := by
 obtain ⟨es, clock, h1, h2⟩ := h
 exact ⟨es, clock, hb.trans h1, h2⟩
theorem MapIs.below {B : Nat} (h : MapIs encK encV okK w r m) (hb : Below B w w') (hr : r < B) : MapIs encK encV okK w' r m := h.keep (hb.block r hr)
theorem MapIs.alloc (h : MapIs encK encV okK w r m) (o : Obj) : MapIs encK encV okK (w.alloc o) r m := h.keep (Below.heap_alloc w o r h.lt)
theorem MapIs.grown {row : Option Nat} (h : MapIs encK encV okK w r m) (hg : w.grownBy w' row) (hne : some r ≠ row) : MapIs encK encV okK w' r m := h.keep (hg.block r h.lt hne)
theorem MapIs.drewN (h : MapIs encK encV okK w r m) (n : Nat) : MapIs encK encV okK (w.drewN n) r m := h
theorem MapIs.made (w : World) : MapIs (β := β) encK encV okK (w.alloc (.map #[] 0)) w.heap.size [] :=
 ⟨#[], 0, heap_alloc_new w _, rfl, stamped_empty 0, by simp⟩
theorem MapIs.nodup (T : MapTy P t k e α β encK encV okK zero) (h : MapIs encK encV okK w r m) : (m.map Prod.fst).Nodup := by
 obtain ⟨es, clock, hb, hm, hs, hk⟩ := h
 have hp := ((stamped_iff es clock).1 hs).2.2
 have h1 : (es.toList.map (fun e => (e.key, e.val))).Pairwise (fun p q => p.1 ≠ q.1) := by
  rw [List.pairwise_map]; exact hp
 rw [hm, List.pairwise_map] at h1
 rw [List.Nodup, List.pairwise_map]
 exact h1.imp fun {a b} hne e => hne (by simp [e])
theorem MapIs.find (T : MapTy P t k e α β encK encV okK zero) {es : Array MapEntry} (hm : es.toList.map (fun e => (e.key, e.val)) = m.map (fun p => (encK p.1, encV p.2))) (hk : ∀ p ∈ m, okK p.1) {x : α} (hx : okK x) :
  ((Instr.findKey k (encK x) es.toList).run P w = .ok none w ∧ look m x = none ∧ ∀ y ∈ es.toList, y.key ≠ encK x) ∨
  ∃ (j : Nat) (y : MapEntry) (v : β), (Instr.findKey k (encK x) es.toList).run P w = .ok (some (j, encV v)) w ∧ es.toList[j]? = some y ∧ y.key = encK x ∧ m[j]? = some (x, v) := by
 obtain ⟨l, hl⟩ := T.reads x hx
 have hkeys : ∀ y ∈ es.toList, ∃ l, keyOf P k y.key = some l := by
  intro y hy
  have : (y.key, y.val) ∈ m.map (fun p => (encK p.1, encV p.2)) := by rw [← hm]; exact List.mem_map.2 ⟨y, hy, rfl⟩
  obtain ⟨p, hp, he⟩ := List.mem_map.1 this
  simp at he
  rw [← he.1]
  exact T.reads _ (hk p hp)
 rcases T.keyed.find w hl es.toList hkeys with ⟨h1, h2⟩ | ⟨j, y, h1, h2, h3⟩
 ·refine .inl ⟨h1, look_none.2 fun p hp e => ?_, h2⟩
  have : (encK p.1, encV p.2) ∈ es.toList.map (fun e => (e.key, e.val)) := by rw [hm]; exact List.mem_map.2 ⟨p, hp, rfl⟩
  obtain ⟨y, hy, he⟩ := List.mem_map.1 this
  simp at he
  exact h2 y hy (by rw [he.1, e])
 ·have hj : (es.toList.map (fun e => (e.key, e.val)))[j]? = some (y.key, y.val) := by rw [List.getElem?_map, h2]; rfl
  rw [hm, List.getElem?_map] at hj
  cases hmj : m[j]? with
  | none => rw [hmj] at hj; cases hj
  | some p =>
   rw [hmj] at hj
   simp at hj
   have hpx : p.1 = x := T.inj _ _ (hj.1.trans h3)
   refine .inr ⟨j, y, p.2, ?_, h2, h3, ?_⟩
   ·rw [h1, hj.2]
   ·rw [hmj, ← hpx]
theorem MapIs.lookup (T : MapTy P t k e α β encK encV okK zero) (h : MapIs encK encV okK w r m) {x : α} (hx : okK x) (co : Bool) :
  (Instr.lookup t (.map (some r)) (encK x) co).run P w = .ok (match look m x with | some v => if co then .tuple #[encV v, .bool true] else encV v | none => if co then .tuple #[zero, .bool false] else zero) w := by
 obtain ⟨l, hl⟩ := T.reads x hx
 have hn := MapIs.nodup T h
 obtain ⟨es, clock, hb, hm, hs, hk⟩ := h
 rcases MapIs.find (w := w) T hm hk hx with ⟨h1, h2, _⟩ | ⟨j, y, v, h1, h2, h3, h4⟩
 ·rw [h2]
  cases co <;> simp [Instr.lookup, run_underlying T.und, MapKept.run_getObj_map hb, T.keyed.check w _ hl, h1, T.zero, Result.andThen]
 ·have hm' : look m x = some v := look_of_mem hn (List.mem_of_getElem? h4)
  rw [hm']
  cases co <;> simp [Instr.lookup, run_underlying T.und, MapKept.run_getObj_map hb, T.keyed.check w _ hl, h1, Result.andThen]
theorem grown_setBlock {es : Array MapEntry} {clock : Nat} (hb : w.heap[r]? = some (.map es clock)) (o : Obj) : w.grownBy (setBlock w r o) (some r) ∧ (setBlock w r o).heap.size = w.heap.size :=
 ⟨⟨rfl, rfl, rfl, by simp [setBlock], fun i _ hi => heap_setBlock_other hb o (fun e => hi (by rw [e]))⟩, by simp [setBlock]⟩
theorem MapIs.update (T : MapTy P t k e α β encK encV okK zero) (h : MapIs encK encV okK w r m) {x : α} (hx : okK x) (v : β) :
  ∃ w', (Instr.mapUpdate t (.map (some r)) (encK x) (encV v)).run P w = .ok () w' ∧ MapIs encK encV okK w' r (put m x v) ∧ w.grownBy w' (some r) ∧ w'.heap.size = w.heap.size := by
 obtain ⟨l, hl⟩ := T.reads x hx
 have hn := MapIs.nodup T h
 obtain ⟨es, clock, hb, hm, hs, hk⟩ := h
 rcases MapIs.find (w := w) T hm hk hx with ⟨h1, h2, h3⟩ | ⟨j, y, v0, h1, h2, h3, h4⟩
 ·refine ⟨setBlock w r (.map (es.push ⟨encK x, encV v, clock⟩) (clock + 1)), ?_, ⟨_, _, heap_setBlock_same hb _, ?_, stamped_push hs h3, ?_⟩, (grown_setBlock hb _).1, (grown_setBlock hb _).2⟩
  ·simp [Instr.mapUpdate, run_underlying T.und, MapKept.run_getObj_map hb, T.keyed.check w false hl, h1, MapKept.run_setObj_map _ hb, Result.andThen, setBlock]
  ·have hany : ¬ m.any (fun p => decide (p.1 = x)) = true := by
    intro ha
    obtain ⟨p, hp, he⟩ := List.any_eq_true.1 ha
    exact look_none.1 h2 p hp (by simpa using he)
   unfold put
   rw [if_neg hany, Array.toList_push, List.map_append, hm, List.map_append]
   rfl
  ·intro p hp
   rcases mem_put hp with rfl | ⟨hp, _⟩
   ·exact hx
   ·exact hk p hp
 ·have hjl : j < es.toList.length := (List.getElem?_eq_some_iff.1 h2).1
  have hjs : j < es.size := by simpa using hjl
  have hes : es[j]? = some y := by rw [← Array.getElem?_toList]; exact h2
  have hany : m.any (fun p => decide (p.1 = x)) = true := List.any_eq_true.2 ⟨(x, v0), List.mem_of_getElem? h4, by simp⟩
  refine ⟨setBlock w r (.map (es.modify j fun e => { e with key := encK x, val := encV v }) clock), ?_, ⟨_, _, heap_setBlock_same hb _, ?_, ?_, ?_⟩, (grown_setBlock hb _).1, (grown_setBlock hb _).2⟩
  ·simp [Instr.mapUpdate, run_underlying T.und, MapKept.run_getObj_map hb, T.keyed.check w false hl, h1, MapKept.run_setObj_map _ hb, Result.andThen, setBlock, hes, h3, T.keyed.stays w hl]
  ·unfold put
   rw [if_pos hany]
   apply List.ext_getElem?
   intro i
   have hi : ((es.toList.map (fun e => (e.key, e.val)))[i]?) = (m.map (fun p => (encK p.1, encV p.2)))[i]? := by rw [hm]
   rw [List.getElem?_map, List.getElem?_map] at hi
   rw [List.getElem?_map, List.getElem?_map, List.getElem?_map, Array.getElem?_toList, Array.getElem?_modify]
   rw [Array.getElem?_toList] at hi
   by_cases hij : j = i
   ·subst hij
    rw [if_pos rfl, hes, h4]
    simp
   ·rw [if_neg hij, hi]
    cases hmi : m[i]? with
    | none => rfl
    | some p =>
     have hpx : p.1 ≠ x := by
      intro e1
      apply hij
      have h5 : (m.map Prod.fst)[j]? = some x := by rw [List.getElem?_map, h4]; rfl
      have h6 : (m.map Prod.fst)[i]? = some x := by rw [List.getElem?_map, hmi, ← e1]; rfl
      have h7 : j < (m.map Prod.fst).length := (List.getElem?_eq_some_iff.1 h5).1
      exact (List.getElem?_inj h7 hn).1 (h5.trans h6.symm)
     simp [hpx]
  ·exact stamped_modify hs j _ (fun _ _ => rfl) (fun e' he' hj' => by
    have : e' = y := Option.some.inj (hj'.symm.trans hes)
    rw [this]; exact h3.symm)
  ·intro p hp
   rcases mem_put hp with rfl | ⟨hp, _⟩
   ·exact hx
   ·exact hk p hp
theorem MapIs.delete_ (T : MapTy P t k e α β encK encV okK zero) (h : MapIs encK encV okK w r m) {x : α} (hx : okK x) (ty : TypeId) :
  ∃ w', (Builtin.delete_ #[t, k] ty #[.map (some r), encK x]).run P w = .ok (.tuple #[]) w' ∧ MapIs encK encV okK w' r (cut m x) ∧ w.grownBy w' (some r) ∧ w'.heap.size = w.heap.size := by
 obtain ⟨l, hl⟩ := T.reads x hx
 have hn := MapIs.nodup T h
 obtain ⟨es, clock, hb, hm, hs, hk⟩ := h
 rcases MapIs.find (w := w) T hm hk hx with ⟨h1, h2, h3⟩ | ⟨j, y, v0, h1, h2, h3, h4⟩
 ·refine ⟨setBlock w r (.map es clock), ?_, ⟨_, _, heap_setBlock_same hb _, ?_, hs, fun p hp => hk p (mem_cut.1 hp).1⟩, (grown_setBlock hb _).1, (grown_setBlock hb _).2⟩
  ·simp [Builtin.delete_, run_underlying T.und, MapKept.run_getObj_map hb, T.keyed.check w _ hl, h1, MapKept.run_setObj_map _ hb, Result.andThen, setBlock]
  ·rw [hm]
   congr 1
   unfold cut
   refine (List.filter_eq_self.2 fun p hp => ?_).symm
   simpa using look_none.1 h2 p hp
 ·have hjl : j < es.toList.length := (List.getElem?_eq_some_iff.1 h2).1
  have hjs : j < es.size := by simpa using hjl
  have hsub : (es.eraseIdxIfInBounds j).toList = es.toList.eraseIdx j := by
   unfold Array.eraseIdxIfInBounds
   rw [dif_pos hjs]
   simp
  refine ⟨setBlock w r (.map (es.eraseIdxIfInBounds j) clock), ?_, ⟨_, _, heap_setBlock_same hb _, ?_, stamped_erase hs j, fun p hp => hk p (mem_cut.1 hp).1⟩, (grown_setBlock hb _).1, (grown_setBlock hb _).2⟩
  ·simp [Builtin.delete_, run_underlying T.und, MapKept.run_getObj_map hb, T.keyed.check w _ hl, h1, MapKept.run_setObj_map _ hb, Result.andThen, setBlock]
  ·rw [hsub, Go.ChangeMaps.map_eraseIdx, hm, ← Go.ChangeMaps.map_eraseIdx]
   congr 1
   unfold cut
   exact (erase_cut hn h4).symm
 where
 erase_cut {m : List (α × β)} {x : α} {v0 : β} {j : Nat} (hn : (m.map Prod.fst).Nodup) (h4 : m[j]? = some (x, v0)) : (m.filter fun p => !decide (p.1 = x)) = m.eraseIdx j := by
  induction m generalizing j with
  | nil => simp at h4
  | cons p m ih =>
   rw [List.map_cons, List.nodup_cons] at hn
   cases j with
   | zero =>
    simp at h4
    subst h4
    have : (m.filter fun p => !decide (p.1 = x)) = m := List.filter_eq_self.2 fun q hq => by
     have : q.1 ≠ x := fun e => hn.1 (List.mem_map.2 ⟨q, hq, e⟩)
     simpa using this
    simp [this]
   | succ j =>
    have hne : p.1 ≠ x := fun e => hn.1 (List.mem_map.2 ⟨(x, v0), List.mem_of_getElem? (by simpa using h4), e.symm⟩)
    rw [List.filter_cons_of_pos (by simpa using hne), ih hn.2 (by simpa using h4)]
    rfl
end
end
section
open Go.RowKit Go.MapKept
open Go.ChangeMaps (setBlock heap_setBlock_other heap_setBlock_same)
open Go.Maps (Keyed)
set_option linter.unusedSectionVars false
def IterIs {α β : Type} (encK : α → Value) (encV : β → Value) (okK : α → Prop) (w : World) (it r : Nat) (m left : List (α × β)) : Prop :=
 ∃ es clock since seen c0, w.heap[r]? = some (.map es clock) ∧ es.toList.map (fun e => (e.key, e.val)) = m.map (fun p => (encK p.1, encV p.2)) ∧ Stamped es clock ∧ (∀ p ∈ m, okK p.1) ∧
  w.heap[it]? = some (.mapIter (some r) since seen c0) ∧ (∀ x ∈ es.toList, x.born < since) ∧ since ≤ c0 ∧ since ≤ clock ∧ (leftOf es seen).toList.map (fun e => (e.key, e.val)) = left.map (fun p => (encK p.1, encV p.2))
theorem filter_erase {γ : Type} (f : γ → Nat) {l : List γ} {i : Nat} {e : γ} (hn : (l.map f).Nodup) (h : l[i]? = some e) : (l.filter fun y => !(f y == f e)) = l.eraseIdx i := by
 induction l generalizing i with
 | nil => simp at h
 | cons p l ih =>
  rw [List.map_cons, List.nodup_cons] at hn
  cases i with
  | zero =>
   simp at h
   subst h
   have : (l.filter fun y => !(f y == f p)) = l := List.filter_eq_self.2 fun q hq => by
    have : f q ≠ f p := fun e => hn.1 (List.mem_map.2 ⟨q, hq, e⟩)
    simpa using this
   simp [this]
  | succ i =>
   have hne : f p ≠ f e := fun e' => hn.1 (List.mem_map.2 ⟨e, List.mem_of_getElem? (by simpa using h), e'.symm⟩)
   rw [List.filter_cons_of_pos (by simpa using hne), ih hn.2 (by simpa using h)]
   rfl
theorem left_push (es : Array MapEntry) (seen : Array Nat) (b : Nat) : (leftOf es (seen.push b)).toList = (leftOf es seen).toList.filter fun y => !(y.born == b) := by
 unfold leftOf
 simp only [Array.toList_filter, List.filter_filter]
 congr 1
 funext y
 simp only [Array.contains_push]
 cases seen.contains y.born <;> cases hb : (y.born == b) <;> simp_all
section
variable {P : Program} {t k e : TypeId} {α β : Type} [DecidableEq α] {encK : α → Value} {encV : β → Value} {okK : α → Prop} {zero : Value}
variable {w w' : World} {r it : Nat} {m left : List (α × β)}
theorem IterIs.map (h : IterIs encK encV okK w it r m left) : MapIs encK encV okK w r m := by
 obtain ⟨es, clock, since, seen, c0, h1, h2, h3, h4, _⟩ := h
 exact ⟨es, clock, h1, h2, h3, h4⟩
theorem IterIs.lt (h : IterIs encK encV okK w it r m left) : it < w.heap.size := by
 obtain ⟨es, clock, since, seen, c0, _, _, _, _, h5, _⟩ := h
 exact (Array.getElem?_eq_some_iff.1 h5).1
theorem IterIs.ne (h : IterIs encK encV okK w it r m left) : it ≠ r := by
 obtain ⟨es, clock, since, seen, c0, h1, _, _, _, h5, _⟩ := h
 intro e
 rw [e, h1] at h5
 cases h5
theorem IterIs.keep (h : IterIs encK encV okK w it r m left) (hb : w'.heap[r]? = w.heap[r]?) (hi : w'.heap[it]? = w.heap[it]?) : IterIs encK encV okK w' it r m left := by
 obtain ⟨es, clock, since, seen, c0, h1, h2, h3, h4, h5, h6⟩ := h
 exact ⟨es, clock, since, seen, c0, hb.trans h1, h2, h3, h4, hi.trans h5, h6⟩
theorem IterIs.below {B : Nat} (h : IterIs encK encV okK w it r m left) (hb : Below B w w') (hr : r < B) (hi : it < B) : IterIs encK encV okK w' it r m left := h.keep (hb.block r hr) (hb.block it hi)
theorem IterIs.grown {row : Option Nat} (h : IterIs encK encV okK w it r m left) (hg : w.grownBy w' row) (hr : some r ≠ row) (hi : some it ≠ row) : IterIs encK encV okK w' it r m left := h.keep (hg.block r h.map.lt hr) (hg.block it h.lt hi)
theorem MapIs.range {t k e : TypeId} (ht : P.underlying t = some (.map k e)) (h : MapIs encK encV okK w r m) :
  ∃ w', (Instr.range t (.map (some r))).run P w = .ok (.pointer (some ⟨w.heap.size, 0, none⟩)) w' ∧ IterIs encK encV okK w' w.heap.size r m m ∧ w.grownBy w' none ∧ w'.heap.size = w.heap.size + 1 := by
 have hlt := h.lt
 obtain ⟨es, clock, hb, hm, hs, hk⟩ := h
 refine ⟨_, run_range_map w t k e r es clock ht hb, ⟨es, clock, clock, #[], clock, (Below.heap_alloc w _ r hlt).trans hb, hm, hs, hk, heap_alloc_new w _, ((stamped_iff es clock).1 hs).1, Nat.le_refl _, Nat.le_refl _, ?_⟩, World.grownBy_alloc w _ none, by simp⟩
 have : (leftOf es #[]).toList = es.toList := by
  unfold leftOf
  rw [Array.toList_filter]
  exact List.filter_eq_self.2 fun _ _ => by simp
 rw [this]
 exact hm
theorem IterIs.next (h : IterIs encK encV okK w it r m left) (ty : TypeId) :
  (left = [] ∧ (Instr.next (.pointer (some ⟨it, 0, none⟩)) false ty).run P w = .ok (.tuple #[.bool false]) w) ∨
  ∃ i p w', left[i]? = some p ∧ (Instr.next (.pointer (some ⟨it, 0, none⟩)) false ty).run P w = .ok (.tuple #[.bool true, encK p.1, encV p.2]) w' ∧ IterIs encK encV okK w' it r m (left.eraseIdx i) ∧ w.grownBy w' (some it) ∧ w'.heap.size = w.heap.size ∧
   (Instr.entry (.pointer (some ⟨it, 0, none⟩))).run P w' = .ok (.tuple #[encK p.1, encV p.2]) w' := by
 have hne := h.ne
 obtain ⟨es, clock, since, seen, c0, hb, hm, hs, hk, hi, hold, hsc, hsk, hl⟩ := h
 have hst := (stamped_iff es clock).1 hs
 rcases run_next_at (P := P) w ty it r since c0 seen es clock hi hb hold hsc with ⟨h0, hrun⟩ | ⟨e0, he, w1, hal, hrun⟩
 ·refine .inl ⟨?_, hrun⟩
  have : (leftOf es seen).toList = [] := List.eq_nil_of_length_eq_zero (by simpa using h0)
  rw [this] at hl
  simpa using hl.symm
 ·obtain ⟨i, hj⟩ := List.getElem?_of_mem he
  have hli : (left.map (fun p => (encK p.1, encV p.2)))[i]? = some (e0.key, e0.val) := by rw [← hl, List.getElem?_map, hj]; rfl
  rw [List.getElem?_map] at hli
  cases hlp : left[i]? with
  | none => rw [hlp] at hli; cases hli
  | some p =>
   rw [hlp] at hli
   simp at hli
   have hem : e0 ∈ es.toList := by
    unfold leftOf at he
    simp at he
    simpa using he.1
   have hi1 : w1.heap[it]? = some (.mapIter (some r) since seen c0) := by rcases hal with rfl | rfl <;> exact hi
   have hb1 : w1.heap[r]? = some (.map es clock) := by rcases hal with rfl | rfl <;> exact hb
   have hset := heap_set (o' := .mapIter (some r) since (seen.push e0.born) clock) hi1
   have hb' : (setBlock w1 it (.mapIter (some r) since (seen.push e0.born) clock)).heap[r]? = some (.map es clock) := (hset.2 r (fun e1 => hne e1.symm)).trans hb1
   have hsub : ((leftOf es seen).toList.map (·.born)).Nodup := by
    unfold leftOf
    rw [Array.toList_filter]
    exact hst.2.1.sublist (List.filter_sublist.map _)
   refine .inr ⟨i, p, _, hlp, by rw [hrun, hli.1, hli.2], ⟨es, clock, since, seen.push e0.born, clock, hb', hm, hs, hk, hset.1, hold, hsk, hsk, ?_⟩, ?_, ?_, ?_⟩
   ·rw [left_push, filter_erase (·.born) hsub hj, Go.ChangeMaps.map_eraseIdx, hl, ← Go.ChangeMaps.map_eraseIdx]
   ·rcases hal with rfl | rfl <;> exact ⟨rfl, rfl, rfl, by simp [setBlock], fun i _ hi => hset.2 i (fun e1 => hi (by rw [e1]))⟩
   ·rcases hal with rfl | rfl <;> simp [setBlock]
   ·rw [run_entry_at _ it r since seen es clock e0 hset.1 hb' hem hst.2.1, hli.1, hli.2]
end
end
section
open Go.RowKit Go.MapKept Go.Shelf
open Go.Maps (Keyed)
set_option linter.unusedSectionVars false
def iterLeft (w : World) (it : Nat) : Nat := match w.heap[it]? with
 | some (.mapIter (some r) _ seen _) => match w.heap[r]? with
  | some (.map es _) => (leftOf es seen).size
  | _ => 0
 | _ => 0
section
variable {α β : Type} [DecidableEq α] {encK : α → Value} {encV : β → Value} {okK : α → Prop} {w w' : World} {r it : Nat} {m left : List (α × β)}
theorem IterIs.left_eq (h : IterIs encK encV okK w it r m left) : iterLeft w it = left.length := by
 obtain ⟨es, clock, since, seen, c0, hb, hm, hs, hk, hi, hold, hsc, hsk, hl⟩ := h
 unfold iterLeft
 simp only [hi, hb]
 have := congrArg List.length hl
 simpa using this
theorem IterIs.walks (h : IterIs encK encV okK w it r m left) (hk : KeepsWalks w w') : IterIs encK encV okK w' it r m left := by
 obtain ⟨es, clock, since, seen, c0, hb, hm, hs, hkk, hi, rest⟩ := h
 exact ⟨es, clock, since, seen, c0, hk.same r _ hb rfl, hm, hs, hkk, hk.same it _ hi rfl, rest⟩
theorem IterIs.iter_walk (h : IterIs encK encV okK w it r m left) : ∃ o : Obj, w.heap[it]? = some o ∧ o.isWalk = true := by
 obtain ⟨es, clock, since, seen, c0, hb, hm, hs, hkk, hi, rest⟩ := h
 exact ⟨_, hi, rfl⟩
theorem MapIs.walks (h : MapIs encK encV okK w r m) (hk : KeepsWalks w w') : MapIs encK encV okK w' r m := by
 obtain ⟨es, clock, hb, rest⟩ := h
 exact ⟨es, clock, hk.same r _ hb rfl, rest⟩
theorem IterIs.alloc (h : IterIs encK encV okK w it r m left) (o : Obj) : IterIs encK encV okK (w.alloc o) it r m left := h.walks (KeepsWalks.alloc w o)
end
theorem perm_erase {α : Type} : ∀ {l : List α} {i : Nat} {x : α}, l[i]? = some x → (x :: l.eraseIdx i).Perm l
 | [], i, x, h => by simp at h
 | y :: l, 0, x, h => by simp at h; subst h; simp
 | y :: l, i + 1, x, h => by
  have := perm_erase (l := l) (i := i) (x := x) (by simpa using h)
  rw [List.eraseIdx_cons_succ]
  exact (List.Perm.swap y x _).trans (this.cons y)
end
section
open Go.RowKit Go.Shelf
attribute [local go_sem] Oper.semAt_some
def okI (x : Int) : Prop := (Lit.int .i64 x).wf = true
theorem okI_of {x : Int} (h1 : -1000000000000 ≤ x) (h2 : x ≤ 1000000000000) : okI x := by
 have e1 : IntKind.i64.min = -9223372036854775808 := by decide
 have e2 : IntKind.i64.max = 9223372036854775807 := by decide
 show (decide (IntKind.i64.min ≤ x) && decide (x ≤ IntKind.i64.max)) = true
 rw [e1, e2]
 simp only [Bool.and_eq_true, decide_eq_true_eq]
 omega
abbrev WkMap (w : World) (r : Nat) (m : List (Int × Wk)) : Prop := MapIs (Value.int .i64) Wk.val okI w r m
abbrev zeroWk : Value := .agg #[.int .i64 0, .int .i64 0, .int .i64 0, .int .i64 0, .int .i64 0, .slice none 0 0]
theorem wkTy : MapTy Tryz.prog 104 3 99 Int Wk (Value.int .i64) Wk.val okI zeroWk where
 und := Tryz.underlying104
 keyed := Maps.int_keyed Tryz.underlying3
 reads := fun x hx => ⟨_, Maps.keyOf_int_mk Tryz.underlying3 hx⟩
 inj := fun x y h => by cases h; rfl
 zero := fun w => by kernel_rfl
abbrev WkOf (vs : List Wk) := { y : Wk // y ∈ vs }
def WkOf.enc {vs : List Wk} (y : WkOf vs) : Array Value := #[y.1.val]
set_option maxRecDepth 100000 in
set_option maxHeartbeats 4000000 in
theorem all1_stops (n : Nat) (hn : 2 ≤ n) (g r : Nat) (m : List (Int × Wk)) (w : World) (hg : Blk w g 104 #[.map (some r)]) (hm : WkMap w r m) :
  SeqStopsK Fence.wide n Tryz.prog 103 #[.pointer (some ⟨g, 0, none⟩)] (WkOf.enc (vs := m.map Prod.snd)) KeepsWalks
   (fun xs => (xs.map Subtype.val).Perm (m.map Prod.snd)) (fun pre => True) m.length w := by
 intro l J Jx W0 hW hJ hJx hY h0
 have hm0 := hm.below hW hm.lt
 have q0 : W0.cell? ⟨g, 0, none⟩ = some (.map (some r)) := (hg.below hW hg.lt).cell 0
 obtain ⟨w1, hr1, hi1, hg1, hs1⟩ := MapIs.range (P := Tryz.prog) (t := 104) Tryz.underlying104 hm0
 have HJ := lh hJ
 have HJx := lh hJx
 have HY := lh hY
 have H0 := lh (hJ [] W0 w1 none h0 hg1 (fun r e => by cases e))
 have HI := lh hi1
 clear hg hm hJ hJx hY h0 hW hm0 hi1 hg1
 refine callsIn_of_wp Tryz.func103 rfl trivial ?_ rfl
 simp only [Tryz.ntmps103, List.size_toArray, List.length_cons, List.length_nil, Nat.reduceAdd, Nat.reduceSub, Array.replicate_succ, Array.replicate_zero, List.push_toArray, List.append_toArray, List.nil_append, List.cons_append]
 gi_wp2
 clear q0 hr1
 refine wpIn_loop (fun a W => ∃ (left : List (Int × Wk)) (pre : List (WkOf (m.map Prod.snd))) (u4 u7 u8 u9 u10 u11 u12 u13 u14 : Value), Hid (IterIs (Value.int .i64) Wk.val okI W W0.heap.size r m left ∧ J pre W ∧ (pre.map Subtype.val ++ left.map Prod.snd).Perm (m.map Prod.snd) ∧ (∀ p ∈ left, p ∈ m)) ∧
   a = { tmps := #[.func (.yield l) #[] #[], .pointer (some ⟨g, 0, none⟩), undef, undef, u4, .map (some r), .pointer (some ⟨W0.heap.size, 0, none⟩), u7, u8, u9, u10, u11, u12, u13, u14], defers := [] })
  (fun _ W => iterLeft W W0.heap.size) ?_ ?_
 ·exact ⟨m, [], undef, undef, undef, undef, undef, undef, undef, undef, undef, lh ⟨HI.out, H0.out, by simp, fun p hp => hp⟩, rfl⟩
 ·rintro a W ⟨left, pre, u4, u7, u8, u9, u10, u11, u12, u13, u14, HS, rfl⟩
  rcases HS.out.1.next (P := Tryz.prog) 0 with ⟨hl, hr⟩ | ⟨i, p, w', hp, hr, hi2, hg2, hs2, he2⟩
  ·gi_wp2
   go_end0
   subst hl
   exact ⟨⟨_, rfl⟩, .inl ⟨pre, by simpa using HS.out.2.2.1, HS.out.2.1⟩⟩
  ·obtain ⟨kk, x⟩ := p
   have hx : x ∈ m.map Prod.snd := List.mem_map.2 ⟨(kk, x), HS.out.2.2.2 _ (List.mem_of_getElem? hp), rfl⟩
   have hlen : pre.length < m.length := by
    have h1 := HS.out.2.2.1.length_eq
    have h2 := (List.getElem?_eq_some_iff.1 hp).1
    simp at h1
    omega
   have hj2 := HJ.out pre W w' _ HS.out.2.1 hg2 (fun r e => by cases e; exact ⟨Nat.le_refl _, HS.out.1.iter_walk⟩)
   have hj3 := HJ.out pre w' (w'.alloc (.cells #[.int .i64 x.to, .int .i64 x.cost.a, .int .i64 x.cost.b, .int .i64 x.cost.c, .int .i64 x.cost.d, .slice x.A x.n x.cap] 99)) none hj2 (World.grownBy_alloc _ _ none) (fun r e => by cases e)
   obtain ⟨fn, tmps, assign, body, hy, hR⟩ := HY.out pre ⟨x, hx⟩ _ hj3 hlen
   unfold WkOf.enc at hy
   dsimp only at hy
   have HP := lh hp
   have HR := lh hR
   have HI2 := lh (hi2.alloc (.cells #[.int .i64 x.to, .int .i64 x.cost.a, .int .i64 x.cost.b, .int .i64 x.cost.c, .int .i64 x.cost.d, .slice x.A x.n x.cap] 99))
   clear hp hR hj2 hj3 hi2 hg2
   gi_wp2
   refine ⟨fun _ => by omega, HR.out.mono ?_⟩
   rintro e W3 (⟨rfl, hJ3, hk3⟩ | ⟨rfl, hJx3⟩)
   ·have HJ3 := lh hJ3
    have HK3 := lh hk3
    clear hJ3 hk3 hr he2
    gi_wp2
    have hi3 := HI2.out.walks HK3.out
    refine ⟨⟨left.eraseIdx i, pre ++ [⟨x, hx⟩], _, _, _, _, _, _, _, _, _, lh ⟨hi3, HJ3.out, ?_, fun p hp => HS.out.2.2.2 p (List.mem_of_mem_eraseIdx hp)⟩, rfl⟩, ?_⟩
    ·have h1 := (perm_erase HP.out).map Prod.snd
     rw [List.map_append, List.append_assoc]
     exact (h1.append_left _).trans HS.out.2.2.1
    ·have h2 := (List.getElem?_eq_some_iff.1 HP.out).1
     rw [hi3.left_eq, HS.out.1.left_eq, List.length_eraseIdx_of_lt h2]
     omega
   ·have HJ3 := lh hJx3
    clear hJx3 hr he2
    gi_wp2
    refine bodyPost_ret (results_none rfl _ _ _) rfl ?_
    exact ⟨⟨_, rfl⟩, .inr ⟨_, trivial, HJ3.out⟩⟩
end
section
abbrev Leg := Int × Int
def addG (x y : Leg) : Leg := (x.1 + y.1, x.2 + y.2)
def lessG (x y : Leg) : Bool := x.1 < y.1 || (x.1 == y.1 && x.2 < y.2)
abbrev Rnd := List Int × Leg
def ordG (T : Int → Int → Option Leg) (base : Int) : Int → Leg → List Int → Option Leg
 | p, s, [] => (T p base).map (addG s)
 | p, s, x :: l => match T p x with
  | none => none
  | some d => ordG T base x (addG s d) l
def dfs (T : Int → Int → Option Leg) (base : Int) : Nat → List Int → Int → Leg → List Int → List Rnd
 | 0, o, p, s, l => match T p base with
  | none => []
  | some d => [(o, addG s d)]
 | n + 1, o, p, s, l => l.flatMap fun x => match T p x with
  | none => []
  | some d => dfs T base n (o ++ [x]) x (addG s d) (l.erase x)
def cmpG (x y : Leg) : Int := if x.1 < y.1 then -1 else if y.1 < x.1 then 1 else if x.2 < y.2 then -1 else if y.2 < x.2 then 1 else 0
def cmpR (a b : Rnd) : Int := if a.2 = b.2 then cmpL a.1 b.1 else cmpG a.2 b.2
def stepC (b : Option Rnd) (x : Rnd) : Option Rnd := match b with
 | none => some x
 | some y => if cmpR x y < 0 then some x else some y
def stepR (b : Option Rnd) (x : Rnd) : Option Rnd := match b with
 | none => some x
 | some y => if lessG x.2 y.2 then some x else some y
theorem cmpG_less (x y : Leg) : decide (cmpG x y < 0) = lessG x y := by
 unfold cmpG lessG
 by_cases h1 : x.1 < y.1
 ·simp [h1]
 ·by_cases h2 : y.1 < x.1
  ·have : x.1 ≠ y.1 := by omega
   simp [h1, h2, this]
  ·have : x.1 = y.1 := by omega
   by_cases h3 : x.2 < y.2
   ·simp [h3, this]
   ·by_cases h4 : y.2 < x.2 <;> simp [h1, h2, h3, h4]
theorem lessG_irrefl (x : Leg) : lessG x x = false := by simp [lessG]
theorem step_eq {x y : Rnd} (h : cmpL y.1 x.1 < 0) : stepC (some y) x = stepR (some y) x := by
 unfold stepC stepR cmpR
 by_cases e : x.2 = y.2
 ·have h1 := cmpL_swap y.1 x.1
  have h2 : ¬ cmpL x.1 y.1 < 0 := by omega
  simp only []
  rw [if_pos e, if_neg h2, e, lessG_irrefl]
  rfl
 ·have h1 := cmpG_less x.2 y.2
  simp only [if_neg e]
  by_cases h2 : cmpG x.2 y.2 < 0
  ·rw [if_pos h2, ← h1, decide_eq_true h2]; rfl
  ·rw [if_neg h2, ← h1, decide_eq_false h2]; rfl
theorem fold_eq : ∀ (l : List Rnd) (b : Option Rnd), l.Pairwise (fun x y => cmpL x.1 y.1 < 0) → (∀ y, b = some y → ∀ x ∈ l, cmpL y.1 x.1 < 0) → l.foldl stepC b = l.foldl stepR b
 | [], b, _, _ => rfl
 | x :: l, b, h, hb => by
  rw [List.foldl_cons, List.foldl_cons]
  have hx : stepC b x = stepR b x := by
   cases b with
   | none => rfl
   | some y => exact step_eq (hb y rfl x (by simp))
  rw [hx]
  rw [List.pairwise_cons] at h
  refine fold_eq l _ h.2 fun y hy z hz => ?_
  have hy' : y = x ∨ b = some y := by
   cases b with
   | none => simp only [stepR, Option.some.injEq] at hy; exact .inl hy.symm
   | some y' =>
    simp only [stepR] at hy
    split at hy
    ·cases hy; exact .inl rfl
    ·cases hy; exact .inr rfl
  rcases hy' with rfl | hy'
  ·exact h.1 z hz
  ·exact hb y hy' z (by simp [hz])
theorem dfs_pre (T : Int → Int → Option Leg) (base : Int) : ∀ (n : Nat) (o : List Int) (p : Int) (s : Leg) (l : List Int), ∀ r ∈ dfs T base n o p s l, ∃ q, r.1 = o ++ q
 | 0, o, p, s, l, r, h => by
  unfold dfs at h
  split at h
  ·cases h
  ·simp at h; exact ⟨[], by simp [h]⟩
 | n + 1, o, p, s, l, r, h => by
  unfold dfs at h
  obtain ⟨x, hx, h⟩ := List.mem_flatMap.1 h
  split at h
  ·cases h
  ·obtain ⟨q, hq⟩ := dfs_pre T base n _ _ _ _ r h
   exact ⟨x :: q, by simp [hq]⟩
theorem dfs_lex (T : Int → Int → Option Leg) (base : Int) : ∀ (n : Nat) (o : List Int) (p : Int) (s : Leg) (l : List Int), l.Pairwise (· < ·) → (dfs T base n o p s l).Pairwise (fun x y => cmpL x.1 y.1 < 0)
 | 0, o, p, s, l, h => by
  unfold dfs
  split
  ·exact List.Pairwise.nil
  ·simp
 | n + 1, o, p, s, l, h => by
  unfold dfs
  rw [List.pairwise_flatMap]
  refine ⟨fun x hx => ?_, h.imp_of_mem fun {x y} hx hy hxy => ?_⟩
  ·split
   ·exact List.Pairwise.nil
   ·exact dfs_lex T base n _ _ _ _ (h.sublist List.erase_sublist)
  ·intro a ha b hb
   split at ha
   ·cases ha
   ·split at hb
    ·cases hb
    ·obtain ⟨q, hq⟩ := dfs_pre T base n _ _ _ _ a ha
     obtain ⟨q', hq'⟩ := dfs_pre T base n _ _ _ _ b hb
     rw [hq, hq', List.append_assoc, List.append_assoc, cmpL_pre, List.singleton_append, List.singleton_append, cmpL_cons, if_pos hxy]
     decide
def bestG (T : Int → Int → Option Leg) (base : Int) (l : List Int) : Option Rnd := (dfs T base l.length [] base (0, 0) l).foldl stepR none
theorem bestG_C (T : Int → Int → Option Leg) (base : Int) (l : List Int) (h : l.Pairwise (· < ·)) : (dfs T base l.length [] base (0, 0) l).foldl stepC none = bestG T base l :=
 fold_eq _ _ (dfs_lex T base _ _ _ _ _ h) (fun y h => by cases h)
end
section
open Go.RowKit Go.Shelf
abbrev P2 := Int × Int
def P2.key (x : P2) : Value := .agg #[.int .i64 x.1, .int .i64 x.2]
def Leg.val (x : Leg) : Value := .agg #[.int .i64 x.1, .int .i64 x.2]
def okP (x : P2) : Prop := okI x.1 ∧ okI x.2
abbrev LgMap (w : World) (r : Nat) (m : List (P2 × Leg)) : Prop := MapIs P2.key Leg.val okP w r m
theorem arr2 : WideMaps.ArrKey Tryz.prog 184 3 2 := ⟨Tryz.underlying184, by kernel_rfl, by kernel_rfl, by kernel_rfl⟩
theorem types_pos : ∃ m, Tryz.prog.types.size = m + 1 := by
 have h : 0 < Tryz.prog.types.size := of_decide_eq_true (by kernel_rfl)
 exact ⟨Tryz.prog.types.size - 1, by omega⟩
abbrev zeroLeg : Value := .agg #[.int .i64 0, .int .i64 0]
theorem lgTy : MapTy Tryz.prog 127 184 34 P2 Leg P2.key Leg.val okP zeroLeg where
 und := Tryz.underlying127
 keyed := Maps.Keyed.of_law arr2.law
 reads := fun x hx => ⟨_, WideMaps.keyOf_pair arr2 Tryz.underlying3 types_pos hx.1 hx.2⟩
 inj := fun x y h => by
  obtain ⟨a, b⟩ := x
  obtain ⟨a', b'⟩ := y
  simp [P2.key] at h
  simp [h]
 zero := fun w => by kernel_rfl
def legD (m : List (P2 × Leg)) (a b : Int) : Leg := (look m (a, b)).getD (0, 0)
def legB (m : List (P2 × Leg)) (a b : Int) : Bool := (look m (a, b)).isSome
def AddOut (w : World) (m : List (P2 × Leg)) (s : Leg) (a b : Int) (e : Ending) (w' : World) : Prop :=
 e = .returned (.tuple #[.agg #[.int .i64 (s.1 + (legD m a b).1), .int .i64 (s.2 + (legD m a b).2)], .bool (legB m a b)]) ∧ Below w.heap.size w w'
set_option maxRecDepth 100000 in
set_option maxHeartbeats 8000000 in
theorem add_any (r : Nat) (m : List (P2 × Leg)) (s : Leg) (a b : Int) (w : World) (hm : LgMap w r m) (ha : okI a) (hb : okI b) (hs1 : 0 ≤ s.1 ∧ s.1 ≤ 1000000) (hs2 : 0 ≤ s.2 ∧ s.2 ≤ 1000000) (hl : ∀ p ∈ m, (0 ≤ p.2.1 ∧ p.2.1 ≤ 100000) ∧ 0 ≤ p.2.2 ∧ p.2.2 ≤ 100000) :
  Calls Tryz.prog 79 #[.map (some r), .agg #[.int .i64 s.1, .int .i64 s.2], .int .i64 a, .int .i64 b] w (AddOut w m s a b) := by
 obtain ⟨s1, s2⟩ := s
 have HM := lh hm
 have hok : okP (a, b) := ⟨ha, hb⟩
 have HOK := lh hok
 obtain ⟨d, hd⟩ : ∃ d, legD m a b = d := ⟨_, rfl⟩
 obtain ⟨f, hf⟩ : ∃ f, legB m a b = f := ⟨_, rfl⟩
 have hdb : (0 ≤ d.1 ∧ d.1 ≤ 100000) ∧ 0 ≤ d.2 ∧ d.2 ≤ 100000 := by
  rw [← hd]
  unfold legD
  cases h : look m (a, b) with
  | none => simp
  | some v => exact hl _ (look_mem h)
 have HD := lh hd
 have HF := lh hf
 have hlv : ∀ W : World, LgMap W r m → (Instr.lookup 127 (.map (some r)) (.agg #[.int .i64 a, .int .i64 b]) true).run Tryz.prog W = .ok (.tuple #[.agg #[.int .i64 d.1, .int .i64 d.2], .bool f]) W := by
  intro W hW
  have h := hW.lookup lgTy hok true
  rw [show P2.key (a, b) = .agg #[.int .i64 a, .int .i64 b] from rfl] at h
  rw [h, ← hd, ← hf]
  unfold legD legB
  cases look m (a, b) <;> rfl
 have HLV := lh hlv
 clear hm hok ha hb hd hf hlv hl
 obtain ⟨d1, d2⟩ := d
 obtain ⟨⟨q1, q2⟩, q3, q4⟩ := hdb
 obtain ⟨q5, q6⟩ := hs1
 obtain ⟨q7, q8⟩ := hs2
 dsimp only at *
 go_enter Tryz.func79, Tryz.ntmps79
 go_upto_region 1 with fail
 have Ly := lh (Lay.two w 34 #[.int .i64 s1, .int .i64 s2] 34 #[.int .i64 0, .int .i64 0])
 generalize ((w.alloc (.cells #[.int .i64 s1, .int .i64 s2] 34)).alloc (.cells #[.int .i64 0, .int .i64 0] 34)) = w0 at *
 have hlk := HLV.out w0 (HM.out.below Ly.out.1 HM.out.lt)
 obtain ⟨x0, x1⟩ := lyc2 Ly 0 rfl
 have l0 := Ly.out.lt 0 rfl
 have y0 := lyf Ly 1 rfl 0
 have y1 := lyf Ly 1 rfl 1
 have z0 := lyc Ly 1 rfl 0
 have z1 := lyc Ly 1 rfl 1
 have l1 := Ly.out.lt 1 rfl
 go_wp2_with fail
 have R1 := ret2' (Ly.out.blk 1 rfl) Ly.out.1 (by omega) (.int .i64 (s1 + d1)) (.int .i64 (s2 + d2))
 have R2 := R1.1.alloc (.cells #[.int .i64 d1, .int .i64 d2] 34)
 have v0 := R2.cell 0
 have v1 := R2.cell 1
 refine bodyPost_ret (v := .tuple #[.agg #[.int .i64 (s1 + d1), .int .i64 (s2 + d2)], .bool f]) (by simp [results, Tryz.results79, go_sem, v0, v1]) rfl ?_
 unfold AddOut
 rw [HD.out, HF.out]
 exact ⟨rfl, R1.2.1.alloc R1.2.1.size _⟩
end
section
open Go.RowKit
def askE (t : Town) (l : List Int) : Int := if townB t then (if hasB t l then 0 else 31) else 30
set_option maxRecDepth 100000 in
set_option maxHeartbeats 2000000 in
theorem asked_any (A : Option Addr) (n c : Nat) (A' : Option Addr) (m d : Nat) (t : Town) (A2 : Option Addr) (k e : Nat) (l : List Int) (w : World) (hn : n ≤ maxLen) (hm : m ≤ maxLen) (hk : k ≤ maxLen) (ht : TownAt w w.heap.size A n A' m t) (hr : IntsAt w w.heap.size A2 k l) (hL : Laid w) :
  Calls Tryz.prog 57 #[.agg #[.slice A n c, .slice A' m d], .slice A2 k e] w fun e w' => e = .returned (.int .i64 (askE t l)) ∧ Below w.heap.size w w' := by
 have HT := lh ht
 have HR := lh hr
 have HL := lh hL
 clear ht hr hL
 go_enter Tryz.func57, Tryz.ntmps57
 go_wp2_with fail
 have X0 := Blk.new w 25 #[.slice A n c, .slice A' m d]
 have B0 : Below w.heap.size w (w.alloc (.cells #[.slice A n c, .slice A' m d] 25)) := (Below.refl _ _).alloc (Nat.le_refl _) _
 generalize (w.alloc (.cells #[.slice A n c, .slice A' m d] 25)) = w0 at *
 have hl0 := HL.out.2.2.2
 refine (check_any A n c A' m d t w0 hn hm ((HT.out.below B0).more B0.size) (HL.out.below B0 hl0)).mono ?_
 rintro e w1 ⟨rfl, hb1⟩
 have X1 := X0.below hb1 X0.lt
 have B1 := B0.trans (hb1.mono B0.size)
 have x0 := X1.cell 0
 have x1 := X1.cell 1
 clear X0 B0 hb1 X1
 unfold chk
 cases ht : townB t with
 | false =>
  have HTB := lh ht
  clear ht
  go_wp2_with fail
  go_ret
  exact ⟨ret_int (by unfold askE; rw [HTB.out]; rfl), B1⟩
 | true =>
  have HTB := lh ht
  clear ht
  go_wp2_with fail
  refine (has_any A n c A' m d t A2 k e l w1 hn hk ((HT.out.below B1).more B1.size) ((HR.out.below B1).more B1.size)).mono ?_
  rintro e w2 ⟨rfl, hb2⟩
  have B2 := B1.trans (hb2.mono B1.size)
  cases hh : hasB t l with
  | false =>
   have HH := lh hh
   clear hh
   go_wp2_with fail
   go_ret
   exact ⟨ret_int (by unfold askE; rw [HTB.out, HH.out]; rfl), B2⟩
  | true =>
   have HH := lh hh
   clear hh
   go_wp2_with fail
   go_ret
   exact ⟨ret_int (by unfold askE; rw [HTB.out, HH.out]; rfl), B2⟩
def or2 (a b : Int) : Int := if a = 0 then b else a
set_option maxRecDepth 100000 in
set_option maxHeartbeats 2000000 in
theorem or_any (a b : Int) (g : Nat) (w : World) (hg : Blk w g 30 #[.int .i64 a, .int .i64 b]) :
  Calls Tryz.prog 89 #[.slice (some ⟨g, 0, none⟩) 2 2] w fun e w' => e = .returned (.int .i64 (or2 a b)) ∧ w' = w := by
 have c0 := hg.cell 0
 have c1 := hg.cell 1
 have hlt := hg.lt
 clear hg
 go_enter Tryz.func89, Tryz.ntmps89
 go_wp2_with fail
 go_loop [8, 5] (fun i x => ∃ k : Nat, k ≤ 2 ∧ i = .int .i64 k ∧ Hid ((0 < k → a = 0) ∧ (1 < k → b = 0))) (fun i _ => 2 - (intOf i).toNat)
 case atStart => exact ⟨0, by omega, rfl, lh ⟨fun h => absurd h (by omega), fun h => absurd h (by omega)⟩⟩
 case round =>
  obtain ⟨k, hk, rfl, HP⟩ := hrel
  have hk' : k = 0 ∨ k = 1 ∨ k = 2 := by omega
  rcases hk' with rfl | rfl | rfl
  ·by_cases ha : a = 0
   ·have ha' : (a == 0) = true := by simpa using ha
    have ha2 : (a != 0) = false := by simpa using ha
    have HA := lh ha
    clear ha
    go_wp2_with fail
    go_round
    case rel => exact ⟨1, by omega, by go_num, lh ⟨fun _ => HA.out, fun h => absurd h (by omega)⟩⟩
    case measure => simp [intOf]
   ·have ha' : (a == 0) = false := by simpa using ha
    have ha2 : (a != 0) = true := by simpa using ha
    have HA := lh ha
    clear ha
    go_wp2_with fail
    go_ret
    exact ⟨ret_int (by unfold or2; rw [if_neg HA.out]), rfl⟩
  ·by_cases hb : b = 0
   ·have hb' : (b == 0) = true := by simpa using hb
    have hb2 : (b != 0) = false := by simpa using hb
    have HB := lh hb
    clear hb
    go_wp2_with fail
    go_round
    case rel => exact ⟨2, by omega, by go_num, lh ⟨fun _ => HP.out.1 (by omega), fun _ => HB.out⟩⟩
    case measure => simp [intOf]
   ·have hb' : (b == 0) = false := by simpa using hb
    have hb2 : (b != 0) = true := by simpa using hb
    have HB := lh hb
    clear hb
    go_wp2_with fail
    go_ret
    exact ⟨ret_int (by unfold or2; rw [if_pos (HP.out.1 (by omega))]), rfl⟩
  ·go_wp2_with fail
   go_ret
   exact ⟨ret_int (by unfold or2; rw [if_pos (HP.out.1 (by omega)), HP.out.2 (by omega)]), rfl⟩
end
section
open Go.RowKit Go.Shelf
set_option maxRecDepth 100000 in
set_option maxHeartbeats 2000000 in
theorem orI_any (a b : Int) (g : Nat) (w : World) (hg : Blk w g 3 #[.int .i64 a, .int .i64 b]) :
  Calls Tryz.prog 119 #[.slice (some ⟨g, 0, none⟩) 2 2] w fun e w' => e = .returned (.int .i64 (or2 a b)) ∧ w' = w := by
 have c0 := hg.cell 0
 have c1 := hg.cell 1
 have hlt := hg.lt
 clear hg
 go_enter Tryz.func119, Tryz.ntmps119
 go_wp2_with fail
 go_loop [8, 5] (fun i x => ∃ k : Nat, k ≤ 2 ∧ i = .int .i64 k ∧ Hid ((0 < k → a = 0) ∧ (1 < k → b = 0))) (fun i _ => 2 - (intOf i).toNat)
 case atStart => exact ⟨0, by omega, rfl, lh ⟨fun h => absurd h (by omega), fun h => absurd h (by omega)⟩⟩
 case round =>
  obtain ⟨k, hk, rfl, HP⟩ := hrel
  have hk' : k = 0 ∨ k = 1 ∨ k = 2 := by omega
  rcases hk' with rfl | rfl | rfl
  ·by_cases ha : a = 0
   ·have ha' : (a == 0) = true := by simpa using ha
    have ha2 : (a != 0) = false := by simpa using ha
    have HA := lh ha
    clear ha
    go_wp2_with fail
    go_round
    case rel => exact ⟨1, by omega, by go_num, lh ⟨fun _ => HA.out, fun h => absurd h (by omega)⟩⟩
    case measure => simp [intOf]
   ·have ha' : (a == 0) = false := by simpa using ha
    have ha2 : (a != 0) = true := by simpa using ha
    have HA := lh ha
    clear ha
    go_wp2_with fail
    go_ret
    exact ⟨ret_int (by unfold or2; rw [if_neg HA.out]), rfl⟩
  ·by_cases hb : b = 0
   ·have hb' : (b == 0) = true := by simpa using hb
    have hb2 : (b != 0) = false := by simpa using hb
    have HB := lh hb
    clear hb
    go_wp2_with fail
    go_round
    case rel => exact ⟨2, by omega, by go_num, lh ⟨fun _ => HP.out.1 (by omega), fun _ => HB.out⟩⟩
    case measure => simp [intOf]
   ·have hb' : (b == 0) = false := by simpa using hb
    have hb2 : (b != 0) = true := by simpa using hb
    have HB := lh hb
    clear hb
    go_wp2_with fail
    go_ret
    exact ⟨ret_int (by unfold or2; rw [if_pos (HP.out.1 (by omega))]), rfl⟩
  ·go_wp2_with fail
   go_ret
   exact ⟨ret_int (by unfold or2; rw [if_pos (HP.out.1 (by omega)), HP.out.2 (by omega)]), rfl⟩
def lessP (a1 a2 b1 b2 : Int) : Bool := decide (a1 < b1) || (a1 == b1 && decide (a2 < b2))
theorem easy_lt (a1 a2 b1 b2 : Int) : decide (or2 (cmpI a1 b1) (cmpI a2 b2) < 0) = lessP a1 a2 b1 b2 := by
 unfold lessP or2 cmpI
 rcases Int.lt_trichotomy a1 b1 with h | h | h
 ·simp [h]
 ·subst h
  rcases Int.lt_trichotomy a2 b2 with h | h | h
  ·simp [h]
  ·subst h; simp
  ·have h' : ¬ a2 < b2 := by omega
   simp [h, h']
 ·have h1 : ¬ a1 < b1 := by omega
  have h2 : ¬ a1 = b1 := by omega
  simp [h, h1, h2]
set_option maxRecDepth 100000 in
set_option maxHeartbeats 8000000 in
theorem easier_in (a1 a2 b1 b2 : Int) (w : World) :
  CallsIn Fence.wide 9 Tryz.prog 85 #[.agg #[.int .i64 a1, .int .i64 a2], .agg #[.int .i64 b1, .int .i64 b2]] w fun e w' => e = .returned (.int .i64 (or2 (cmpI a1 b1) (cmpI a2 b2))) ∧ Below w.heap.size w w' := by
 refine callsIn_of_wp Tryz.func85 rfl trivial ?_ rfl
 simp only [Tryz.ntmps85, List.size_toArray, List.length_cons, List.length_nil, Nat.reduceAdd, Nat.reduceSub, Array.replicate_succ, Array.replicate_zero, List.push_toArray, List.append_toArray, List.nil_append, List.cons_append]
 gi_wp2
 have Ly := lh (Lay.two w 34 #[.int .i64 a1, .int .i64 a2] 34 #[.int .i64 b1, .int .i64 b2])
 generalize ((w.alloc (.cells #[.int .i64 a1, .int .i64 a2] 34)).alloc (.cells #[.int .i64 b1, .int .i64 b2] 34)) = w0 at *
 refine wpIn_flow_old [([true, true, true, true, false, true, true, true, true], 4), ([], 9), ([], 10), ([], 11)] [false, false, false, false, false, false, false, false, false, false, false, false, true] [] (by kernel_rfl) (by kernel_rfl) (by kernel_rfl) (below_drewN (Below.refl _ _) 1) ?_
 refine wpFlow_cons (A := ?AF1) rfl ?hq1 ?_
 case hq1 =>
  rintro σ hσ of hof hcl
  have HOF := lh hof
  have HCL := lh hcl
  clear hof hcl
  obtain ⟨c0_, c1_⟩ := lyz2 Ly HOF 0 rfl
  obtain ⟨c2_, c3_⟩ := lyz2 Ly HOF 1 rfl
  have hfw := hfT
  simp only [pickB]
  repeat (gi_big_quiet_step (fail))
  refine wpQuietIn_nil ?_
  exact rfl
 intro W1 hW
 replace Ly := lyb Ly hW
 clear hW
 gi_wp2
 refine ⟨trivial, (callsIn_wide.2 (cmp_int a1 b1 W1)).mono ?_⟩
 rintro e W2 ⟨rfl, rfl⟩
 gi_wp2
 refine ⟨trivial, Below.refl _ _, ?_⟩
 refine wpFlow_cons rfl Quietly.none ?_
 intro W3 hW
 replace Ly := lyb Ly hW
 clear hW
 gi_wp2
 refine ⟨trivial, (callsIn_wide.2 (cmp_int a2 b2 W3)).mono ?_⟩
 rintro e W4 ⟨rfl, rfl⟩
 gi_wp2
 refine ⟨trivial, Below.refl _ _, ?_⟩
 refine wpFlow_cons rfl Quietly.none ?_
 intro W5 hW
 replace Ly := lyb Ly hW
 clear hW
 gi_wp2
 refine ⟨trivial, (Below.refl _ _).alloc (Nat.le_refl _) _, ?_⟩
 have hb : Below W5.heap.size W5 (W5.alloc (.cells #[.int .i64 (cmpI a1 b1), .int .i64 (cmpI a2 b2)] 3)) := (Below.refl _ _).alloc (Nat.le_refl _) _
 replace Ly := lyb Ly hb
 have HOr := lh (Blk.new W5 3 #[.int .i64 (cmpI a1 b1), .int .i64 (cmpI a2 b2)])
 obtain ⟨P7, hP⟩ : ∃ P, W5.heap.size = P := ⟨_, rfl⟩
 rw [hP] at HOr ⊢
 generalize (W5.alloc (.cells #[.int .i64 (cmpI a1 b1), .int .i64 (cmpI a2 b2)] 3)) = V6 at *
 clear hb hP
 refine wpFlow_cons rfl Quietly.none ?_
 intro W8 hW
 replace Ly := lyb Ly hW
 replace HOr := lh (HOr.out.below hW HOr.out.lt)
 clear hW
 gi_wp2
 refine ⟨trivial, (callsIn_wide.2 (orI_any (cmpI a1 b1) (cmpI a2 b2) P7 W8 HOr.out)).mono ?_⟩
 rintro e W9 ⟨rfl, rfl⟩
 gi_wp2
 refine ⟨trivial, Below.refl _ _, ?_⟩
 refine wpFlow_nil (A := ?AF2) ?hq2 ?_
 case hq2 =>
  rintro σ hσ of hof hcl
  have HOF := lh hof
  have HCL := lh hcl
  clear hof hcl
  obtain ⟨c0_, c1_⟩ := lyz2 Ly HOF 0 rfl
  obtain ⟨c2_, c3_⟩ := lyz2 Ly HOF 1 rfl
  have hfw := hfT
  simp only [pickB]
  repeat (gi_big_quiet_step (fail))
  refine wpQuietIn_nil ?_
  exact rfl
 intro W10 hW
 replace Ly := lyb Ly hW
 replace HOr := lh (HOr.out.below hW HOr.out.lt)
 clear hW
 simp only [pickB]
 refine wpT_nil ?_
 gi_wp2
 exact bodyPost_ret (v := .int .i64 (or2 (cmpI a1 b1) (cmpI a2 b2))) (by simp [results, Tryz.results85, go_sem]) rfl ⟨rfl, Ly.out.1⟩
theorem easier_any (a1 a2 b1 b2 : Int) (w : World) :
  Calls Tryz.prog 85 #[.agg #[.int .i64 a1, .int .i64 a2], .agg #[.int .i64 b1, .int .i64 b2]] w fun e w' => e = .returned (.int .i64 (or2 (cmpI a1 b1) (cmpI a2 b2))) ∧ Below w.heap.size w w' :=
 callsIn_wide.1 (easier_in a1 a2 b1 b2 w)
end
section
open Go.RowKit Go.Shelf
structure Rd where
 l : List Int
 s : Leg
 A : Option Addr
 n : Nat
 cap : Nat
@[reducible] def Rd.val (x : Rd) : Value := .agg #[.slice x.A x.n x.cap, .int .i64 x.s.1, .int .i64 x.s.2]
@[reducible] def Rd.cells (x : Rd) : Array Value := #[.slice x.A x.n x.cap, .int .i64 x.s.1, .int .i64 x.s.2]
def Rd.rnd (x : Rd) : Rnd := (x.l, x.s)
def Rd.at_ (x : Rd) (w : World) : Prop := IntsAt w w.heap.size x.A x.n x.l ∧ x.n ≤ 1000
theorem Rd.at_.below {x : Rd} {w w' : World} (h : x.at_ w) (hb : Below w.heap.size w w') : x.at_ w' := ⟨(h.1.below hb).more hb.size, h.2⟩
def eqG (x y : Leg) : Bool := x.1 == y.1 && x.2 == y.2
theorem eqG_iff {x y : Leg} : eqG x y = true ↔ x = y := by
 obtain ⟨a, b⟩ := x
 obtain ⟨a', b'⟩ := y
 simp [eqG]
theorem eqG_run (a1 a2 b1 b2 : Int) (w : World) : (Op.equalIn 10000 34 (.agg #[.int .i64 a1, .int .i64 a2]) (.agg #[.int .i64 b1, .int .i64 b2])).run Tryz.prog w = .ok (eqG (a1, a2) (b1, b2)) w := by
 rw [Op.equalIn]
 simp [go_sem, run_underlying Tryz.underlying34, eqi_run, Std.Legacy.Range.forIn_eq_forIn_range', part, eqG]
 by_cases h1 : a1 = b1 <;> by_cases h2 : a2 = b2 <;> simp [h1, h2]
theorem or2_cmpG (x y : Leg) : or2 (cmpI x.1 y.1) (cmpI x.2 y.2) = cmpG x y := by
 unfold or2 cmpI cmpG
 by_cases h1 : x.1 < y.1
 ·simp [h1]
 ·by_cases h2 : y.1 < x.1
  ·simp [h1, h2]
  ·simp [h1, h2]
set_option maxRecDepth 100000 in
set_option maxHeartbeats 8000000 in
theorem rorder_any (x y : Rd) (w : World) (hx : x.at_ w) (hy : y.at_ w) :
  Calls Tryz.prog 83 #[x.val, y.val] w fun e w' => e = .returned (.int .i64 (cmpR x.rnd y.rnd)) ∧ Below w.heap.size w w' := by
 have hq := eqG_run
 obtain ⟨xl, ⟨x1, x2⟩, xA, xn, xc⟩ := x
 obtain ⟨yl, ⟨y1, y2⟩, yA, yn, yc⟩ := y
 have HX := lh hx
 have HY := lh hy
 have HR : Hid (cmpR (⟨xl, (x1, x2), xA, xn, xc⟩ : Rd).rnd (⟨yl, (y1, y2), yA, yn, yc⟩ : Rd).rnd = if (x1, x2) = (y1, y2) then cmpL xl yl else cmpG (x1, x2) (y1, y2)) := lh rfl
 clear hx hy
 generalize cmpR (⟨xl, (x1, x2), xA, xn, xc⟩ : Rd).rnd (⟨yl, (y1, y2), yA, yn, yc⟩ : Rd).rnd = cr at *
 have L0 := Lay.two w 131 #[.slice xA xn xc, .int .i64 x1, .int .i64 x2] 131 #[.slice yA yn yc, .int .i64 y1, .int .i64 y2]
 have HL := lh L0
 clear L0
 go_enter Tryz.func83, Tryz.ntmps83
 go_upto_region 1 with fail
 generalize ((w.alloc (.cells #[.slice xA xn xc, .int .i64 x1, .int .i64 x2] 131)).alloc (.cells #[.slice yA yn yc, .int .i64 y1, .int .i64 y2] 131)) = w0 at *
 have a0 := (HL.out.blk 0 rfl).cell 0
 have a1 := (HL.out.blk 0 rfl).cell 1
 have a2 := (HL.out.blk 0 rfl).cell 2
 have b0 := (HL.out.blk 1 rfl).cell 0
 have b1 := (HL.out.blk 1 rfl).cell 1
 have b2 := (HL.out.blk 1 rfl).cell 2
 have l0 := HL.out.lt 0 rfl
 have l1 := HL.out.lt 1 rfl
 cases he : eqG (x1, x2) (y1, y2) with
 | true =>
  have HE := lh (eqG_iff.1 he)
  go_wp2_with fail
  refine (compare_int xA xn xc xl yA yn yc yl w0 (HX.out.below HL.out.1).1 (HY.out.below HL.out.1).1 (Nat.le_trans HX.out.2 (by unfold maxLen; omega)) (Nat.le_trans HY.out.2 (by unfold maxLen; omega))).mono ?_
  rintro e w1 ⟨rfl, rfl⟩
  go_wp2_with fail
  go_ret
  refine ⟨ret_int ?_, HL.out.1⟩
  rw [HR.out, if_pos HE.out]
 | false =>
  have HE := lh (show ¬ (x1, x2) = (y1, y2) from fun h => by rw [eqG_iff.2 h] at he; cases he)
  go_wp2_with fail
  refine (easier_any x1 x2 y1 y2 w0).mono ?_
  rintro e w1 ⟨rfl, hb⟩
  have HB := lh (HL.out.1.trans (hb.mono HL.out.1.size))
  clear hb
  go_wp2_with fail
  go_ret
  refine ⟨ret_int ?_, HB.out⟩
  rw [HR.out, if_neg HE.out, ← or2_cmpG]
end
section
open Go.RowKit Go.Shelf
attribute [local go_sem] Oper.semAt_some
def BestOf (pre : List Wk) (v : Value) (f : Bool) : Prop := (pre = [] ∧ v = zeroWk ∧ f = false) ∨ ∃ x ∈ pre, v = x.val ∧ f = true ∧ ∀ y ∈ pre, cmpW x.cost x.links y.cost y.links ≤ 0
def FirstOut (w : World) (vs : List Wk) (e : Ending) (w' : World) : Prop := ∃ v f, e = .returned (.tuple #[v, .bool f]) ∧ BestOf vs v f ∧ Below w.heap.size w w'
theorem eqC_iff (x y : Cost) : eqC x y = true ↔ x = y := by
 obtain ⟨a, b, c, d⟩ := x
 obtain ⟨a', b', c', d'⟩ := y
 simp [eqC, and_assoc]
theorem cmpW_key (x : Cost) (l : List Int) (y : Cost) (m : List Int) : cmpW x l y m = cmpL (key x l) (key y m) := by
 unfold cmpW
 rw [cmp_key]
 by_cases h : eqC x y = true
 ·rw [if_pos h]
  have := (eqC_iff x y).1 h
  subst this
  rw [if_pos (cmpL_refl _)]
 ·rw [if_neg h, if_neg (fun h0 => h ((eqC_iff x y).2 (list_eq h0)))]
  rfl
theorem BestOf.perm {vs ws : List Wk} {v : Value} {f : Bool} (h : BestOf vs v f) (hp : vs.Perm ws) : BestOf ws v f := by
 rcases h with ⟨rfl, h⟩ | ⟨x, hx, h1, h2, h3⟩
 ·exact .inl ⟨hp.symm.eq_nil, h⟩
 ·exact .inr ⟨x, hp.mem_iff.1 hx, h1, h2, fun y hy => h3 y (hp.mem_iff.2 hy)⟩
theorem BestOf.keep {pre : List Wk} {x y : Wk} (hx : x ∈ pre) (h : ∀ z ∈ pre, cmpW x.cost x.links z.cost z.links ≤ 0) (hy : ¬ cmpW y.cost y.links x.cost x.links < 0) : BestOf (pre ++ [y]) x.val true := by
 refine .inr ⟨x, by simp [hx], rfl, rfl, fun z hz => ?_⟩
 rcases List.mem_append.1 hz with hz | hz
 ·exact h z hz
 ·rw [List.mem_singleton.1 hz]
  rw [cmpW_key] at hy ⊢
  have := cmpL_swap (key y.cost y.links) (key x.cost x.links)
  omega
theorem BestOf.take {pre : List Wk} {x y : Wk} (h : ∀ z ∈ pre, cmpW x.cost x.links z.cost z.links ≤ 0) (hy : cmpW y.cost y.links x.cost x.links < 0) : BestOf (pre ++ [y]) y.val true := by
 refine .inr ⟨y, by simp, rfl, rfl, fun z hz => ?_⟩
 rcases List.mem_append.1 hz with hz | hz
 ·have h1 := h z hz
  rw [cmpW_key] at h1 hy ⊢
  exact cmpL_trans (by omega) h1
 ·rw [List.mem_singleton.1 hz, cmpW_key, cmpL_refl]; omega
theorem BestOf.one (y : Wk) : BestOf [y] y.val true := .inr ⟨y, by simp, rfl, rfl, fun z hz => by rw [List.mem_singleton.1 hz, cmpW_key, cmpL_refl]; omega⟩
theorem walks_below {W W' : World} (h : Below W.heap.size W W') : KeepsWalks W W' := ⟨h.size, fun k o hk _ => (h.block k (Array.getElem?_eq_some_iff.1 hk).1).trans hk⟩
theorem Wk.at_.below {w w' : World} {B : Nat} {x : Wk} (h : x.at_ w B) (hb : Below B w w') (hB : B ≤ w'.heap.size) : x.at_ w' w'.heap.size := (IntsAt.below h hb).more hB
theorem Marks.drew {B : Nat} {w : World} {ds : List Deferred} (h : Marks B w ds) : Marks B w.drew ds := h.keep fun _ _ _ _ h0 => h0
structure FirstSt (w : World) (v : Value) (f : Bool) (S : Nat) (W : World) : Prop where
 bel : Below w.heap.size w W
 ord : Blk W w.heap.size 168 #[.func (.func 104) #[] #[]]
 res : Blk W (w.heap.size + 1) 99 #[.int .i64 0, .int .i64 0, .int .i64 0, .int .i64 0, .int .i64 0, .slice none 0 0]
 best : ∃ x : Wk, v = x.val ∧ Blk W (w.heap.size + 1 + 1) 99 #[.int .i64 x.to, .int .i64 x.cost.a, .int .i64 x.cost.b, .int .i64 x.cost.c, .int .i64 x.cost.d, .slice x.A x.n x.cap]
 fnd : Blk W (w.heap.size + 1 + 1 + 1) 4 #[.bool f]
 sz : S ≤ W.heap.size
section
variable {w W W' : World} {v : Value} {f : Bool} {S : Nat}
theorem FirstSt.below (h : FirstSt w v f S W) (hb : Below W.heap.size W W') : FirstSt w v f S W' :=
 ⟨h.bel.trans (hb.mono h.bel.size), h.ord.below hb h.ord.lt, h.res.below hb h.res.lt, by obtain ⟨x, e, hx⟩ := h.best; exact ⟨x, e, hx.below hb hx.lt⟩, h.fnd.below hb h.fnd.lt, Nat.le_trans h.sz hb.size⟩
theorem FirstSt.shut (h : FirstSt w v f S W) (hs : Shut S W W') (hS : w.heap.size ≤ S) : FirstSt w v f S W' :=
 ⟨h.bel.trans (hs.below.mono hS), hs.blk h.ord, hs.blk h.res, by obtain ⟨x, e, hx⟩ := h.best; exact ⟨x, e, hs.blk hx⟩, hs.blk h.fnd, Nat.le_trans h.sz hs.below.size⟩
theorem FirstSt.put (h : FirstSt w v f S W) (y : Wk) : FirstSt w y.val true S (((((((W.setCell ⟨w.heap.size + 1 + 1, 0, none⟩ (.int .i64 y.to)).setCell ⟨w.heap.size + 1 + 1, 1, none⟩ (.int .i64 y.cost.a)).setCell ⟨w.heap.size + 1 + 1, 2, none⟩ (.int .i64 y.cost.b)).setCell ⟨w.heap.size + 1 + 1, 3, none⟩ (.int .i64 y.cost.c)).setCell ⟨w.heap.size + 1 + 1, 4, none⟩ (.int .i64 y.cost.d)).setCell ⟨w.heap.size + 1 + 1, 5, none⟩ (.slice y.A y.n y.cap)).setCell ⟨w.heap.size + 1 + 1 + 1, 0, none⟩ (.bool true)) ∧ KeepsFrom S W (((((((W.setCell ⟨w.heap.size + 1 + 1, 0, none⟩ (.int .i64 y.to)).setCell ⟨w.heap.size + 1 + 1, 1, none⟩ (.int .i64 y.cost.a)).setCell ⟨w.heap.size + 1 + 1, 2, none⟩ (.int .i64 y.cost.b)).setCell ⟨w.heap.size + 1 + 1, 3, none⟩ (.int .i64 y.cost.c)).setCell ⟨w.heap.size + 1 + 1, 4, none⟩ (.int .i64 y.cost.d)).setCell ⟨w.heap.size + 1 + 1, 5, none⟩ (.slice y.A y.n y.cap)).setCell ⟨w.heap.size + 1 + 1 + 1, 0, none⟩ (.bool true)) ∧ KeepsWalks W (((((((W.setCell ⟨w.heap.size + 1 + 1, 0, none⟩ (.int .i64 y.to)).setCell ⟨w.heap.size + 1 + 1, 1, none⟩ (.int .i64 y.cost.a)).setCell ⟨w.heap.size + 1 + 1, 2, none⟩ (.int .i64 y.cost.b)).setCell ⟨w.heap.size + 1 + 1, 3, none⟩ (.int .i64 y.cost.c)).setCell ⟨w.heap.size + 1 + 1, 4, none⟩ (.int .i64 y.cost.d)).setCell ⟨w.heap.size + 1 + 1, 5, none⟩ (.slice y.A y.n y.cap)).setCell ⟨w.heap.size + 1 + 1 + 1, 0, none⟩ (.bool true)) := by
 obtain ⟨x, e, hx⟩ := h.best
 have fr : ∀ {g : Nat} {ty : TypeId} {cs : Array Value}, Blk W g ty cs → g ≠ w.heap.size + 1 + 1 → Blk ((((((W.setCell ⟨w.heap.size + 1 + 1, 0, none⟩ (.int .i64 y.to)).setCell ⟨w.heap.size + 1 + 1, 1, none⟩ (.int .i64 y.cost.a)).setCell ⟨w.heap.size + 1 + 1, 2, none⟩ (.int .i64 y.cost.b)).setCell ⟨w.heap.size + 1 + 1, 3, none⟩ (.int .i64 y.cost.c)).setCell ⟨w.heap.size + 1 + 1, 4, none⟩ (.int .i64 y.cost.d)).setCell ⟨w.heap.size + 1 + 1, 5, none⟩ (.slice y.A y.n y.cap)) g ty cs :=
  fun b hne => (((((b.far (p := ⟨w.heap.size + 1 + 1, 0, none⟩) hne _).far (p := ⟨w.heap.size + 1 + 1, 1, none⟩) hne _).far (p := ⟨w.heap.size + 1 + 1, 2, none⟩) hne _).far (p := ⟨w.heap.size + 1 + 1, 3, none⟩) hne _).far (p := ⟨w.heap.size + 1 + 1, 4, none⟩) hne _).far (p := ⟨w.heap.size + 1 + 1, 5, none⟩) hne _
 have far : ∀ {g : Nat} {ty : TypeId} {cs : Array Value}, Blk ((((((W.setCell ⟨w.heap.size + 1 + 1, 0, none⟩ (.int .i64 y.to)).setCell ⟨w.heap.size + 1 + 1, 1, none⟩ (.int .i64 y.cost.a)).setCell ⟨w.heap.size + 1 + 1, 2, none⟩ (.int .i64 y.cost.b)).setCell ⟨w.heap.size + 1 + 1, 3, none⟩ (.int .i64 y.cost.c)).setCell ⟨w.heap.size + 1 + 1, 4, none⟩ (.int .i64 y.cost.d)).setCell ⟨w.heap.size + 1 + 1, 5, none⟩ (.slice y.A y.n y.cap)) g ty cs → g ≠ w.heap.size + 1 + 1 + 1 → Blk (((((((W.setCell ⟨w.heap.size + 1 + 1, 0, none⟩ (.int .i64 y.to)).setCell ⟨w.heap.size + 1 + 1, 1, none⟩ (.int .i64 y.cost.a)).setCell ⟨w.heap.size + 1 + 1, 2, none⟩ (.int .i64 y.cost.b)).setCell ⟨w.heap.size + 1 + 1, 3, none⟩ (.int .i64 y.cost.c)).setCell ⟨w.heap.size + 1 + 1, 4, none⟩ (.int .i64 y.cost.d)).setCell ⟨w.heap.size + 1 + 1, 5, none⟩ (.slice y.A y.n y.cap)).setCell ⟨w.heap.size + 1 + 1 + 1, 0, none⟩ (.bool true)) g ty cs := fun b hne => b.far (p := ⟨w.heap.size + 1 + 1 + 1, 0, none⟩) hne _
 have ko : KeepsOthers W (((((((W.setCell ⟨w.heap.size + 1 + 1, 0, none⟩ (.int .i64 y.to)).setCell ⟨w.heap.size + 1 + 1, 1, none⟩ (.int .i64 y.cost.a)).setCell ⟨w.heap.size + 1 + 1, 2, none⟩ (.int .i64 y.cost.b)).setCell ⟨w.heap.size + 1 + 1, 3, none⟩ (.int .i64 y.cost.c)).setCell ⟨w.heap.size + 1 + 1, 4, none⟩ (.int .i64 y.cost.d)).setCell ⟨w.heap.size + 1 + 1, 5, none⟩ (.slice y.A y.n y.cap)).setCell ⟨w.heap.size + 1 + 1 + 1, 0, none⟩ (.bool true)) := (((((((KeepsOthers.setCell W _ _).trans (KeepsOthers.setCell _ _ _)).trans (KeepsOthers.setCell _ _ _)).trans (KeepsOthers.setCell _ _ _)).trans (KeepsOthers.setCell _ _ _)).trans (KeepsOthers.setCell _ _ _)).trans (KeepsOthers.setCell _ _ _))
 refine ⟨⟨((((((h.bel.setCell (p := ⟨w.heap.size + 1 + 1, 0, none⟩) (by simp; omega) _).setCell (p := ⟨w.heap.size + 1 + 1, 1, none⟩) (by simp; omega) _).setCell (p := ⟨w.heap.size + 1 + 1, 2, none⟩) (by simp; omega) _).setCell (p := ⟨w.heap.size + 1 + 1, 3, none⟩) (by simp; omega) _).setCell (p := ⟨w.heap.size + 1 + 1, 4, none⟩) (by simp; omega) _).setCell (p := ⟨w.heap.size + 1 + 1, 5, none⟩) (by simp; omega) _).setCell (p := ⟨w.heap.size + 1 + 1 + 1, 0, none⟩) (by simp; omega) _,
  far (fr h.ord (by omega)) (by omega), far (fr h.res (by omega)) (by omega), ⟨y, rfl, far ((((((hx.set_ 0 _).set_ 1 _).set_ 2 _).set_ 3 _).set_ 4 _).set_ 5 _) (by omega)⟩, (fr h.fnd (by omega)).set_ 0 _, Nat.le_trans h.sz ko.size⟩, ko.from S, ko.walks⟩
end
set_option maxRecDepth 100000 in
set_option maxHeartbeats 8000000 in
theorem first_in (g r : Nat) (m : List (Int × Wk)) (w : World) (hg : Blk w g 104 #[.map (some r)]) (hm : WkMap w r m) (hl : ∀ y ∈ m.map Prod.snd, y.at_ w w.heap.size ∧ y.n ≤ 1000) :
  CallsIn Fence.wide 9 Tryz.prog 102 #[.func (.func 103) #[] #[.pointer (some ⟨g, 0, none⟩)], .func (.func 104) #[] #[]] w (FirstOut w (m.map Prod.snd)) := by
 have HG := lh hg
 have HM := lh hm
 have HL := lh hl
 clear hg hm hl
 refine callsIn_of_wp_marks Tryz.func102 rfl trivial ?_ rfl
 simp only [Tryz.ntmps102, List.size_toArray, List.length_cons, List.length_nil, Nat.reduceAdd, Nat.reduceSub, Array.replicate_succ, Array.replicate_zero, List.push_toArray, List.append_toArray, List.nil_append, List.cons_append]
 gi_wp2
 have F0 : FirstSt w zeroWk false ((((w.alloc (.cells #[.func (.func 104) #[] #[]] 168)).alloc (.cells #[.int .i64 0, .int .i64 0, .int .i64 0, .int .i64 0, .int .i64 0, .slice none 0 0] 99)).alloc (.cells #[.int .i64 0, .int .i64 0, .int .i64 0, .int .i64 0, .int .i64 0, .slice none 0 0] 99)).alloc (.cells #[.bool false] 4)).heap.size ((((w.alloc (.cells #[.func (.func 104) #[] #[]] 168)).alloc (.cells #[.int .i64 0, .int .i64 0, .int .i64 0, .int .i64 0, .int .i64 0, .slice none 0 0] 99)).alloc (.cells #[.int .i64 0, .int .i64 0, .int .i64 0, .int .i64 0, .int .i64 0, .slice none 0 0] 99)).alloc (.cells #[.bool false] 4)) := by
  have Y := ((Blk.new (w.alloc (.cells #[.func (.func 104) #[] #[]] 168)) 99 #[.int .i64 0, .int .i64 0, .int .i64 0, .int .i64 0, .int .i64 0, .slice none 0 0]).alloc (.cells #[.int .i64 0, .int .i64 0, .int .i64 0, .int .i64 0, .int .i64 0, .slice none 0 0] 99)).alloc (.cells #[.bool false] 4)
  have V := (Blk.new ((w.alloc (.cells #[.func (.func 104) #[] #[]] 168)).alloc (.cells #[.int .i64 0, .int .i64 0, .int .i64 0, .int .i64 0, .int .i64 0, .slice none 0 0] 99)) 99 #[.int .i64 0, .int .i64 0, .int .i64 0, .int .i64 0, .int .i64 0, .slice none 0 0]).alloc (.cells #[.bool false] 4)
  have U := Blk.new (((w.alloc (.cells #[.func (.func 104) #[] #[]] 168)).alloc (.cells #[.int .i64 0, .int .i64 0, .int .i64 0, .int .i64 0, .int .i64 0, .slice none 0 0] 99)).alloc (.cells #[.int .i64 0, .int .i64 0, .int .i64 0, .int .i64 0, .int .i64 0, .slice none 0 0] 99)) 4 #[.bool false]
  rw [World.size_alloc] at Y
  rw [World.size_alloc, World.size_alloc] at V
  rw [World.size_alloc, World.size_alloc, World.size_alloc] at U
  exact ⟨((((Below.refl _ _).alloc (Nat.le_refl _) _).alloc (by simp) _).alloc (by simp; omega) _).alloc (by simp; omega) _, (((Blk.new w _ _).alloc _).alloc _).alloc _, Y, ⟨⟨0, ⟨0, 0, 0, 0⟩, [], none, 0, 0⟩, rfl, V⟩, U, Nat.le_refl _⟩
 generalize ((((w.alloc (.cells #[.func (.func 104) #[] #[]] 168)).alloc (.cells #[.int .i64 0, .int .i64 0, .int .i64 0, .int .i64 0, .int .i64 0, .slice none 0 0] 99)).alloc (.cells #[.int .i64 0, .int .i64 0, .int .i64 0, .int .i64 0, .int .i64 0, .slice none 0 0] 99)).alloc (.cells #[.bool false] 4)) = w0 at *
 have hws : w.heap.size ≤ w0.heap.size := F0.bel.size
 have hG := HG.out.below F0.bel HG.out.lt
 have hM := HM.out.below F0.bel HM.out.lt
 refine wpIn_rangeFunc_ownH rfl (by omega) (gf := 103) (lb := #[.pointer (some ⟨g, 0, none⟩)]) rfl trivial (enters_of Tryz.func103 (by kernel_rfl) rfl)
  (all1_stops 8 (by omega) g r m w0 hG hM) (fun h k => walksK_t h k) walksK_b (Below.refl _ _) (fun _ => rfl)
  (fun pre Wr => ∃ v f, FirstSt w v f w0.heap.size Wr ∧ BestOf (pre.map Subtype.val) v f)
  (fun cd pre Wr => False)
  (ownFrom_shut (fun s Wr h => by obtain ⟨v, f, h, _⟩ := h; exact h.sz) (fun s Wr Wr' h hs => by obtain ⟨v, f, h, h2⟩ := h; exact ⟨v, f, h.shut hs hws, h2⟩))
  (fun cd => ownFrom_shut (fun s Wr h => h.elim) (fun s Wr Wr' h hs => h))
  ⟨_, _, F0, .inl ⟨rfl, rfl, rfl⟩⟩
  (fun y a' Wr => ∃ Bx, w0.heap.size ≤ Bx ∧ Blk Wr Bx 99 #[.int .i64 y.1.to, .int .i64 y.1.cost.a, .int .i64 y.1.cost.b, .int .i64 y.1.cost.c, .int .i64 y.1.cost.d, .slice y.1.A y.1.n y.1.cap] ∧
   a' = { tmps := #[.func (.func 103) #[] #[.pointer (some ⟨g, 0, none⟩)], .func (.func 104) #[] #[], undef, .pointer (some ⟨w.heap.size, 0, none⟩), .pointer (some ⟨w.heap.size + 1, 0, none⟩), .bool false, .pointer (some ⟨w.heap.size + 1 + 1, 0, none⟩), .pointer (some ⟨w.heap.size + 1 + 1 + 1, 0, none⟩), .pointer (some ⟨Bx, 0, none⟩), .func (.func 103) #[] #[.pointer (some ⟨g, 0, none⟩)], y.1.val, undef, undef, undef, undef, undef, undef, undef, undef, undef, undef, undef, undef], defers := [] })
  (fun y a' => ownFrom_shut (fun _ Wr h => by obtain ⟨Bx, h1, h2, _⟩ := h; exact Nat.le_trans h1 (Nat.le_of_lt h2.lt)) (fun _ Wr Wr' h hs => by obtain ⟨Bx, h1, h2, h4⟩ := h; exact ⟨Bx, h1, hs.blk h2, h4⟩)) ?assign ?body ?done ?stop
 case assign =>
  rintro l' pre ⟨y, hy⟩ Wr K hI hK
  unfold WkOf.enc
  dsimp only
  gi_wp2
  obtain ⟨v, f, hI, hB⟩ := hI
  have hb : Below Wr.heap.size Wr (Wr.alloc (.cells #[.int .i64 y.to, .int .i64 y.cost.a, .int .i64 y.cost.b, .int .i64 y.cost.c, .int .i64 y.cost.d, .slice y.A y.n y.cap] 99)) := (Below.refl _ _).alloc (Nat.le_refl _) _
  exact hK _ _ (keepsFrom_below hb) (walks_below hb) ⟨v, f, hI.below hb, hB⟩ ⟨Wr.heap.size, hI.sz, Blk.new Wr _ _, rfl⟩
 case body =>
  rintro l' pre ⟨y, hy⟩ a' Wr hl ⟨rr, hrr⟩ ⟨v, f, hI, hB⟩ ⟨Bx, hBx, bX, rfl⟩ hlen
  dsimp only at bX ⊢
  have i0 := bX.cell 0
  have i1 := bX.cell 1
  have i2 := bX.cell 2
  have i3 := bX.cell 3
  have i4 := bX.cell 4
  have i5 := bX.cell 5
  have o0 := hI.ord.cell 0
  have f0 := hI.fnd.cell 0
  have f1 := hI.fnd.frozen 0
  obtain ⟨x, rfl, hbx⟩ := hI.best
  have x0 := hbx.cell 0
  have x1 := hbx.cell 1
  have x2 := hbx.cell 2
  have x3 := hbx.cell 3
  have x4 := hbx.cell 4
  have x5 := hbx.cell 5
  have z0 := hbx.frozen 0
  have z1 := hbx.frozen 1
  have z2 := hbx.frozen 2
  have z3 := hbx.frozen 3
  have z4 := hbx.frozen 4
  have z5 := hbx.frozen 5
  have HI := lh hI
  have HB := lh hB
  have HX := lh bX
  have HBX := lh hbx
  clear hI hB bX hbx hrr
  cases f
  ·gi_wp2
   refine ⟨fun _ h => (by cases h), ?_⟩
   gi_wp2
   have hp := HI.out.put y
   refine ⟨hp.2.1, hp.2.2, _, _, hp.1, ?_⟩
   rcases HB.out with ⟨h0, _, _⟩ | ⟨_, _, _, h1, _⟩
   ·rw [List.map_append, h0]; exact BestOf.one y
   ·cases h1
  ·have hxy : ∃ z ∈ pre.map Subtype.val, x.val = z.val ∧ ∀ u ∈ pre.map Subtype.val, cmpW z.cost z.links u.cost u.links ≤ 0 := by
    rcases HB.out with ⟨_, _, h1⟩ | ⟨z, hz, h0, _, h2⟩
    ·cases h1
    ·exact ⟨z, hz, h0, h2⟩
   obtain ⟨z, hz, hzx, hzb⟩ := hxy
   have hmz : z ∈ m.map Prod.snd := by obtain ⟨q, _, rfl⟩ := List.mem_map.1 hz; exact q.2
   have hbel : Below w.heap.size w Wr := HI.out.bel
   have hcall := before_any y z Wr ((HL.out y hy).1.below hbel hbel.size) ((HL.out z hmz).1.below hbel hbel.size) (Nat.le_trans (HL.out y hy).2 (by unfold maxLen; omega)) (Nat.le_trans (HL.out z hmz).2 (by unfold maxLen; omega))
   rw [← hzx] at hcall
   obtain ⟨cv, hcv⟩ : ∃ cv, cmpW y.cost y.links z.cost z.links = cv := ⟨_, rfl⟩
   rw [hcv] at hcall
   have HC := lh hcall
   have HCV := lh hcv
   have HZ := lh (ai hz (ai hzx hzb))
   clear hcall hcv hz hzx hzb hmz hbel
   gi_wp2
   refine ⟨trivial, (CallsIn.inRound l' (callsIn_wide.2 HC.out)).mono ?_⟩
   rintro e w1 ⟨rfl, hb1⟩
   have HI1 := lh (HI.out.below hb1)
   have HX1 := lh (HX.out.below hb1 HX.out.lt)
   have HB1 := lh hb1
   clear i0 i1 i2 i3 i4 i5 o0 f0 f1 x0 x1 x2 x3 x4 x5 z0 z1 z2 z3 z4 z5 hb1
   have i0 := HX1.out.cell 0
   have i1 := HX1.out.cell 1
   have i2 := HX1.out.cell 2
   have i3 := HX1.out.cell 3
   have i4 := HX1.out.cell 4
   have i5 := HX1.out.cell 5
   have f0 := HI1.out.fnd.cell 0
   have f1 := HI1.out.fnd.frozen 0
   obtain ⟨x', hx', hbx⟩ := HI1.out.best
   have x0 := hbx.cell 0
   have x1 := hbx.cell 1
   have x2 := hbx.cell 2
   have x3 := hbx.cell 3
   have x4 := hbx.cell 4
   have x5 := hbx.cell 5
   have z0 := hbx.frozen 0
   have z1 := hbx.frozen 1
   have z2 := hbx.frozen 2
   have z3 := hbx.frozen 3
   have z4 := hbx.frozen 4
   have z5 := hbx.frozen 5
   clear hbx hx'
   by_cases hlt : cv < 0
   ·gi_wp2
    have hp := HI1.out.put y
    refine ⟨(keepsFrom_below HB1.out).trans hp.2.1, (walks_below HB1.out).trans hp.2.2, _, _, hp.1, ?_⟩
    rw [List.map_append]
    exact BestOf.take HZ.out.2.2 (by rw [HCV.out]; exact hlt)
   ·gi_wp2
    refine ⟨keepsFrom_below HB1.out, walks_below HB1.out, _, _, HI1.out, ?_⟩
    rw [List.map_append, HZ.out.2.1]
    exact BestOf.keep HZ.out.1 HZ.out.2.2 (by rw [HCV.out]; omega)
 case done =>
  rintro D ys Wr hD hys ⟨v, f, hI, hB⟩ hK
  have f0 := hI.fnd.cell 0
  obtain ⟨x, rfl, hbx⟩ := hI.best
  have x0 := hbx.cell 0
  have x1 := hbx.cell 1
  have x2 := hbx.cell 2
  have x3 := hbx.cell 3
  have x4 := hbx.cell 4
  have x5 := hbx.cell 5
  have R := hI.res
  have z0 := R.frozen 0
  have z1 := R.frozen 1
  have z2 := R.frozen 2
  have z3 := R.frozen 3
  have z4 := R.frozen 4
  have z5 := R.frozen 5
  have r0 := R.cell 0
  have r1 := R.cell 1
  have r2 := R.cell 2
  have r3 := R.cell 3
  have r4 := R.cell 4
  have r5 := R.cell 5
  have hmk : Marks w.heap.size Wr [{ target := .collected D, args := #[] }] := ⟨⟨D, Nat.le_trans hws hD, rfl, hK, by simp⟩, trivial⟩
  have HR6 := lh (ret6 R hmk hI.bel (by omega) (.int .i64 x.to) (.int .i64 x.cost.a) (.int .i64 x.cost.b) (.int .i64 x.cost.c) (.int .i64 x.cost.d) (.slice x.A x.n x.cap))
  have HBB := lh (hB.perm hys)
  clear hI hbx R hK hmk hB hys
  gi_wp2
  gi_region
  all_goals
   gi_wp2
   refine leaves_marks _ _ (Marks.drew HR6.out.2.1) ?_
   intro w' hs
   have RW := hs.blk (Blk.drew HR6.out.1)
   have y0 := RW.cell 0
   have y1 := RW.cell 1
   have y2 := RW.cell 2
   have y3 := RW.cell 3
   have y4 := RW.cell 4
   have y5 := RW.cell 5
   refine ⟨.tuple #[x.val, .bool f], ?_, ⟨x.val, f, rfl, HBB.out, (below_drewN HR6.out.2.2 1).trans hs.below⟩⟩
   simp [results, Tryz.results102, go_sem, y0, y1, y2, y3, y4, y5]
 case stop =>
  rintro D cd pre Wr _ _ h _
  exact h.elim
end
section
def fnOf (m : List (Int × Wk)) (v : Int) : Option (Cost × List Int) := (look m v).map fun x => (x.cost, x.links)
theorem fnOf_nil : fnOf [] = fun _ => none := rfl
theorem fnOf_put (m : List (Int × Wk)) (k : Int) (x : Wk) : fnOf (put m k x) = setF (fnOf m) k (some (x.cost, x.links)) := by
 funext v
 unfold fnOf setF
 rw [look_put]
 split <;> rfl
theorem fnOf_cut (m : List (Int × Wk)) (k : Int) : fnOf (cut m k) = setF (fnOf m) k none := by
 funext v
 unfold fnOf setF
 rw [look_cut]
 split <;> rfl
theorem fnOf_mem {m : List (Int × Wk)} (hn : (m.map Prod.fst).Nodup) {v : Int} {x : Wk} (h : (v, x) ∈ m) : fnOf m v = some (x.cost, x.links) := by
 unfold fnOf
 rw [look_of_mem hn h]
 rfl
theorem fnOf_some {m : List (Int × Wk)} {v : Int} {c : Cost} {l : List Int} (h : fnOf m v = some (c, l)) : ∃ x, (v, x) ∈ m ∧ x.cost = c ∧ x.links = l := by
 unfold fnOf at h
 cases hx : look m v with
 | none => rw [hx] at h; cases h
 | some x =>
  rw [hx] at h
  cases h
  exact ⟨x, look_mem hx, rfl, rfl⟩
structure DRound (t : Town) (dk : Bool) (p : Price) (s a : Int) (cw : Cost) (lw : List Int) (D : List (Link × Int × Cost)) (S O : Int → Option (Cost × List Int)) : Prop where
 disj : ∀ v, O v ≠ none → S v = none
 sFirst : ∀ v r, S v = some r → First t dk p s v (some r)
 oWalk : ∀ v c l, O v = some (c, l) → Walk t dk p s v c l
 cross : ∀ u c l, S u = some (c, l) → u ≠ a → ∀ x ∈ t.links, ∀ n d, leads dk p x u = some (n, d) → S n ≠ none ∨ ∃ c' l', O n = some (c', l') ∧ cmpL (key c' l') (key (addC c d) (l ++ [x.id])) ≤ 0
 now : ∀ y ∈ D, S y.2.1 ≠ none ∨ ∃ c' l', O y.2.1 = some (c', l') ∧ cmpL (key c' l') (key (addC cw y.2.2) (lw ++ [y.1.id])) ≤ 0
 start : S s ≠ none
 here : S a = some (cw, lw)
section
variable {t : Town} {dk : Bool} {p : Price} {s a : Int} {cw : Cost} {lw : List Int} {D : List (Link × Int × Cost)} {S O : Int → Option (Cost × List Int)}
theorem DInv.enter' (h : DInv t dk p s S O) (ht : Fine t) (hp : Fair p) {c : Cost} {l : List Int} (ho : O a = some (c, l)) (hmin : ∀ v' c' l', O v' = some (c', l') → cmpL (key c l) (key c' l') ≤ 0) : DRound t dk p s a c l [] (setF S a (some (c, l))) (setF O a none) := by
 have h1 := h.enter ht hp ho hmin
 exact ⟨h1.disj, h1.sFirst, h1.oWalk, h1.cross, (fun y hy => by cases hy), h1.start, h1.here⟩
theorem DRound.leave (h : DRound t dk p s a cw lw D S O) (hD : ∀ y ∈ outs dk p a t.links, y ∈ D) : DInv t dk p s S O := by
 refine ⟨h.disj, h.sFirst, h.oWalk, ?_, .inl h.start⟩
 intro u c l hu x hx n d hl
 by_cases e : u = a
 ·subst e
  rw [h.here] at hu
  cases hu
  exact h.now (x, n, d) (hD _ (by unfold outs; rw [List.mem_filterMap]; exact ⟨x, hx, by rw [hl]; rfl⟩))
 ·exact h.cross u c l hu e x hx n d hl
theorem DRound.skip (h : DRound t dk p s a cw lw D S O) {y : Link × Int × Cost} (hno : S y.2.1 ≠ none ∨ ∃ c' l', O y.2.1 = some (c', l') ∧ cmpL (key c' l') (key (addC cw y.2.2) (lw ++ [y.1.id])) ≤ 0) : DRound t dk p s a cw lw (D ++ [y]) S O := by
 refine ⟨h.disj, h.sFirst, h.oWalk, h.cross, fun z hz => ?_, h.start, h.here⟩
 rcases List.mem_append.1 hz with hz | hz
 ·exact h.now z hz
 ·rw [List.mem_singleton.1 hz]; exact hno
theorem DRound.take (h : DRound t dk p s a cw lw D S O) {y : Link × Int × Cost} (hy : y ∈ outs dk p a t.links) (hn : S y.2.1 = none) (hbe : ∀ c' l', O y.2.1 = some (c', l') → cmpL (key (addC cw y.2.2) (lw ++ [y.1.id])) (key c' l') ≤ 0) :
  DRound t dk p s a cw lw (D ++ [y]) S (setF O y.2.1 (some (addC cw y.2.2, lw ++ [y.1.id]))) := by
 obtain ⟨hxm, hl⟩ := outs_leads hy
 have hw : Walk t dk p s y.2.1 (addC cw y.2.2) (lw ++ [y.1.id]) := (h.sFirst a _ h.here).1.snoc hxm hl
 have old : ∀ {m : Int} {K : List Int}, (S m ≠ none ∨ ∃ c' l', O m = some (c', l') ∧ cmpL (key c' l') K ≤ 0) → S m ≠ none ∨ ∃ c' l', setF O y.2.1 (some (addC cw y.2.2, lw ++ [y.1.id])) m = some (c', l') ∧ cmpL (key c' l') K ≤ 0 := by
  intro m K h1
  rcases h1 with h1 | ⟨c', l', h1, h2⟩
  ·exact .inl h1
  ·by_cases e : m = y.2.1
   ·subst e
    exact .inr ⟨_, _, setF_same _ _ _, cmpL_trans (hbe _ _ h1) h2⟩
   ·exact .inr ⟨c', l', by rw [setF_other _ _ e]; exact h1, h2⟩
 refine ⟨?_, h.sFirst, ?_, ?_, ?_, h.start, h.here⟩
 ·intro v hv
  by_cases e : v = y.2.1
  ·subst e; exact hn
  ·rw [setF_other _ _ e] at hv; exact h.disj v hv
 ·intro v c' l' hr
  by_cases e : v = y.2.1
  ·subst e; rw [setF_same] at hr; cases hr; exact hw
  ·rw [setF_other _ _ e] at hr; exact h.oWalk v _ _ hr
 ·intro u c' l' hu hne z hz m d hl'
  exact old (h.cross u c' l' hu hne z hz m d hl')
 ·intro z hz
  rcases List.mem_append.1 hz with hz | hz
  ·exact old (h.now z hz)
  ·rw [List.mem_singleton.1 hz]
   exact .inr ⟨_, _, setF_same _ _ _, by rw [cmpL_refl]; omega⟩
end
end
section
open Go.RowKit
theorem wpListIn_append_any {F : Fence} {nn : Nat} {P : Program} {w : World} {ops : Array Oper} {rest : List Oper} {o : Oper} {a : Act} {Q : Exit → Act → World → Prop} (hgd : o.guard = none) (s x : Operand) {t e : TypeId}
  (ho : o.op = .call { callee := .builtin .append, args := #[s, x], argTypes := #[t, t] })
  {z : Value} {size bytes : Nat} (EE : ElemAt P t e z size bytes) {base : Nat} {A : Option Addr} {n cap : Nat} {xs : List Value} (hs : a.eval s = .slice A n cap) (hown : Own w base e size A n cap xs)
  {A2 : Option Addr} {m c B : Nat} {news : List Value} (hx : a.eval x = .slice A2 m c) (hR : Reads w B size A2 m news) (h1 : ∀ u ∈ news, u.oneCell' = true) (h63 : n + m ≤ maxLen) (hbytes : (n + m) * bytes ≤ 140737488355328) (hbase : base ≤ w.heap.size)
  (h : ∀ A' cap' w', Own w' base e size A' (n + m) cap' (xs ++ news) → w.grownBy w' (A.map (·.block)) → (A' = A ∨ A' = some ⟨w.heap.size, 0, none⟩) → wpListIn F nn P ops Q rest (a.put o.dst (.slice A' (n + m) cap')) w') :
  wpListIn F nn P ops Q (o :: rest) a w := by
 refine wpListIn_plain hgd fun K hK => ?_
 obtain ⟨A', cap', w', hr, h2, h3, h4⟩ := run_append_any (P := P) w o.type EE hown hR (c := c) h1 h63 hbytes hbase
 unfold Oper.wpIn
 refine ⟨?_, ?_⟩
 ·simp [Oper.about, ho, resolve, Target.leads, Sem.run_pure]
 ·rw [Oper.semAt_plain F _ _ (by rw [ho]; intro c hc'; cases hc')]
  unfold execOp
  simp only [ho, resolve, invoke, builtin, Sem.run_bind, Sem.run_pure, Result.andThen_ok, List.map_toArray, List.map_cons, List.map_nil, hs, hx, hr]
  exact hK _ _ (h A' cap' w' h2 h3 h4)
structure ShutD (B : Nat) (w w' : World) : Prop where
 below : Below B w w'
 others : ∀ (b : Nat) o, w.heap[b]? = some o → (∀ x, o ≠ .deferred x) → w'.heap[b]? = some o
theorem ShutD.refl (B : Nat) (w : World) : ShutD B w w := ⟨Below.refl _ _, fun _ _ h _ => h⟩
theorem ShutD.trans {B : Nat} {w w' w'' : World} (h : ShutD B w w') (k : ShutD B w' w'') : ShutD B w w'' := ⟨h.below.trans k.below, fun b o e hn => k.others b o (h.others b o e hn) hn⟩
theorem ShutD.blk {B g : Nat} {w w' : World} {t : TypeId} {cs : Array Value} (h : ShutD B w w') (b : Blk w g t cs) : Blk w' g t cs := h.others _ _ b (fun x e => by cases e)
theorem ShutD.own {B base n cap size : Nat} {w w' : World} {e : TypeId} {A : Option Addr} {xs : List Value} (h : ShutD B w w') (o : Own w base e size A n cap xs) : Own w' base e size A n cap xs := by
 refine ⟨o.1, ?_⟩
 rcases o.2 with h' | ⟨g, cap', cur, hv, hb, hg, hr⟩
 ·exact .inl h'
 ·exact .inr ⟨g, cap', cur, hv, hb, h.others g _ hg (fun x e => by cases e), hr⟩
theorem ShutD.reads {B B' size n : Nat} {w w' : World} {A : Option Addr} {xs : List Value} (h : ShutD B w w') (r : Reads w B' size A n xs) : Reads w' B' size A n xs := by
 rcases Nat.eq_zero_or_pos size with h0 | h0
 ·refine ⟨r.1, fun hn => ?_⟩
  obtain ⟨ad, e, hb, hc⟩ := r.2 hn
  refine ⟨ad, e, hb, fun j u hu => ?_⟩
  have := (List.getElem?_eq_some_iff.1 hu).1
  rw [r.1, h0] at this
  omega
 ·refine ⟨r.1, fun hn => ?_⟩
  obtain ⟨ad, e, hb, hc⟩ := r.2 hn
  refine ⟨ad, e, hb, fun j u hu => ?_⟩
  have h1 := hc j u hu
  obtain ⟨o, ho, hcell⟩ := cells_of_cell h1
  rw [← h1]
  refine World.cell?_of_block ?_
  rw [ho]
  exact h.others _ _ ho (fun x e => by subst e; simp [Obj.isCells] at hcell)
theorem shutD_put {B r : Nat} {w : World} (hB : B ≤ r) (h : w.heap[r]? = some (.deferred (some []))) : ShutD B w (w.putObj r (.deferred none)) := by
 have hlt := (Array.getElem?_eq_some_iff.1 h).1
 refine ⟨(Below.refl B w).grown (grownBy_putObj' w r (.deferred none)) (by omega) (fun k e => by cases e; exact hB), fun b o e hn => ?_⟩
 have hne : b ≠ r := by
  intro e'
  subst e'
  rw [h] at e
  cases e
  exact hn _ rfl
 exact (World.putObj_heap_other hne).trans e
theorem leaves_marksD {F : Fence} {n : Nat} {P : Program} {fn : Func} {tmps : Array Value} {R : Ending → World → Prop} {B : Nat} : ∀ (ds : List Deferred) (w : World), Marks B w ds →
  (∀ w', ShutD B w w' → LeavesIn F n P fn tmps R [] .returning w') → LeavesInM F n P fn tmps R ds .returning w
 | [], w, _, h => h w (ShutD.refl _ _)
 | d :: ds, w, ⟨⟨r, h1, h2, h3, h4⟩, h5⟩, h => by
  refine ⟨by simp, .inl ⟨r, _, h2, run_takeDeferred h3, ?_⟩⟩
  refine leaves_marksD ds _ (h5.keep fun d' hd r' hr h0 => ?_) (fun w' hs => h w' ((shutD_put h1 h3).trans hs))
  have hne : r' ≠ r := by
   intro e
   subst e
   exact h4 d' hd hr
  exact (World.putObj_heap_other hne).trans h0
end
section
open Go.RowKit
set_option maxRecDepth 100000 in
set_option maxHeartbeats 2000000 in
theorem clone_int (A : Option Addr) (n c : Nat) (l : List Int) (w : World) (hr : IntsAt w w.heap.size A n l) (hn : n ≤ maxLen) (hby : n * 8 ≤ 140737488355328) :
  Calls Tryz.prog 66 #[.slice A n c] w fun e w' => ∃ A' c', e = .returned (.slice A' n c') ∧ Own w' w.heap.size 3 1 A' n c' (l.map (Value.int .i64)) ∧ (A = none ↔ A' = none) ∧ Below w.heap.size w w' := by
 have HR := lh hr
 have hq := eql_nil_int
 cases A with
 | none =>
  have h0 : n = 0 := by
   rcases Nat.eq_zero_or_pos n with h | h
   ·exact h
   ·obtain ⟨_, h', _⟩ := hr.2 h; cases h'
  have hl : l = [] := List.eq_nil_of_length_eq_zero (by rw [hr.len]; exact h0)
  subst h0 hl
  go_enter Tryz.func66, Tryz.ntmps66
  go_wp2_with fail
  go_ret
  exact ⟨none, 0, rfl, Own.none_ _ _ _ _, by simp, Below.refl _ _⟩
 | some ad =>
  clear hr
  go_enter Tryz.func66, Tryz.ntmps66
  go_wp2_with (at_builtin; refine wpList_append_any _ rfl _ _ rfl elem_int rfl (World.ownsRow_made w #[] 0 (Nat.le_refl _) (Nat.zero_le _) (by simp)) rfl (Reads.alloc HR.out (Nat.le_refl _) _) (ints_one l) (by simpa using hn) (by simpa using hby) (by simp) ?_)
  rintro A' cap' w' hown hg hA
  go_wp2
  go_ret
  have hB : Below w.heap.size w w' := ((Below.refl _ _).alloc (Nat.le_refl _) _).grown hg (by simp) (by intro k hk; simp at hk; omega)
  refine ⟨A', cap', by simp, by simpa using hown, ?_, hB⟩
  constructor
  ·intro h; cases h
  ·intro h
   rcases hA with hA | hA <;> rw [hA] at h <;> cases h
end
section
open Go.RowKit
def idsOf (l : List Link) : List Int := l.map (·.id)
theorem ints_of_own {w : World} {base n cap B : Nat} {e : TypeId} {A : Option Addr} {l : List Int} (h : Own w base e 1 A n cap (l.map (Value.int .i64))) (hB : w.heap.size ≤ B) : IntsAt w B A n l := h.reads hB
theorem links_of_own {w : World} {base n cap B : Nat} {e : TypeId} {A : Option Addr} {l : List Link} (h : Own w base e 5 A n cap (l.flatMap Link.vals)) (hB : w.heap.size ≤ B) : LinksAt w B A n l := h.reads hB
theorem one_int {W : World} {g : Nat} {x : Int} {B : Nat} (hB : g < B) (h : W.cell? ⟨g, 0, none⟩ = some (.int .i64 x)) : Reads W B 1 (some ⟨g, 0, none⟩) 1 ([x].map (Value.int .i64)) :=
 ⟨rfl, fun _ => ⟨_, rfl, hB, fun j u hu => by
  match j, hu with
  | 0, hu => simp at hu; rw [← hu]; simpa [Addr.add] using h⟩⟩
def IntsOut (w : World) (e : Ending) (w' : World) (l : List Int) : Prop := ∃ A' c', e = .returned (.slice A' l.length c') ∧ Own w' w.heap.size 3 1 A' l.length c' (l.map (Value.int .i64)) ∧ Below w.heap.size w w'
set_option maxRecDepth 100000 in
set_option maxHeartbeats 2000000 in
theorem ids_any (A : Option Addr) (n c : Nat) (A' : Option Addr) (m d : Nat) (t : Town) (w : World) (hm : m ≤ 1000) (ht : LinksAt w w.heap.size A' m t.links) :
  Calls Tryz.prog 63 #[.agg #[.slice A n c, .slice A' m d]] w fun e w' => IntsOut w e w' (idsOf t.links) := by
 have hl : t.links.length = m := ht.len
 have HL := lh hl
 clear hl
 go_enter Tryz.func63, Tryz.ntmps63
 go_wp2_with fail
 go_loopw [3, 9] (fun vs vi wr => ∃ (k : Nat) (B : Option Addr) (q : Nat), k ≤ m ∧ vi = .int .i64 k ∧ vs = .slice B k q ∧ Own wr w.heap.size 3 1 B k q ((idsOf (t.links.take k)).map (Value.int .i64)) ∧ Below w.heap.size w wr)
  (fun _ vi _ => m - (intOf vi).toNat)
 case atStart => exact ⟨0, none, 0, by omega, rfl, rfl, Own.none_ _ _ _ _, (Below.refl _ _).alloc (Nat.le_refl _) _⟩
 case round =>
  obtain ⟨k, B, q, hk, rfl, rfl, hO, hb⟩ := hrel
  have HO := lh hO
  clear hO
  by_cases hlt : k < m
  ·obtain ⟨b, off, x, rfl, hbB, hx, hc0, hc1, hc2, hc3, hc4⟩ := (ht.below hb).cell hlt
   have HX := lh hx
   clear hx
   go_wp2_with (at_builtin; refine wpList_append_any _ rfl _ _ rfl elem_int rfl ((HO.out.alloc _).alloc _) rfl (one_int (x := x.id) (Nat.lt_succ_self _) (by simp [go_sem])) (ints_one _) (by unfold maxLen; omega) (by omega) (by simp; have := hb.size; omega) ?_)
   rintro A2 cap2 w2 hown hg hA
   have hb2 : Below w.heap.size w w2 := ((hb.alloc hb.size _).alloc (by simp; have := hb.size; omega) _).grown hg (by simp; have := hb.size; omega) (by
    intro j hj
    cases B with
    | none => cases hj
    | some a => cases hj; exact (HO.out.lt rfl).1)
   go_wp2_with fail
   go_roundw
   case rel => exact ⟨k + 1, A2, cap2, by omega, by go_num, rfl, by
    obtain ⟨h1, h2⟩ := List.getElem?_eq_some_iff.1 HX.out
    rw [List.take_succ_eq_append_getElem h1, h2]
    simpa [idsOf] using hown, hb2⟩
   case measure => simp [intOf]; omega
  ·obtain rfl : k = m := by omega
   go_wp2_with fail
   go_ret
   refine ⟨B, q, ?_, ?_, hb⟩
   ·simp [idsOf, HL.out]
   ·have := HO.out
    rw [List.take_of_length_le (by have := HL.out; omega)] at this
    simpa [idsOf, HL.out] using this
end
end Go.Proofs.YtahkjagjcogeiaaGreatDoor
