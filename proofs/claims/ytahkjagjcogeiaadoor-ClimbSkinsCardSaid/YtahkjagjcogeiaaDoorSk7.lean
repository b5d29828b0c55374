/- Part 7 of the texts of this claim, joined. -/
import Derived.Maps.RangeWalk
import Derived.Maps.OwnIn
import Derived.Test.YtahkjagjcogeiaaDoorSk6
/- What a valid town, skin or gait is good for. -/
namespace Go.Proofs.YtahkjagjcogeiaaDoor
set_option linter.unusedVariables false

theorem inB1_spec {lo hi x : Int} (h : inB lo hi [x] = true) : lo ≤ x ∧ x ≤ hi := by
  unfold inB at h
  simp at h
  omega
theorem inB2_spec {lo hi x y : Int} (h : inB lo hi [x, y] = true) : (lo ≤ x ∧ x ≤ hi) ∧ lo ≤ y ∧ y ≤ hi := by
  unfold inB at h
  simp at h
  omega
theorem upB_spec : ∀ {l : List Int} {last : Int}, upB last l = true → (∀ x ∈ l, last < x ∧ x ≤ 9999) ∧ l.Pairwise (· < ·)
  | [], _, _ => ⟨by simp, .nil⟩
  | x :: l, last, h => by
    simp only [upB, Bool.and_eq_true] at h
    have h1 := inB1_spec h.1
    obtain ⟨h2, h3⟩ := upB_spec h.2
    refine ⟨fun y hy => ?_, .cons (fun y hy => (h2 y hy).1) h3⟩
    rcases List.mem_cons.1 hy with rfl | hy
    · omega
    · have := h2 y hy; omega
theorem linksB_spec {t : Town} : ∀ {l : List Link} {last : Int}, linksB t last l = true → (∀ x ∈ l, last < x.id ∧ x.id ≤ 9999 ∧ (0 ≤ x.steps ∧ x.steps ≤ 500) ∧ (1 ≤ x.paces ∧ x.paces ≤ 2000) ∧ x.fr ≠ x.to ∧ x.fr ∈ t.places ∧ x.to ∈ t.places) ∧ l.Pairwise fun x y => x.id < y.id
  | [], _, _ => ⟨by simp, .nil⟩
  | x :: l, last, h => by
    simp only [linksB, linkB, Bool.and_eq_true] at h
    obtain ⟨⟨⟨⟨⟨h1, h2⟩, h3⟩, h4⟩, h5⟩, h6⟩ := h
    have a1 := inB1_spec h1
    have a2 := inB1_spec h2
    have a3 := inB1_spec h3
    have a4 : x.fr ≠ x.to := by simpa using h4
    have a5 : x.fr ∈ t.places ∧ x.to ∈ t.places := by
      unfold hasB at h5
      simp [memI] at h5
      exact h5
    obtain ⟨h7, h8⟩ := linksB_spec h6
    refine ⟨fun y hy => ?_, .cons (fun y hy => (h7 y hy).1) h8⟩
    rcases List.mem_cons.1 hy with rfl | hy
    · exact ⟨by omega, by omega, a2, a3, a4, a5.1, a5.2⟩
    · obtain ⟨b1, b2⟩ := h7 y hy
      exact ⟨by omega, b2⟩

/-- A valid town. -/
structure GoodT (t : Town) : Prop where
  fine : Fine t
  nodup : t.places.Nodup
  up : t.places.Pairwise (· < ·)
  ids : ∀ v ∈ t.places, 1 ≤ v ∧ v ≤ 9999
  some_ : 1 ≤ t.places.length
  links : t.links.length ≤ 20
  lids : ∀ x ∈ t.links, 1 ≤ x.id ∧ x.id ≤ 9999
  ends : ∀ x ∈ t.links, x.fr ≠ x.to
theorem goodT {t : Town} (h : townB t = true) : GoodT t := by
  unfold townB sizeB at h
  simp only [Bool.and_eq_true, decide_eq_true_eq] at h
  obtain ⟨⟨⟨h1, h2⟩, h3⟩, h4⟩ := h
  have a1 := inB1_spec h1
  obtain ⟨b1, b2⟩ := upB_spec h3
  obtain ⟨c1, c2⟩ := linksB_spec h4
  refine ⟨⟨fun x hx => (c1 x hx).2.2.1, fun x hx => (c1 x hx).2.2.2.1, fun x hx => (c1 x hx).2.2.2.2.2, c2, by omega⟩, b2.imp fun h => by omega, b2, fun v hv => by have := b1 v hv; omega, by omega, h2, fun x hx => by have := c1 x hx; omega, fun x hx => (c1 x hx).2.2.2.2.1⟩

theorem spanB_spec {most : Int} {x : Span} (h : spanB most x = true) : (0 ≤ x.lo ∧ x.lo ≤ most) ∧ (0 ≤ x.hi ∧ x.hi ≤ most) ∧ x.lo ≤ x.hi := by
  unfold spanB at h
  simp only [Bool.and_eq_true, decide_eq_true_eq] at h
  have := inB2_spec h.1
  exact ⟨this.1, this.2, h.2⟩
theorem spansB_two {most : Int} {x y : Span} (h : spansB most [x, y] = true) : spanB most x = true ∧ spanB most y = true := by
  unfold spansB at h
  simpa [Bool.not_or] using h
structure GoodS (s : Skin) : Prop where
  drops : 0 ≤ s.drops ∧ s.drops ≤ 100000
  pace : (0 ≤ s.pace.lo ∧ s.pace.lo ≤ 50) ∧ (0 ≤ s.pace.hi ∧ s.pace.hi ≤ 50) ∧ s.pace.lo ≤ s.pace.hi
  step : (0 ≤ s.step.lo ∧ s.step.lo ≤ 50) ∧ (0 ≤ s.step.hi ∧ s.step.hi ≤ 50) ∧ s.step.lo ≤ s.step.hi
theorem goodS {s : Skin} (h : skinB s = true) : GoodS s := by
  unfold skinB at h
  simp only [Bool.and_eq_true] at h
  obtain ⟨h1, h2⟩ := spansB_two h.2
  exact ⟨inB1_spec h.1, spanB_spec h1, spanB_spec h2⟩
structure GoodG (s : Gait) : Prop where
  pace : (0 ≤ s.pace.lo ∧ s.pace.lo ≤ 20) ∧ (0 ≤ s.pace.hi ∧ s.pace.hi ≤ 20) ∧ s.pace.lo ≤ s.pace.hi
  step : (0 ≤ s.step.lo ∧ s.step.lo ≤ 20) ∧ (0 ≤ s.step.hi ∧ s.step.hi ≤ 20) ∧ s.step.lo ≤ s.step.hi
theorem goodG {s : Gait} (h : gaitB s = true) : GoodG s := by
  obtain ⟨h1, h2⟩ := spansB_two h
  exact ⟨spanB_spec h1, spanB_spec h2⟩

/-- The prices. -/
def lossP (pace step : Int) : Price := ⟨pace, 0, step⟩
def timeP (pace step : Int) : Price := ⟨pace, step, 0⟩
def freeP : Price := ⟨0, 0, 0⟩
theorem lossP_fair {a b : Int} (h1 : 0 ≤ a ∧ a ≤ 50) (h2 : 0 ≤ b ∧ b ≤ 50) : Fair (lossP a b) := ⟨h1, by simp [lossP], h2.1, by simp [lossP]; omega⟩
theorem lossP_cheap {a b : Int} (h1 : 0 ≤ a ∧ a ≤ 50) (h2 : 0 ≤ b ∧ b ≤ 50) : Cheap (lossP a b) := ⟨⟨h1.1, by simp [lossP]; omega⟩, by simp [lossP], ⟨h2.1, by simp [lossP]; omega⟩⟩
theorem timeP_fair {a b : Int} (h1 : 0 ≤ a ∧ a ≤ 50) (h2 : 0 ≤ b ∧ b ≤ 50) : Fair (timeP a b) := ⟨h1, h2.1, by simp [timeP], by simp [timeP]; omega⟩
theorem timeP_cheap {a b : Int} (h1 : 0 ≤ a ∧ a ≤ 50) (h2 : 0 ≤ b ∧ b ≤ 50) : Cheap (timeP a b) := ⟨⟨h1.1, by simp [timeP]; omega⟩, ⟨h2.1, by simp [timeP]; omega⟩, by simp [timeP]⟩
theorem freeP_fair : Fair freeP := ⟨by simp [freeP], by simp [freeP], by simp [freeP], by simp [freeP]⟩
theorem freeP_cheap : Cheap freeP := ⟨by simp [freeP], by simp [freeP], by simp [freeP]⟩

theorem askE_zero {t : Town} {l : List Int} (h : askE t l = 0) : townB t = true ∧ hasB t l = true := by
  unfold askE at h
  cases h1 : townB t <;> cases h2 : hasB t l <;> rw [h1, h2] at h <;> simp at h
  exact ⟨rfl, rfl⟩
theorem askE_vals (t : Town) (l : List Int) : askE t l = 0 ∨ askE t l = 30 ∨ askE t l = 31 := by
  unfold askE
  split
  · split <;> simp
  · simp
theorem hasB_mem {t : Town} {l : List Int} (h : hasB t l = true) : ∀ v ∈ l, v ∈ t.places := by
  unfold hasB at h
  simp [memI] at h
  exact h
theorem or2_zero {a b : Int} (h : or2 a b = 0) : a = 0 ∧ b = 0 := by
  unfold or2 at h
  split at h
  · exact ⟨by assumption, h⟩
  · exact absurd h (by assumption)
theorem dryE_zero {s : Skin} (h : dryE s = 0) : skinB s = true := by
  unfold dryE at h
  cases h1 : skinB s <;> rw [h1] at h <;> simp at h ⊢
theorem slowE_zero {g : Gait} (h : slowE g = 0) : gaitB g = true := by
  unfold slowE at h
  cases h1 : gaitB g <;> rw [h1] at h <;> simp at h ⊢
theorem best_len {t : Town} {dk : Bool} {p : Price} {u v : Int} {c : Cost} {l : List Int} (hf : Fine t) (hp : Fair p) (h : best t dk p u v = some (c, l)) : l.length ≤ 9 := by
  have hF := best_first hf hp dk u v
  rw [h] at hF
  obtain ⟨c', l', h1, h2, h3⟩ := hF.1.short hf hp
  obtain ⟨rfl, rfl⟩ := key_inj (cmpL_antisymm h2 (hF.2 _ _ h1))
  have := hf.size
  rcases h3 with rfl | h3
  · simp
  · omega
theorem best_cost {t : Town} {dk : Bool} {p : Price} {u v : Int} {c : Cost} {l : List Int} (hf : Fine t) (hp : Fair p) (h : best t dk p u v = some (c, l)) : (0 ≤ c.a ∧ c.a ≤ 2000000) ∧ (0 ≤ c.b ∧ c.b ≤ 4500) ∧ (0 ≤ c.c ∧ c.c ≤ 18000) := by
  have hl := best_len hf hp h
  have hF := best_first hf hp dk u v
  rw [h] at hF
  have := hF.1.bound hf hp
  omega
end Go.Proofs.YtahkjagjcogeiaaDoor
/- append inside a fence, whatever its source; the marks of a function shut: maps lie as they lay. -/
namespace Go.Proofs.YtahkjagjcogeiaaDoor
open Go.RowKit
set_option linter.unusedVariables false

theorem wpListIn_append_any {F : Fence} {nn : Nat} {P : Program} {w : World} {ops : Array Oper} {rest : List Oper} {o : Oper} {a : Act} {Q : Exit → Act → World → Prop} (hgd : o.guard = none) (s x : Operand) {t e : TypeId}
    (ho : o.op = .call { callee := .builtin .append, args := #[s, x], argTypes := #[t, t] })
    {z : Value} {size bytes : Nat} (EE : ElemAt P t e z size bytes) {base : Nat} {A : Option Addr} {n cap : Nat} {xs : List Value} (hs : a.eval s = .slice A n cap) (hown : Own w base e size A n cap xs)
    {A2 : Option Addr} {m c B : Nat} {news : List Value} (hx : a.eval x = .slice A2 m c) (hR : Reads w B size A2 m news) (h1 : ∀ u ∈ news, u.oneCell' = true) (h63 : n + m ≤ maxLen) (hbytes : (n + m) * bytes ≤ 140737488355328) (hbase : base ≤ w.heap.size)
    (h : ∀ A' cap' w', Own w' base e size A' (n + m) cap' (xs ++ news) → w.grownBy w' (A.map (·.block)) → (A' = A ∨ A' = some ⟨w.heap.size, 0, none⟩) → wpListIn F nn P ops Q rest (a.put o.dst (.slice A' (n + m) cap')) w') :
    wpListIn F nn P ops Q (o :: rest) a w := by
  refine wpListIn_plain hgd fun K hK => ?_
  obtain ⟨A', cap', w', hr, h2, h3, h4⟩ := run_append_any (P := P) w o.type EE hown hR (c := c) h1 h63 hbytes hbase
  unfold Oper.wpIn
  refine ⟨?_, ?_⟩
  · simp [Oper.about, ho, resolve, Target.leads, Sem.run_pure]
  · rw [Oper.semAt_plain F _ _ (by rw [ho]; intro c hc'; cases hc')]
    unfold execOp
    simp only [ho, resolve, invoke, builtin, Sem.run_bind, Sem.run_pure, Result.andThen_ok, List.map_toArray, List.map_cons, List.map_nil, hs, hx, hr]
    exact hK _ _ (h A' cap' w' h2 h3 h4)

/-- What shutting the marks leaves: all that is no block of deferred calls. -/
structure ShutD (B : Nat) (w w' : World) : Prop where
  below : Below B w w'
  others : ∀ (b : Nat) o, w.heap[b]? = some o → (∀ x, o ≠ .deferred x) → w'.heap[b]? = some o
theorem ShutD.refl (B : Nat) (w : World) : ShutD B w w := ⟨Below.refl _ _, fun _ _ h _ => h⟩
theorem ShutD.trans {B : Nat} {w w' w'' : World} (h : ShutD B w w') (k : ShutD B w' w'') : ShutD B w w'' := ⟨h.below.trans k.below, fun b o e hn => k.others b o (h.others b o e hn) hn⟩
theorem ShutD.blk {B g : Nat} {w w' : World} {t : TypeId} {cs : Array Value} (h : ShutD B w w') (b : Blk w g t cs) : Blk w' g t cs := h.others _ _ b (fun x e => by cases e)
theorem ShutD.own {B base n cap size : Nat} {w w' : World} {e : TypeId} {A : Option Addr} {xs : List Value} (h : ShutD B w w') (o : Own w base e size A n cap xs) : Own w' base e size A n cap xs := by
  refine ⟨o.1, ?_⟩
  rcases o.2 with h' | ⟨g, cap', cur, hv, hb, hg, hr⟩
  · exact .inl h'
  · exact .inr ⟨g, cap', cur, hv, hb, h.others g _ hg (fun x e => by cases e), hr⟩
theorem ShutD.reads {B B' size n : Nat} {w w' : World} {A : Option Addr} {xs : List Value} (h : ShutD B w w') (r : Reads w B' size A n xs) : Reads w' B' size A n xs := by
  rcases Nat.eq_zero_or_pos size with h0 | h0
  · refine ⟨r.1, fun hn => ?_⟩
    obtain ⟨ad, e, hb, hc⟩ := r.2 hn
    refine ⟨ad, e, hb, fun j u hu => ?_⟩
    have := (List.getElem?_eq_some_iff.1 hu).1
    rw [r.1, h0] at this
    omega
  · refine ⟨r.1, fun hn => ?_⟩
    obtain ⟨ad, e, hb, hc⟩ := r.2 hn
    refine ⟨ad, e, hb, fun j u hu => ?_⟩
    have h1 := hc j u hu
    obtain ⟨o, ho, hcell⟩ := cells_of_cell h1
    rw [← h1]
    refine World.cell?_of_block ?_
    rw [ho]
    exact h.others _ _ ho (fun x e => by subst e; simp [Obj.isCells] at hcell)

theorem shutD_put {B r : Nat} {w : World} (hB : B ≤ r) (h : w.heap[r]? = some (.deferred (some []))) : ShutD B w (w.putObj r (.deferred none)) := by
  have hlt := (Array.getElem?_eq_some_iff.1 h).1
  refine ⟨(Below.refl B w).grown (grownBy_putObj' w r (.deferred none)) (by omega) (fun k e => by cases e; exact hB), fun b o e hn => ?_⟩
  have hne : b ≠ r := by
    intro e'
    subst e'
    rw [h] at e
    cases e
    exact hn _ rfl
  exact (World.putObj_heap_other hne).trans e

theorem leaves_marksD {F : Fence} {n : Nat} {P : Program} {fn : Func} {tmps : Array Value} {R : Ending → World → Prop} {B : Nat} : ∀ (ds : List Deferred) (w : World), Marks B w ds →
    (∀ w', ShutD B w w' → LeavesIn F n P fn tmps R [] .returning w') → LeavesInM F n P fn tmps R ds .returning w
  | [], w, _, h => h w (ShutD.refl _ _)
  | d :: ds, w, ⟨⟨r, h1, h2, h3, h4⟩, h5⟩, h => by
    refine ⟨by simp, .inl ⟨r, _, h2, run_takeDeferred h3, ?_⟩⟩
    refine leaves_marksD ds _ (h5.keep fun d' hd r' hr h0 => ?_) (fun w' hs => h w' ((shutD_put h1 h3).trans hs))
    have hne : r' ≠ r := by
      intro e
      subst e
      exact h4 d' hd hr
    exact (World.putObj_heap_other hne).trans h0
end Go.Proofs.YtahkjagjcogeiaaDoor
/- climb.End: what a skin holds at the end of a walk. -/
namespace Go.Proofs.YtahkjagjcogeiaaDoor
open Go.RowKit Go.Shelf
set_option linter.unusedVariables false

def endE (t : Town) (s : Skin) (place : Int) (l : List Int) : Int := if or2 (askE t [place]) (dryE s) = 0 then betE t place l else or2 (askE t [place]) (dryE s)
def endV (t : Town) (s : Skin) (place : Int) (l : List Int) : Span := if endE t s place l = 0 then ⟨max 0 (s.drops - firstA t (lossP s.pace.hi s.step.hi) place l), max 0 (s.drops - firstA t (lossP s.pace.lo s.step.lo) place l)⟩ else ⟨0, 0⟩
def EndOut (w : World) (v : Span) (e : Int) (x : Ending) (w' : World) : Prop := x = .returned (.tuple #[.agg #[.int .i64 v.lo, .int .i64 v.hi], .int .i64 e]) ∧ Below w.heap.size w w'

set_option maxRecDepth 100000 in
set_option maxHeartbeats 16000000 in
theorem end_in (A : Option Addr) (n c : Nat) (A' : Option Addr) (m d : Nat) (t : Town) (s : Skin) (place : Int) (A2 : Option Addr) (k2 c2 : Nat) (l : List Int) (w : World)
    (hn : n ≤ 1000) (hm : m ≤ 1000) (hk2 : k2 ≤ 1000) (ht : TownAt w w.heap.size A n A' m t) (hr : IntsAt w w.heap.size A2 k2 l) (hL : Laid w) :
    CallsIn Fence.wide 9 Tryd.prog 11 #[.agg #[.slice A n c, .slice A' m d], .agg #[.int .i64 s.drops, .int .i64 s.pace.lo, .int .i64 s.pace.hi, .int .i64 s.step.lo, .int .i64 s.step.hi], .int .i64 place, .slice A2 k2 c2] w (EndOut w (endV t s place l) (endE t s place l)) := by
  have HT := Lib.hid ht
  have HR := Lib.hid hr
  have HL := Lib.hid hL
  have hl0 := hL.2.2.2
  clear ht hr hL
  refine callsIn_of_wp Tryd.func11 rfl trivial ?_ rfl
  simp only [Tryd.ntmps11, List.size_toArray, List.length_cons, List.length_nil, Nat.reduceAdd, Nat.reduceSub, Array.replicate_succ, Array.replicate_zero, List.push_toArray, List.append_toArray, List.nil_append, List.cons_append]
  gi_wp2
  have L0 := Lay.three w 25 #[.slice A n c, .slice A' m d] 29 #[.int .i64 s.drops, .int .i64 s.pace.lo, .int .i64 s.pace.hi, .int .i64 s.step.lo, .int .i64 s.step.hi] 27 #[.int .i64 0, .int .i64 0]
  have HLay := Lib.hid L0
  clear L0
  generalize (((w.alloc (.cells #[.slice A n c, .slice A' m d] 25)).alloc (.cells #[.int .i64 s.drops, .int .i64 s.pace.lo, .int .i64 s.pace.hi, .int .i64 s.step.lo, .int .i64 s.step.hi] 29)).alloc (.cells #[.int .i64 0, .int .i64 0] 27)) = w0 at *
  refine wpIn_flow_old [([true, true, false, false, true], 2), ([], 3), ([], 5), ([], 6), ([], 7)] [false, false, false, false, false, false, false, false, true] [] (by kernel_rfl) (by kernel_rfl) (by kernel_rfl) (below_drewN (Below.refl _ _) 1) ?_
  refine wpFlow_cons (A := ?AF1) rfl ?hq1 ?_
  case hq1 =>
    rintro σ hσ of hof hcl
    have HOF := Lib.hid hof
    clear hof hcl
    have t0 : ∀ z, (of z).cell? ⟨w.heap.size, 0, none⟩ = some (.slice A n c) := fun z => ((HLay.out.below (HOF.out z)).blk 0 rfl).cell 0
    have t1 : ∀ z, (of z).cell? ⟨w.heap.size, 1, none⟩ = some (.slice A' m d) := fun z => ((HLay.out.below (HOF.out z)).blk 0 rfl).cell 1
    have s0 : ∀ z, (of z).cell? ⟨w.heap.size + 1, 0, none⟩ = some (.int .i64 s.drops) := fun z => ((HLay.out.below (HOF.out z)).blk 1 rfl).cell 0
    have s1 : ∀ z, (of z).cell? ⟨w.heap.size + 1, 1, none⟩ = some (.int .i64 s.pace.lo) := fun z => ((HLay.out.below (HOF.out z)).blk 1 rfl).cell 1
    have s2 : ∀ z, (of z).cell? ⟨w.heap.size + 1, 2, none⟩ = some (.int .i64 s.pace.hi) := fun z => ((HLay.out.below (HOF.out z)).blk 1 rfl).cell 2
    have s3 : ∀ z, (of z).cell? ⟨w.heap.size + 1, 3, none⟩ = some (.int .i64 s.step.lo) := fun z => ((HLay.out.below (HOF.out z)).blk 1 rfl).cell 3
    have s4 : ∀ z, (of z).cell? ⟨w.heap.size + 1, 4, none⟩ = some (.int .i64 s.step.hi) := fun z => ((HLay.out.below (HOF.out z)).blk 1 rfl).cell 4
    have hfw : ∀ f, Fence.wide.fn f := fun _ => trivial
    simp only [pickB]
    repeat (gi_big_quiet_step (fail))
    refine wpQuietIn_nil ?_
    exact rfl
  intro W1 hW1
  gi_wp2
  refine ⟨trivial, (Below.refl _ _).alloc (Nat.le_refl _) _, ?_⟩
  have HLay1 := Lib.hid ((HLay.out.below hW1).below ((Below.refl _ _).alloc (Nat.le_refl _) (.cells #[.int .i64 place] 3)))
  have HPl : Hid (IntsAt (W1.alloc (.cells #[.int .i64 place] 3)) (W1.alloc (.cells #[.int .i64 place] 3)).heap.size (some ⟨W1.heap.size, 0, none⟩) 1 [place]) := Lib.hid (IntsAt.new W1 3 [place] _ (by simp))
  obtain ⟨P1, hP1⟩ : ∃ P1, W1.heap.size = P1 := ⟨_, rfl⟩
  rw [hP1] at HPl ⊢
  generalize (W1.alloc (.cells #[.int .i64 place] 3)) = V1 at *
  clear hW1
  refine wpFlow_cons rfl Quietly.none ?_
  intro W2 hW2
  have HLay2 := Lib.hid (HLay1.out.below hW2)
  have hlw := (HLay2.out.blk 1 rfl).lt
  gi_wp2
  refine ⟨trivial, (callsIn_wide.2 (asked_any A n c A' m d t (some ⟨P1, 0, none⟩) 1 1 [place] W2 (by unfold maxLen; omega) (by unfold maxLen; omega) (by decide) ((HT.out.below HLay2.out.1).more HLay2.out.1.size) ((HPl.out.below hW2).more hW2.size) (HL.out.below HLay2.out.1 hl0))).mono ?_⟩
  rintro e W3 ⟨rfl, hb3⟩
  gi_wp2
  refine ⟨trivial, hb3, ?_⟩
  have HLay3 := Lib.hid (HLay2.out.below hb3)
  clear hb3 hW2 HLay1 HLay2
  refine wpFlow_cons rfl Quietly.none ?_
  intro W4 hW4
  have HLay4 := Lib.hid (HLay3.out.below hW4)
  gi_wp2
  refine ⟨trivial, (callsIn_wide.2 (dry_any s W4)).mono ?_⟩
  rintro e W5 ⟨rfl, hb5⟩
  gi_wp2
  refine ⟨trivial, hb5, ?_⟩
  have HLay5 := Lib.hid (HLay4.out.below hb5)
  clear hb5 hW4 HLay3 HLay4
  refine wpFlow_cons rfl Quietly.none ?_
  intro W6 hW6
  gi_wp2
  refine ⟨trivial, (Below.refl _ _).alloc (Nat.le_refl _) _, ?_⟩
  have HLay6 := Lib.hid ((HLay5.out.below hW6).below ((Below.refl _ _).alloc (Nat.le_refl _) (.cells #[.int .i64 (askE t [place]), .int .i64 (dryE s)] 32)))
  have HOr := Lib.hid (Blk.new W6 32 #[.int .i64 (askE t [place]), .int .i64 (dryE s)])
  obtain ⟨P2, hP2⟩ : ∃ P2, W6.heap.size = P2 := ⟨_, rfl⟩
  rw [hP2] at HOr ⊢
  generalize (W6.alloc (.cells #[.int .i64 (askE t [place]), .int .i64 (dryE s)] 32)) = V6 at *
  clear hW6 HLay5
  refine wpFlow_cons rfl Quietly.none ?_
  intro W7 hW7
  gi_wp2
  refine ⟨trivial, (callsIn_wide.2 (or_any (askE t [place]) (dryE s) P2 W7 (HOr.out.below hW7 HOr.out.lt))).mono ?_⟩
  rintro e W8 ⟨rfl, rfl⟩
  gi_wp2
  refine ⟨trivial, Below.refl _ _, ?_⟩
  have HLay7 := Lib.hid (HLay6.out.below hW7)
  clear hW7 HLay6 HOr
  obtain ⟨ee, hee⟩ : ∃ ee, or2 (askE t [place]) (dryE s) = ee := ⟨_, rfl⟩
  rw [hee]
  have HEE := Lib.hid hee
  clear hee
  refine wpFlow_nil (A := ?AF9) ?hq9 ?_
  case hq9 =>
    rintro σ hσ of hof hcl
    simp only [pickB]
    repeat (gi_big_quiet_step (fail))
    refine wpQuietIn_nil ?_
    exact rfl
  intro W9 hW9
  simp only [pickB]
  refine wpT_nil ?_
  have HLay9 := Lib.hid (HLay7.out.below hW9)
  clear hW9 HLay7
  have r0 := (HLay9.out.blk 2 rfl).cell 0
  have r1 := (HLay9.out.blk 2 rfl).cell 1
  have z0 := (HLay9.out.blk 2 rfl).frozen 0
  have z1 := (HLay9.out.blk 2 rfl).frozen 1
  have hl2 := HLay9.out.lt 2 rfl
  by_cases h0 : ee = 0
  · subst h0
    have HOK := Lib.hid (or2_zero HEE.out)
    obtain ⟨htb, hhas⟩ := askE_zero HOK.out.1
    have HG := Lib.hid (goodT htb)
    have HGS := Lib.hid (goodS (dryE_zero HOK.out.2))
    have hm20 : m ≤ 20 := by have := HG.out.links; have := HT.out.links.len; omega
    clear htb hhas
    gi_wp2
    clear r0 r1 z0 z1 hl2 hlw HLay
    refine wpIn_flow_new [([true, true, true, true, true, true, true, true, true, false, true, true, true, true, true, true], 9), ([], 16), ([], 17)] [false, false, false, false, false, false, false, false, false, false, false, false, false, false, false, false, false, false, true, true, true, false, false, true] [false, false, false, false, false, false, false, false, false, false, false, false, false, false, false, false, false, false, false, false, false, false, true] 21 (fun b => .pointer (some ⟨b, 0, none⟩)) 27 #[.int .i64 0, .int .i64 0] (by kernel_rfl) (by kernel_rfl) (by kernel_rfl) (below_drewN (Below.refl _ _) 1) rfl rfl rfl (fun _ _ => rfl) (fun _ _ => rfl) ?_
    refine wpFlow_cons (A := ?AF2) rfl ?hq2 ?_
    case hq2 =>
      rintro σ hσ of hof hcl
      have HOF := Lib.hid hof
      clear hof hcl
      have t0 : ∀ z, (of z).cell? ⟨w.heap.size, 0, none⟩ = some (.slice A n c) := fun z => ((HLay9.out.below (HOF.out z)).blk 0 rfl).cell 0
      have t1 : ∀ z, (of z).cell? ⟨w.heap.size, 1, none⟩ = some (.slice A' m d) := fun z => ((HLay9.out.below (HOF.out z)).blk 0 rfl).cell 1
      have s1 : ∀ z, (of z).cell? ⟨w.heap.size + 1, 1, none⟩ = some (.int .i64 s.pace.lo) := fun z => ((HLay9.out.below (HOF.out z)).blk 1 rfl).cell 1
      have s2 : ∀ z, (of z).cell? ⟨w.heap.size + 1, 2, none⟩ = some (.int .i64 s.pace.hi) := fun z => ((HLay9.out.below (HOF.out z)).blk 1 rfl).cell 2
      have s3 : ∀ z, (of z).cell? ⟨w.heap.size + 1, 3, none⟩ = some (.int .i64 s.step.lo) := fun z => ((HLay9.out.below (HOF.out z)).blk 1 rfl).cell 3
      have s4 : ∀ z, (of z).cell? ⟨w.heap.size + 1, 4, none⟩ = some (.int .i64 s.step.hi) := fun z => ((HLay9.out.below (HOF.out z)).blk 1 rfl).cell 4
      have hfw : ∀ f, Fence.wide.fn f := fun _ => trivial
      simp only [pickB]
      repeat (gi_big_quiet_step (fail))
      refine wpQuietIn_nil ?_
      exact rfl
    intro W10 hW10
    gi_wp2
    refine ⟨trivial, (callsIn_wide.2 (drips_any s.pace.lo s.step.lo W10 (by have := HGS.out.pace; omega) (by have := HGS.out.step; omega))).mono ?_⟩
    rintro e W11 ⟨⟨b1, b2, rfl, hp1⟩, hb11⟩
    have HP1 := Lib.hid hp1
    have HLay11 := Lib.hid ((HLay9.out.below hW10).below hb11)
    gi_wp2
    refine ⟨trivial, hb11, ?_⟩
    clear hp1 hW10 hb11
    refine wpFlow_cons rfl Quietly.none ?_
    intro W12 hW12
    gi_wp2
    refine ⟨trivial, (callsIn_wide.2 (drips_any s.pace.hi s.step.hi W12 (by have := HGS.out.pace; omega) (by have := HGS.out.step; omega))).mono ?_⟩
    rintro e W13 ⟨⟨b3, b4, rfl, hp2⟩, hb13⟩
    have HP2 := Lib.hid hp2
    have HP13 := Lib.hid (HP1.out.below (hW12.trans (hb13.mono hW12.size)))
    have HLay13 := Lib.hid ((HLay11.out.below hW12).below hb13)
    gi_wp2
    refine ⟨trivial, hb13, ?_⟩
    clear hp2 hW12 hb13 HP1
    refine wpFlow_cons rfl Quietly.none ?_
    intro W14 hW14
    have HLay14 := Lib.hid (HLay13.out.below hW14)
    gi_wp2
    refine ⟨trivial, (callsIn_wide.2 (between_any A n c A' m d _ _ _ _ (lossP s.pace.lo s.step.lo) (lossP s.pace.hi s.step.hi) t place A2 k2 c2 l W14 hm20 hk2 ((HT.out.links.below HLay14.out.1).more HLay14.out.1.size) (HP13.out.below hW14) (HP2.out.below hW14) HG.out.fine (lossP_fair (by have := HGS.out.pace; omega) (by have := HGS.out.step; omega)) (lossP_fair (by have := HGS.out.pace; omega) (by have := HGS.out.step; omega)) ((HR.out.below HLay14.out.1).more HLay14.out.1.size))).mono ?_⟩
    rintro e W15 ⟨rfl, hb15⟩
    have HLay15 := Lib.hid (HLay14.out.below hb15)
    gi_wp2
    refine ⟨trivial, hb15, ?_⟩
    clear hW14 hb15 HP2 HP13 HLay11 HLay13 HLay14
    refine wpFlow_nil (A := ?AF3) ?hq3 ?_
    case hq3 =>
      rintro σ hσ of hof hcl
      simp only [pickB]
      repeat (gi_big_quiet_step (fail))
      refine wpQuietIn_nil ?_
      exact rfl
    intro b W16 hW16 hbg hbb _
    have HLay16 := Lib.hid ((HLay15.out.below hW16).add (Nat.le_trans HLay9.out.1.size hbg) hbb)
    have HBG := Lib.hid hbg
    have c0 := hbb.cell 0
    have c1 := hbb.cell 1
    have z0 := hbb.frozen 0
    have z1 := hbb.frozen 1
    have hbl := hbb.lt
    clear hW16 hbg hbb HLay15
    simp only [pickB]
    refine wpT_cons ?_
    gi_wp2
    refine wpT_nil ?_
    have HLay17 := Lib.hid ((HLay16.out.setLast (fun p hp e => by have := (HLay9.out.2 p hp).2.lt; have := HBG.out; omega) 0 (.int .i64 (firstA t (lossP s.pace.lo s.step.lo) place l))).setLast (fun p hp e => by have := (HLay9.out.2 p hp).2.lt; have := HBG.out; omega) 1 (.int .i64 (firstA t (lossP s.pace.hi s.step.hi) place l)))
    generalize ((W16.setCell ⟨b, 0, none⟩ (.int .i64 (firstA t (lossP s.pace.lo s.step.lo) place l))).setCell ⟨b, 1, none⟩ (.int .i64 (firstA t (lossP s.pace.hi s.step.hi) place l))) = W17 at *
    clear c0 c1 z0 z1 hbl HLay16
    have hb1 := firstA_bound HG.out.fine (lossP_fair (a := s.pace.lo) (b := s.step.lo) (by have := HGS.out.pace; omega) (by have := HGS.out.step; omega)) place l
    have hb2 := firstA_bound HG.out.fine (lossP_fair (a := s.pace.hi) (b := s.step.hi) (by have := HGS.out.pace; omega) (by have := HGS.out.step; omega)) place l
    have hv : ∀ e', betE t place l = e' → endE t s place l = e' := fun e' h => by unfold endE; rw [HEE.out, if_pos rfl, h]
    have HV := Lib.hid hv
    clear hv
    have HVV := Lib.hid (show endV t s place l = if endE t s place l = 0 then ⟨max 0 (s.drops - firstA t (lossP s.pace.hi s.step.hi) place l), max 0 (s.drops - firstA t (lossP s.pace.lo s.step.lo) place l)⟩ else ⟨0, 0⟩ from rfl)
    generalize firstA t (lossP s.pace.lo s.step.lo) place l = fa at *
    generalize firstA t (lossP s.pace.hi s.step.hi) place l = fb at *
    generalize betE t place l = eb at *
    obtain ⟨hd0, hd1⟩ := HGS.out.drops
    obtain ⟨hb10, hb11⟩ := hb1
    obtain ⟨hb20, hb21⟩ := hb2
    have r0 := (HLay17.out.blk 2 rfl).cell 0
    have r1 := (HLay17.out.blk 2 rfl).cell 1
    have z0 := (HLay17.out.blk 2 rfl).frozen 0
    have z1 := (HLay17.out.blk 2 rfl).frozen 1
    have s0 := (HLay17.out.blk 1 rfl).cell 0
    have q0 := (HLay17.out.blk 3 rfl).cell 0
    have q1 := (HLay17.out.blk 3 rfl).cell 1
    have hl1 := HLay17.out.lt 1 rfl
    have hl2 := HLay17.out.lt 2 rfl
    have hl3 := HLay17.out.lt 3 rfl
    by_cases he0 : eb = 0
    · subst he0
      gi_wp2
      all_goals
        have he := HV.out 0 rfl
        have hvv : endV t s place l = ⟨max 0 (s.drops - fb), max 0 (s.drops - fa)⟩ := by rw [HVV.out, he, if_pos rfl]
        clear r0 r1 z0 z1 s0 q0 q1
        first
        | (have R1 := ret2 (HLay17.out.blk 2 rfl) HLay17.out.1 (by omega) (.int .i64 (max 0 (s.drops - fb))) (.int .i64 (max 0 (s.drops - fa)))
           have y0 := R1.1.cell 0
           have y1 := R1.1.cell 1
           exact bodyPost_ret (v := .tuple #[.agg #[.int .i64 (max 0 (s.drops - fb)), .int .i64 (max 0 (s.drops - fa))], .int .i64 0]) (by simp [results, Tryd.results11, go_sem, y0, y1]) rfl ⟨by rw [he, hvv], R1.2⟩)
        | (have hx : max 0 (s.drops - fb) = 0 := by omega
           have hy : max 0 (s.drops - fa) = 0 := by omega
           have R1 := ret2 (HLay17.out.blk 2 rfl) HLay17.out.1 (by omega) (.int .i64 (0)) (.int .i64 (0))
           have y0 := R1.1.cell 0
           have y1 := R1.1.cell 1
           exact bodyPost_ret (v := .tuple #[.agg #[.int .i64 (0), .int .i64 (0)], .int .i64 0]) (by simp [results, Tryd.results11, go_sem, y0, y1]) rfl ⟨by rw [he, hvv, hx, hy], R1.2⟩)
        | (have hx : max 0 (s.drops - fb) = 0 := by omega
           have hy : max 0 (s.drops - fa) = s.drops - fa := by omega
           have R1 := ret2 (HLay17.out.blk 2 rfl) HLay17.out.1 (by omega) (.int .i64 (0)) (.int .i64 (s.drops - fa))
           have y0 := R1.1.cell 0
           have y1 := R1.1.cell 1
           exact bodyPost_ret (v := .tuple #[.agg #[.int .i64 (0), .int .i64 (s.drops - fa)], .int .i64 0]) (by simp [results, Tryd.results11, go_sem, y0, y1]) rfl ⟨by rw [he, hvv, hx, hy], R1.2⟩)
        | (have hx : max 0 (s.drops - fb) = s.drops - fb := by omega
           have hy : max 0 (s.drops - fa) = 0 := by omega
           have R1 := ret2 (HLay17.out.blk 2 rfl) HLay17.out.1 (by omega) (.int .i64 (s.drops - fb)) (.int .i64 (0))
           have y0 := R1.1.cell 0
           have y1 := R1.1.cell 1
           exact bodyPost_ret (v := .tuple #[.agg #[.int .i64 (s.drops - fb), .int .i64 (0)], .int .i64 0]) (by simp [results, Tryd.results11, go_sem, y0, y1]) rfl ⟨by rw [he, hvv, hx, hy], R1.2⟩)
        | (have hx : max 0 (s.drops - fb) = s.drops - fb := by omega
           have hy : max 0 (s.drops - fa) = s.drops - fa := by omega
           have R1 := ret2 (HLay17.out.blk 2 rfl) HLay17.out.1 (by omega) (.int .i64 (s.drops - fb)) (.int .i64 (s.drops - fa))
           have y0 := R1.1.cell 0
           have y1 := R1.1.cell 1
           exact bodyPost_ret (v := .tuple #[.agg #[.int .i64 (s.drops - fb), .int .i64 (s.drops - fa)], .int .i64 0]) (by simp [results, Tryd.results11, go_sem, y0, y1]) rfl ⟨by rw [he, hvv, hx, hy], R1.2⟩)
    · have h1 : (eb != 0) = true := by simpa using he0
      have HE0 := Lib.hid he0
      clear he0
      gi_wp2
      have R1 := ret2 (HLay17.out.blk 2 rfl) HLay17.out.1 (by omega) (.int .i64 0) (.int .i64 0)
      have y0 := R1.1.cell 0
      have y1 := R1.1.cell 1
      have he := HV.out eb rfl
      have hv : endV t s place l = ⟨0, 0⟩ := by rw [HVV.out, he, if_neg HE0.out]
      exact bodyPost_ret (v := .tuple #[.agg #[.int .i64 0, .int .i64 0], .int .i64 eb]) (by simp [results, Tryd.results11, go_sem, y0, y1]) rfl ⟨by rw [he, hv], R1.2⟩
  · have h1 : (ee != 0) = true := by simpa using h0
    have HE0 := Lib.hid h0
    clear h0
    gi_wp2
    have R1 := ret2 (HLay9.out.blk 2 rfl) HLay9.out.1 (by omega) (.int .i64 0) (.int .i64 0)
    have y0 := R1.1.cell 0
    have y1 := R1.1.cell 1
    have he : endE t s place l = ee := by unfold endE; rw [HEE.out, if_neg HE0.out]
    have hv : endV t s place l = ⟨0, 0⟩ := by unfold endV; rw [he, if_neg HE0.out]
    exact bodyPost_ret (v := .tuple #[.agg #[.int .i64 0, .int .i64 0], .int .i64 ee]) (by simp [results, Tryd.results11, go_sem, y0, y1]) rfl ⟨by rw [he, hv], R1.2⟩

theorem end_any (A : Option Addr) (n c : Nat) (A' : Option Addr) (m d : Nat) (t : Town) (s : Skin) (place : Int) (A2 : Option Addr) (k2 c2 : Nat) (l : List Int) (w : World)
    (hn : n ≤ 1000) (hm : m ≤ 1000) (hk2 : k2 ≤ 1000) (ht : TownAt w w.heap.size A n A' m t) (hr : IntsAt w w.heap.size A2 k2 l) (hL : Laid w) :
    Calls Tryd.prog 11 #[.agg #[.slice A n c, .slice A' m d], .agg #[.int .i64 s.drops, .int .i64 s.pace.lo, .int .i64 s.pace.hi, .int .i64 s.step.lo, .int .i64 s.step.hi], .int .i64 place, .slice A2 k2 c2] w (EndOut w (endV t s place l) (endE t s place l)) :=
  callsIn_wide.1 (end_in A n c A' m d t s place A2 k2 c2 l w hn hm hk2 ht hr hL)
end Go.Proofs.YtahkjagjcogeiaaDoor
/- The answer's walked: a list of links followed. -/
namespace Go.Proofs.YtahkjagjcogeiaaDoor
open Go.RowKit Go.Shelf
set_option linter.unusedVariables false

theorem linkI_cases (l : List Link) (id : Int) : (linkI l id = -1 ∧ ∀ x ∈ l, x.id ≠ id) ∨ ∃ (j : Nat) (x : Link), linkI l id = j ∧ l[j]? = some x ∧ x.id = id := by
  unfold linkI idxL
  by_cases h : l.any (fun y => y.id == id) = true
  · right
    rw [if_pos h]
    have hlt : l.findIdx (fun y => y.id == id) < l.length := List.findIdx_lt_length.2 (by simpa using h)
    exact ⟨_, _, rfl, List.getElem?_eq_getElem hlt, by simpa using List.findIdx_getElem (w := hlt)⟩
  · left
    rw [if_neg h]
    refine ⟨rfl, fun x hx e => h (List.any_eq_true.2 ⟨x, hx, by simpa using e⟩)⟩

/-- What is spent up to where a list is no walk. -/
def partC (t : Town) (p : Price) : Int × Cost → List Int → Cost
  | s, [] => s.2
  | s, i :: r => match stepF t p s.1 i with
    | none => s.2
    | some (m, c) => partC t p (m, addC s.2 c) r
def partF (t : Town) (p : Price) (u : Int) (l : List Int) : Cost := if 40 < l.length then zeroC else partC t p (u, zeroC) l
def pairW (t : Town) (p : Price) (s : Int × Cost) (l : List Int) : Option (Int × Cost) × Cost := (walkS t p s l, partC t p s l)
def RWalkedOut (w : World) (r : Option (Int × Cost) × Cost) (e : Ending) (w' : World) : Prop :=
  ∃ (x : Int) (co : Cost), e = .returned (.tuple #[.int .i64 x, costV co, .bool r.1.isSome]) ∧ (∀ q, r.1 = some q → q = (x, co)) ∧ Below w.heap.size w w' ∧ co = r.2 ∧ (r.1 = none → x = 0)

structure RWSt (w : World) (T : Array Value) (p : Price) (co : Cost) (W : World) : Prop where
  bel : Below w.heap.size w W
  tb : Blk W w.heap.size 25 T
  pb : Blk W (w.heap.size + 1) 107 #[.int .i64 p.pace, .int .i64 p.up, .int .i64 p.step]
  rb : Blk W (w.heap.size + 1 + 1) 103 #[.int .i64 0, .int .i64 0, .int .i64 0, .int .i64 0]
  sb : Blk W (w.heap.size + 1 + 1 + 1) 103 #[.int .i64 co.a, .int .i64 co.b, .int .i64 co.c, .int .i64 co.d]
theorem RWSt.below {w W W' : World} {T : Array Value} {p : Price} {co : Cost} (h : RWSt w T p co W) (hb : Below W.heap.size W W') : RWSt w T p co W' :=
  ⟨h.bel.trans (hb.mono h.bel.size), h.tb.below hb h.tb.lt, h.pb.below hb h.pb.lt, h.rb.below hb h.rb.lt, h.sb.below hb h.sb.lt⟩

theorem drop_at' {α : Type} {l : List α} {k : Nat} {x : α} (h : l[k]? = some x) : l.drop k = x :: l.drop (k + 1) := by
  obtain ⟨hk, e⟩ := List.getElem?_eq_some_iff.1 h
  rw [List.drop_eq_getElem_cons hk, e]
/-- A block of four cells written anew. -/
theorem ret4 {w W : World} {B g : Nat} {t : TypeId} {z0 z1 z2 z3 : Value} (R : Blk W g t #[z0, z1, z2, z3]) (L : Below B w W) (hg : B ≤ g) (v0 v1 v2 v3 : Value) :
    Blk ((((W.setCell ⟨g, 0, none⟩ v0).setCell ⟨g, 1, none⟩ v1).setCell ⟨g, 2, none⟩ v2).setCell ⟨g, 3, none⟩ v3) g t #[v0, v1, v2, v3] ∧ Below B w ((((W.setCell ⟨g, 0, none⟩ v0).setCell ⟨g, 1, none⟩ v1).setCell ⟨g, 2, none⟩ v2).setCell ⟨g, 3, none⟩ v3) :=
  ⟨(((R.set_ 0 v0).set_ 1 v1).set_ 2 v2).set_ 3 v3, (((L.setCell (p := ⟨g, 0, none⟩) hg _).setCell (p := ⟨g, 1, none⟩) hg _).setCell (p := ⟨g, 2, none⟩) hg _).setCell (p := ⟨g, 3, none⟩) hg _⟩

theorem RWSt.put {w W : World} {T : Array Value} {p : Price} {co : Cost} (h : RWSt w T p co W) (d : Cost) : RWSt w T p d ((((W.setCell ⟨w.heap.size + 1 + 1 + 1, 0, none⟩ (.int .i64 d.a)).setCell ⟨w.heap.size + 1 + 1 + 1, 1, none⟩ (.int .i64 d.b)).setCell ⟨w.heap.size + 1 + 1 + 1, 2, none⟩ (.int .i64 d.c)).setCell ⟨w.heap.size + 1 + 1 + 1, 3, none⟩ (.int .i64 d.d)) := by
  have X := ret4 (w := W) (B := w.heap.size + 1 + 1 + 1) h.sb (Below.refl _ _) (Nat.le_refl _) (.int .i64 d.a) (.int .i64 d.b) (.int .i64 d.c) (.int .i64 d.d)
  have Y := (ret4 h.sb h.bel (by omega) (.int .i64 d.a) (.int .i64 d.b) (.int .i64 d.c) (.int .i64 d.d)).2
  exact ⟨Y, h.tb.below X.2 (by omega), h.pb.below X.2 (by omega), h.rb.below X.2 (by omega), X.1⟩
theorem rleads_none {W : World} {n : Nat} (x : Link) (v : Int) (p : Price) (hr : leads false p x v = none) (hx : Fit x) (hp : Cheap p) {σ : Type} {of : σ → World} (h1 : ∀ z, Below W.heap.size W (of z)) (h2 : ∀ z W', Below (of z).heap.size (of z) W' → Cls of W') (z : σ) :
    CallsIn Fence.wide n Tryd.prog 112 #[.agg #[.int .i64 x.id, .int .i64 x.fr, .int .i64 x.to, .int .i64 x.steps, .int .i64 x.paces], .int .i64 v, .bool false, .agg #[.int .i64 p.pace, .int .i64 p.up, .int .i64 p.step]] (of z) fun e w'' => e = .returned (.tuple #[.int .i64 0, .agg #[.int .i64 0, .int .i64 0, .int .i64 0, .int .i64 0], .bool false]) ∧ Cls of w'' :=
  (callsIn_wide.2 (leads_any x v false p (of z) hx hp)).mono fun e w'' ⟨he, hb⟩ => ⟨by rw [he, hr]; rfl, h2 z _ hb⟩
theorem rleads_some {W : World} {n : Nat} (x : Link) (v : Int) (p : Price) (v' : Int) (cx : Cost) (hr : leads false p x v = some (v', cx)) (hx : Fit x) (hp : Cheap p) {σ : Type} {of : σ → World} (h1 : ∀ z, Below W.heap.size W (of z)) (h2 : ∀ z W', Below (of z).heap.size (of z) W' → Cls of W') (z : σ) :
    CallsIn Fence.wide n Tryd.prog 112 #[.agg #[.int .i64 x.id, .int .i64 x.fr, .int .i64 x.to, .int .i64 x.steps, .int .i64 x.paces], .int .i64 v, .bool false, .agg #[.int .i64 p.pace, .int .i64 p.up, .int .i64 p.step]] (of z) fun e w'' => e = .returned (.tuple #[.int .i64 v', .agg #[.int .i64 cx.a, .int .i64 cx.b, .int .i64 cx.c, .int .i64 cx.d], .bool true]) ∧ Cls of w'' :=
  (callsIn_wide.2 (leads_any x v false p (of z) hx hp)).mono fun e w'' ⟨he, hb⟩ => ⟨by rw [he, hr]; rfl, h2 z _ hb⟩

set_option maxRecDepth 100000 in
set_option maxHeartbeats 8000000 in
theorem rwalked_in (A : Option Addr) (n c : Nat) (A' : Option Addr) (m d : Nat) (p : Price) (t : Town) (place : Int) (A2 : Option Addr) (k2 c2 : Nat) (l : List Int) (w : World)
    (hm : m ≤ 1000) (hk2 : k2 ≤ 1000) (ht : LinksAt w w.heap.size A' m t.links) (hp : Cheap p) (hfine : Fine t) (hfair : Fair p) (hr : IntsAt w w.heap.size A2 k2 l) :
    CallsIn Fence.wide 9 Tryd.prog 54 #[.agg #[.slice A n c, .slice A' m d], .int .i64 place, .slice A2 k2 c2, .agg #[.int .i64 p.pace, .int .i64 p.up, .int .i64 p.step]] w (RWalkedOut w (walkedF t p place l, partF t p place l)) := by
  have HT := Lib.hid ht
  have HP := Lib.hid hp
  have HR := Lib.hid hr
  have HLl := Lib.hid hr.len
  have HFI := Lib.hid hfine
  have HFA := Lib.hid hfair
  have HLm := Lib.hid ht.len
  have hmx : m ≤ maxLen := by unfold maxLen; omega
  clear ht hp hr hfine hfair
  refine callsIn_of_wp Tryd.func54 rfl trivial ?_ rfl
  simp only [Tryd.ntmps54, List.size_toArray, List.length_cons, List.length_nil, Nat.reduceAdd, Nat.reduceSub, Array.replicate_succ, Array.replicate_zero, List.push_toArray, List.append_toArray, List.nil_append, List.cons_append]
  have S0 : RWSt w #[.slice A n c, .slice A' m d] p zeroC ((((w.alloc (.cells #[.slice A n c, .slice A' m d] 25)).alloc (.cells #[.int .i64 p.pace, .int .i64 p.up, .int .i64 p.step] 107)).alloc (.cells #[.int .i64 0, .int .i64 0, .int .i64 0, .int .i64 0] 103)).alloc (.cells #[.int .i64 0, .int .i64 0, .int .i64 0, .int .i64 0] 103)) := by
    have b := ((((Below.refl w.heap.size w).alloc (Nat.le_refl _) (.cells #[.slice A n c, .slice A' m d] 25)).alloc (by simp) (.cells #[.int .i64 p.pace, .int .i64 p.up, .int .i64 p.step] 107)).alloc (by simp; omega) (.cells #[.int .i64 0, .int .i64 0, .int .i64 0, .int .i64 0] 103)).alloc (by simp; omega) (.cells #[.int .i64 0, .int .i64 0, .int .i64 0, .int .i64 0] 103)
    have X := (((Blk.new w 25 #[.slice A n c, .slice A' m d]).alloc (.cells #[.int .i64 p.pace, .int .i64 p.up, .int .i64 p.step] 107)).alloc (.cells #[.int .i64 0, .int .i64 0, .int .i64 0, .int .i64 0] 103)).alloc (.cells #[.int .i64 0, .int .i64 0, .int .i64 0, .int .i64 0] 103)
    have Y := ((Blk.new (w.alloc (.cells #[.slice A n c, .slice A' m d] 25)) 107 #[.int .i64 p.pace, .int .i64 p.up, .int .i64 p.step]).alloc (.cells #[.int .i64 0, .int .i64 0, .int .i64 0, .int .i64 0] 103)).alloc (.cells #[.int .i64 0, .int .i64 0, .int .i64 0, .int .i64 0] 103)
    have U := (Blk.new ((w.alloc (.cells #[.slice A n c, .slice A' m d] 25)).alloc (.cells #[.int .i64 p.pace, .int .i64 p.up, .int .i64 p.step] 107)) 103 #[.int .i64 0, .int .i64 0, .int .i64 0, .int .i64 0]).alloc (.cells #[.int .i64 0, .int .i64 0, .int .i64 0, .int .i64 0] 103)
    have V := Blk.new (((w.alloc (.cells #[.slice A n c, .slice A' m d] 25)).alloc (.cells #[.int .i64 p.pace, .int .i64 p.up, .int .i64 p.step] 107)).alloc (.cells #[.int .i64 0, .int .i64 0, .int .i64 0, .int .i64 0] 103)) 103 #[.int .i64 0, .int .i64 0, .int .i64 0, .int .i64 0]
    rw [World.size_alloc] at Y
    rw [World.size_alloc, World.size_alloc] at U
    rw [World.size_alloc, World.size_alloc, World.size_alloc] at V
    exact ⟨b, X, Y, U, V⟩
  by_cases h40 : (40 : Int) < (k2 : Int)
  · have HN : Hid ((walkedF t p place l, partF t p place l) = (none, zeroC)) := Lib.hid (by unfold walkedF partF; rw [if_pos (by rw [HLl.out]; omega), if_pos (by rw [HLl.out]; omega)])
    have HS0 := Lib.hid S0
    clear S0
    gi_wp2
    gi_region
    all_goals
      gi_wp2
      refine bodyPost_ret (v := .tuple #[.int .i64 0, costV zeroC, .bool false]) (by simp [results, Tryd.results54, go_sem, zeroC]) rfl ?_
      rw [HN.out]
      exact ⟨0, zeroC, rfl, (fun q hq => by cases hq), below_drewN HS0.out.bel 1, rfl, fun _ => rfl⟩
  · have h40' : decide ((40 : Int) < (k2 : Int)) = false := by simp; omega
    have HWF : Hid ((walkedF t p place l, partF t p place l) = pairW t p (place, zeroC) l) := Lib.hid (by unfold walkedF partF pairW; rw [if_neg (by rw [HLl.out]; omega), if_neg (by rw [HLl.out]; omega)])
    have HS0 := Lib.hid S0
    clear S0 h40
    gi_wp2
    generalize ((((w.alloc (.cells #[.slice A n c, .slice A' m d] 25)).alloc (.cells #[.int .i64 p.pace, .int .i64 p.up, .int .i64 p.step] 107)).alloc (.cells #[.int .i64 0, .int .i64 0, .int .i64 0, .int .i64 0] 103)).alloc (.cells #[.int .i64 0, .int .i64 0, .int .i64 0, .int .i64 0] 103)) = w0 at *
    gi_loopw [1, 24] (fun vf vi wr => ∃ (k : Nat) (at_ : Int) (co : Cost), k ≤ k2 ∧ vi = .int .i64 k ∧ vf = .int .i64 at_ ∧ Hid (RWSt w #[.slice A n c, .slice A' m d] p co wr ∧ Walk t false p place at_ co (l.take k) ∧ pairW t p (at_, co) (l.drop k) = pairW t p (place, zeroC) l)) (fun _ vi _ => k2 - (intOf vi).toNat)
    case atStart => exact ⟨0, place, zeroC, Nat.zero_le _, rfl, rfl, Lib.hid ⟨HS0.out, .nil _, rfl⟩⟩
    case round =>
      obtain ⟨k, at_, co, hk, rfl, rfl, HS⟩ := hrel
      have s0 := HS.out.1.sb.cell 0
      have s1 := HS.out.1.sb.cell 1
      have s2 := HS.out.1.sb.cell 2
      have s3 := HS.out.1.sb.cell 3
      have r0 := HS.out.1.rb.cell 0
      have r1 := HS.out.1.rb.cell 1
      have r2 := HS.out.1.rb.cell 2
      have r3 := HS.out.1.rb.cell 3
      have z0 := HS.out.1.rb.frozen 0
      have z1 := HS.out.1.rb.frozen 1
      have z2 := HS.out.1.rb.frozen 2
      have z3 := HS.out.1.rb.frozen 3
      by_cases hlt : k < k2
      · obtain ⟨b, off, id, rfl, hb, hid, hcell⟩ := (HR.out.below HS.out.1.bel).cell hlt
        have hbl : b < wr.heap.size := Nat.lt_of_lt_of_le hb HS.out.1.bel.size
        have t0 := HS.out.1.tb.cell 0
        have t1 := HS.out.1.tb.cell 1
        have HID := Lib.hid hid
        clear hid hb
        gi_wp2
        rcases linkI_cases t.links id with ⟨hli, hno⟩ | ⟨jj, x, hli, hx, hxi⟩
        · have H := link_any A n c A' m d t id wr hmx ((HT.out.below HS.out.1.bel).more HS.out.1.bel.size)
          rw [hli] at H
          have HH := Lib.hid H
          have HNO : Hid (pairW t p (place, zeroC) l = (none, co)) := Lib.hid (by
            rw [← HS.out.2.2, drop_at' HID.out]
            simp only [pairW, walkS, partC]
            rw [show stepF t p at_ id = none by
              unfold stepF
              rw [List.findSome?_eq_none_iff]
              intro y hy
              rw [if_neg (hno y hy)]])
          clear H hli hno
          refine ⟨trivial, (callsIn_wide.2 HH.out).mono ?_⟩
          rintro e w1 ⟨rfl, hb1⟩
          have HS1 := Lib.hid (HS.out.1.below hb1)
          clear hb1 s0 s1 s2 s3 r0 r1 r2 r3 z0 z1 z2 z3 t0 t1
          have s0 := HS1.out.sb.cell 0
          have s1 := HS1.out.sb.cell 1
          have s2 := HS1.out.sb.cell 2
          have s3 := HS1.out.sb.cell 3
          have r0 := HS1.out.rb.cell 0
          have r1 := HS1.out.rb.cell 1
          have r2 := HS1.out.rb.cell 2
          have r3 := HS1.out.rb.cell 3
          have z0 := HS1.out.rb.frozen 0
          have z1 := HS1.out.rb.frozen 1
          have z2 := HS1.out.rb.frozen 2
          have z3 := HS1.out.rb.frozen 3
          gi_wp2
          gi_region
          all_goals
            gi_wp2
            have R4 := ret4 (w := w) HS1.out.rb (HS1.out.bel) (by omega) (.int .i64 co.a) (.int .i64 co.b) (.int .i64 co.c) (.int .i64 co.d)
            have y0 := R4.1.cell 0
            have y1 := R4.1.cell 1
            have y2 := R4.1.cell 2
            have y3 := R4.1.cell 3
            refine bodyPost_ret (v := .tuple #[.int .i64 0, costV co, .bool false]) (by simp [results, Tryd.results54, go_sem, y0, y1, y2, y3]) rfl ?_
            rw [HWF.out, HNO.out]
            exact ⟨0, co, rfl, (fun q hq => by first | cases hq; rfl | cases hq), below_drewN R4.2 1, rfl, fun _ => rfl⟩
        · have H := link_any A n c A' m d t id wr hmx ((HT.out.below HS.out.1.bel).more HS.out.1.bel.size)
          rw [hli] at H
          have HH := Lib.hid H
          have hjm : jj < m := by have := (List.getElem?_eq_some_iff.1 hx).1; have := HLm.out; omega
          have HX := Lib.hid hx
          have HXI := Lib.hid hxi
          clear H hli hx hxi
          refine ⟨trivial, (callsIn_wide.2 HH.out).mono ?_⟩
          rintro e w1 ⟨rfl, hb1⟩
          have HS1 := Lib.hid (HS.out.1.below hb1)
          clear hb1 s0 s1 s2 s3 r0 r1 r2 r3 z0 z1 z2 z3 t0 t1
          have HXM : Hid (x ∈ t.links) := Lib.hid (List.mem_of_getElem? HX.out)
          have HFit : Hid (Fit x) := Lib.hid ⟨HFI.out.steps x HXM.out, HFI.out.paces x HXM.out⟩
          have HLT := Lib.hid (HT.out.below HS1.out.bel)
          obtain ⟨b2, off2, x', hA', hb2, hx', _⟩ := HLT.out.cell hjm
          subst hA'
          obtain rfl : x' = x := Option.some.inj (hx'.symm.trans HX.out)
          have hb2l : b2 < w1.heap.size := Nat.lt_of_lt_of_le hb2 HS1.out.bel.size
          clear hx' hb2
          have hjI : (0 : Int) ≤ (jj : Int) ∧ (jj : Int) < (m : Int) := by omega
          have hcells : Hid (∀ W, Below w1.heap.size w1 W → W.cell? ⟨b2, off2 + jj * 5, none⟩ = some (.int .i64 x'.id) ∧ W.cell? ⟨b2, off2 + jj * 5 + 1, none⟩ = some (.int .i64 x'.fr) ∧ W.cell? ⟨b2, off2 + jj * 5 + 2, none⟩ = some (.int .i64 x'.to) ∧ W.cell? ⟨b2, off2 + jj * 5 + 3, none⟩ = some (.int .i64 x'.steps) ∧ W.cell? ⟨b2, off2 + jj * 5 + 4, none⟩ = some (.int .i64 x'.paces)) := Lib.hid (fun W hb => by
            obtain ⟨b3, o3, y, e, _, hy, h⟩ := ((HLT.out.more HS1.out.bel.size).below hb).cell hjm
            cases e
            obtain rfl : y = x' := Option.some.inj (hy.symm.trans HX.out)
            exact h)
          have HDR : Hid (pairW t p (place, zeroC) l = (match leads false p x' at_ with | none => (none, co) | some y => pairW t p (y.1, addC co y.2) (l.drop (k + 1)))) := Lib.hid (by
            rw [← HS.out.2.2, drop_at' HID.out]
            simp only [pairW, walkS, partC]
            rw [← HXI.out, stepF_leads HFI.out.ids HXM.out]
            rcases leads false p x' at_ with _ | ⟨a1, a2⟩ <;> rfl)
          gi_wp2
          rcases hld : leads false p x' at_ with _ | ⟨v, cx⟩
          · have HLD := Lib.hid hld
            clear hld
            refine wpIn_region_new (AF := ?AF) (fun b => .pointer (some ⟨b, 0, none⟩)) 103 #[.int .i64 0, .int .i64 0, .int .i64 0, .int .i64 0] [0, 1, 2, 3, 4, 5, 6, 7, 8, 9, 10, 11, 13, 15] [14] 12 [true, true, true, true, true, true, true, true, true, true, true, true, false, true, false, true] [false, false, false, false, false, false, false, false, false, false, false, false, false, false, true, false] (by kernel_rfl) (by kernel_rfl) (by kernel_rfl) (by kernel_rfl) (by kernel_rfl) (below_drewN (Below.refl _ _) 1) rfl rfl rfl ?hq ?hf ?ht
            case hq =>
              rintro σ hσ of hof hcl
              have HOF := Lib.hid hof
              have HCL := Lib.hid hcl
              clear hof hcl
              have l0 : ∀ z, (of z).cell? ⟨b2, off2 + jj * 5, none⟩ = some (.int .i64 x'.id) := fun z => (hcells.out _ (HOF.out z)).1
              have l1 : ∀ z, (of z).cell? ⟨b2, off2 + jj * 5 + 1, none⟩ = some (.int .i64 x'.fr) := fun z => (hcells.out _ (HOF.out z)).2.1
              have l2 : ∀ z, (of z).cell? ⟨b2, off2 + jj * 5 + 2, none⟩ = some (.int .i64 x'.to) := fun z => (hcells.out _ (HOF.out z)).2.2.1
              have l3 : ∀ z, (of z).cell? ⟨b2, off2 + jj * 5 + 3, none⟩ = some (.int .i64 x'.steps) := fun z => (hcells.out _ (HOF.out z)).2.2.2.1
              have l4 : ∀ z, (of z).cell? ⟨b2, off2 + jj * 5 + 4, none⟩ = some (.int .i64 x'.paces) := fun z => (hcells.out _ (HOF.out z)).2.2.2.2
              have t0 : ∀ z, (of z).cell? ⟨w.heap.size, 0, none⟩ = some (.slice A n c) := fun z => (HS1.out.tb.below (HOF.out z) HS1.out.tb.lt).cell 0
              have t1 : ∀ z, (of z).cell? ⟨w.heap.size, 1, none⟩ = some (.slice (some ⟨b2, off2, none⟩) m d) := fun z => (HS1.out.tb.below (HOF.out z) HS1.out.tb.lt).cell 1
              have p0 : ∀ z, (of z).cell? ⟨w.heap.size + 1, 0, none⟩ = some (.int .i64 p.pace) := fun z => (HS1.out.pb.below (HOF.out z) HS1.out.pb.lt).cell 0
              have p1 : ∀ z, (of z).cell? ⟨w.heap.size + 1, 1, none⟩ = some (.int .i64 p.up) := fun z => (HS1.out.pb.below (HOF.out z) HS1.out.pb.lt).cell 1
              have p2 : ∀ z, (of z).cell? ⟨w.heap.size + 1, 2, none⟩ = some (.int .i64 p.step) := fun z => (HS1.out.pb.below (HOF.out z) HS1.out.pb.lt).cell 2
              have hfw : ∀ f, Fence.wide.fn f := fun _ => trivial
              simp only [pickB]
              repeat (gi_big_quiet_step (exact rleads_none x' at_ p HLD.out HFit.out HP.out HOF.out HCL.out _))
              refine wpQuietIn_nil ?_
              exact rfl
            case hf =>
              intro W hb
              exact ⟨fun f hf => trivial, rfl⟩
            case ht =>
              intro b W hb hbb hR
              have HB := Lib.hid hb
              have HBB := Lib.hid hbb
              have HR4 := Lib.hid hR
              have hbl1 := hR.lt
              have c0 := hR.cell 0
              have c1 := hR.cell 1
              have c2 := hR.cell 2
              have c3 := hR.cell 3
              have d0 := hR.frozen 0
              have d1 := hR.frozen 1
              have d2 := hR.frozen 2
              have d3 := hR.frozen 3
              clear hb hbb hR
              simp only [pickB]
              refine wpE_cons ?_
              gi_wp2
              have R5 := Lib.hid (ret4 HR4.out HB.out HBB.out (.int .i64 0) (.int .i64 0) (.int .i64 0) (.int .i64 0))
              refine ⟨R5.out.2, wpE_nil ?_⟩
              have HW5 := Lib.hid (HS1.out.below R5.out.2)
              generalize (((W.setCell ⟨b, 0, none⟩ (.int .i64 0)).setCell ⟨b, 1, none⟩ (.int .i64 0)).setCell ⟨b, 2, none⟩ (.int .i64 0)).setCell ⟨b, 3, none⟩ (.int .i64 0) = W5 at *
              clear c0 c1 c2 c3 d0 d1 d2 d3
              have hbl5 := R5.out.1.lt
              have s0 := HW5.out.sb.cell 0
              have s1 := HW5.out.sb.cell 1
              have s2 := HW5.out.sb.cell 2
              have s3 := HW5.out.sb.cell 3
              have r0 := HW5.out.rb.cell 0
              have r1 := HW5.out.rb.cell 1
              have r2 := HW5.out.rb.cell 2
              have r3 := HW5.out.rb.cell 3
              have z0 := HW5.out.rb.frozen 0
              have z1 := HW5.out.rb.frozen 1
              have z2 := HW5.out.rb.frozen 2
              have z3 := HW5.out.rb.frozen 3
              gi_wp2
              gi_region
              all_goals
                gi_wp2
                have R4 := ret4 (w := w) HW5.out.rb (HW5.out.bel) (by omega) (.int .i64 co.a) (.int .i64 co.b) (.int .i64 co.c) (.int .i64 co.d)
                have y0 := R4.1.cell 0
                have y1 := R4.1.cell 1
                have y2 := R4.1.cell 2
                have y3 := R4.1.cell 3
                refine bodyPost_ret (v := .tuple #[.int .i64 0, costV co, .bool false]) (by simp [results, Tryd.results54, go_sem, y0, y1, y2, y3]) rfl ?_
                rw [HWF.out, HDR.out, HLD.out]
                exact ⟨0, co, rfl, (fun q hq => by cases hq), below_drewN R4.2 1, rfl, fun _ => rfl⟩
          · have HLD := Lib.hid hld
            clear hld
            refine wpIn_region_new (AF := ?AF2) (fun b => .pointer (some ⟨b, 0, none⟩)) 103 #[.int .i64 0, .int .i64 0, .int .i64 0, .int .i64 0] [0, 1, 2, 3, 4, 5, 6, 7, 8, 9, 10, 11, 13, 15] [14] 12 [true, true, true, true, true, true, true, true, true, true, true, true, false, true, false, true] [false, false, false, false, false, false, false, false, false, false, false, false, false, false, true, false] (by kernel_rfl) (by kernel_rfl) (by kernel_rfl) (by kernel_rfl) (by kernel_rfl) (below_drewN (Below.refl _ _) 1) rfl rfl rfl ?hq2 ?hf2 ?ht2
            case hq2 =>
              rintro σ hσ of hof hcl
              have HOF := Lib.hid hof
              have HCL := Lib.hid hcl
              clear hof hcl
              have l0 : ∀ z, (of z).cell? ⟨b2, off2 + jj * 5, none⟩ = some (.int .i64 x'.id) := fun z => (hcells.out _ (HOF.out z)).1
              have l1 : ∀ z, (of z).cell? ⟨b2, off2 + jj * 5 + 1, none⟩ = some (.int .i64 x'.fr) := fun z => (hcells.out _ (HOF.out z)).2.1
              have l2 : ∀ z, (of z).cell? ⟨b2, off2 + jj * 5 + 2, none⟩ = some (.int .i64 x'.to) := fun z => (hcells.out _ (HOF.out z)).2.2.1
              have l3 : ∀ z, (of z).cell? ⟨b2, off2 + jj * 5 + 3, none⟩ = some (.int .i64 x'.steps) := fun z => (hcells.out _ (HOF.out z)).2.2.2.1
              have l4 : ∀ z, (of z).cell? ⟨b2, off2 + jj * 5 + 4, none⟩ = some (.int .i64 x'.paces) := fun z => (hcells.out _ (HOF.out z)).2.2.2.2
              have t0 : ∀ z, (of z).cell? ⟨w.heap.size, 0, none⟩ = some (.slice A n c) := fun z => (HS1.out.tb.below (HOF.out z) HS1.out.tb.lt).cell 0
              have t1 : ∀ z, (of z).cell? ⟨w.heap.size, 1, none⟩ = some (.slice (some ⟨b2, off2, none⟩) m d) := fun z => (HS1.out.tb.below (HOF.out z) HS1.out.tb.lt).cell 1
              have p0 : ∀ z, (of z).cell? ⟨w.heap.size + 1, 0, none⟩ = some (.int .i64 p.pace) := fun z => (HS1.out.pb.below (HOF.out z) HS1.out.pb.lt).cell 0
              have p1 : ∀ z, (of z).cell? ⟨w.heap.size + 1, 1, none⟩ = some (.int .i64 p.up) := fun z => (HS1.out.pb.below (HOF.out z) HS1.out.pb.lt).cell 1
              have p2 : ∀ z, (of z).cell? ⟨w.heap.size + 1, 2, none⟩ = some (.int .i64 p.step) := fun z => (HS1.out.pb.below (HOF.out z) HS1.out.pb.lt).cell 2
              have hfw : ∀ f, Fence.wide.fn f := fun _ => trivial
              simp only [pickB]
              repeat (gi_big_quiet_step (exact rleads_some x' at_ p v cx HLD.out HFit.out HP.out HOF.out HCL.out _))
              refine wpQuietIn_nil ?_
              exact rfl
            case hf2 =>
              intro W hb
              exact ⟨fun f hf => trivial, rfl⟩
            case ht2 =>
              intro b W hb hbb hR
              have HB := Lib.hid hb
              have HBB := Lib.hid hbb
              have HR4 := Lib.hid hR
              have hbl1 := hR.lt
              have c0 := hR.cell 0
              have c1 := hR.cell 1
              have c2 := hR.cell 2
              have c3 := hR.cell 3
              have d0 := hR.frozen 0
              have d1 := hR.frozen 1
              have d2 := hR.frozen 2
              have d3 := hR.frozen 3
              clear hb hbb hR
              simp only [pickB]
              refine wpE_cons ?_
              gi_wp2
              have R5 := Lib.hid (ret4 HR4.out HB.out HBB.out (.int .i64 cx.a) (.int .i64 cx.b) (.int .i64 cx.c) (.int .i64 cx.d))
              refine ⟨R5.out.2, wpE_nil ?_⟩
              have HW5 := Lib.hid (HS1.out.below R5.out.2)
              generalize (((W.setCell ⟨b, 0, none⟩ (.int .i64 cx.a)).setCell ⟨b, 1, none⟩ (.int .i64 cx.b)).setCell ⟨b, 2, none⟩ (.int .i64 cx.c)).setCell ⟨b, 3, none⟩ (.int .i64 cx.d) = W5 at *
              clear c0 c1 c2 c3 d0 d1 d2 d3
              have hbl5 := R5.out.1.lt
              have s0 := HW5.out.sb.cell 0
              have s1 := HW5.out.sb.cell 1
              have s2 := HW5.out.sb.cell 2
              have s3 := HW5.out.sb.cell 3
              have r0 := HW5.out.rb.cell 0
              have r1 := HW5.out.rb.cell 1
              have r2 := HW5.out.rb.cell 2
              have r3 := HW5.out.rb.cell 3
              have z0 := HW5.out.rb.frozen 0
              have z1 := HW5.out.rb.frozen 1
              have z2 := HW5.out.rb.frozen 2
              have z3 := HW5.out.rb.frozen 3
              have HLC := Lib.hid (leads_cost HXM.out HFI.out HFA.out HLD.out)
              have HSM : Hid (Small co ∧ Small cx) := Lib.hid ⟨by
                have h1 := HS.out.2.1.bound HFI.out HFA.out
                have h2 : (l.take k).length ≤ 40 := by
                  rw [List.length_take]
                  have := of_decide_eq_false h40'
                  omega
                exact ⟨by omega, by omega, by omega, by omega⟩, by
                have h1 := HLC.out
                exact ⟨by omega, by omega, by omega, by omega⟩⟩
              have b0 := R5.out.1.cell 0
              have b1 := R5.out.1.cell 1
              have b2 := R5.out.1.cell 2
              have b3 := R5.out.1.cell 3
              gi_wp2
              refine ⟨trivial, (callsIn_wide.2 (rplus_any co cx _ HSM.out.1 HSM.out.2)).mono ?_⟩
              rintro e w6 ⟨rfl, hb6⟩
              clear s0 s1 s2 s3 r0 r1 r2 r3 z0 z1 z2 z3 b0 b1 b2 b3
              have HW6 := Lib.hid (HW5.out.below hb6)
              clear hb6
              have s0 := HW6.out.sb.cell 0
              have s1 := HW6.out.sb.cell 1
              have s2 := HW6.out.sb.cell 2
              have s3 := HW6.out.sb.cell 3
              have z0 := HW6.out.sb.frozen 0
              have z1 := HW6.out.sb.frozen 1
              have z2 := HW6.out.sb.frozen 2
              have z3 := HW6.out.sb.frozen 3
              unfold costV
              gi_wp2
              have e1 : ((k + 1 : Nat) : Int) = (k : Int) + 1 := by omega
              have hkl : k < l.length := by rw [HLl.out]; exact hlt
              refine ⟨⟨k + 1, v, addC co cx, by omega, by rw [e1], rfl, Lib.hid ⟨HW6.out.put (addC co cx), ?_, ?_⟩⟩, ?_⟩
              · have h := HS.out.2.1.snoc HXM.out HLD.out
                rw [List.take_add_one, HID.out, ← HXI.out]
                exact h
              · rw [HDR.out, HLD.out]
              · simp [intOf]; omega
      · obtain rfl : k = k2 := by omega
        have HNO : Hid (pairW t p (place, zeroC) l = (some (at_, co), co)) := Lib.hid (by
          rw [← HS.out.2.2, List.drop_of_length_le (by rw [HLl.out]; exact Nat.le_refl _)]
          rfl)
        gi_wp2
        gi_region
        all_goals
          gi_wp2
          have R4 := ret4 (w := w) HS.out.1.rb (HS.out.1.bel) (by omega) (.int .i64 co.a) (.int .i64 co.b) (.int .i64 co.c) (.int .i64 co.d)
          have y0 := R4.1.cell 0
          have y1 := R4.1.cell 1
          have y2 := R4.1.cell 2
          have y3 := R4.1.cell 3
          refine bodyPost_ret (v := .tuple #[.int .i64 at_, costV co, .bool true]) (by simp [results, Tryd.results54, go_sem, y0, y1, y2, y3]) rfl ?_
          rw [HWF.out, HNO.out]
          exact ⟨at_, co, rfl, (fun q hq => by first | cases hq; rfl | cases hq), below_drewN R4.2 1, rfl, fun h => by cases h⟩

theorem rwalked_any (A : Option Addr) (n c : Nat) (A' : Option Addr) (m d : Nat) (p : Price) (t : Town) (place : Int) (A2 : Option Addr) (k2 c2 : Nat) (l : List Int) (w : World)
    (hm : m ≤ 1000) (hk2 : k2 ≤ 1000) (ht : LinksAt w w.heap.size A' m t.links) (hp : Cheap p) (hfine : Fine t) (hfair : Fair p) (hr : IntsAt w w.heap.size A2 k2 l) :
    Calls Tryd.prog 54 #[.agg #[.slice A n c, .slice A' m d], .int .i64 place, .slice A2 k2 c2, .agg #[.int .i64 p.pace, .int .i64 p.up, .int .i64 p.step]] w (RWalkedOut w (walkedF t p place l, partF t p place l)) :=
  callsIn_wide.1 (rwalked_in A n c A' m d p t place A2 k2 c2 l w hm hk2 ht hp hfine hfair hr)
end Go.Proofs.YtahkjagjcogeiaaDoor
/- The answer's spans, skins and gaits. -/
namespace Go.Proofs.YtahkjagjcogeiaaDoor
open Go.RowKit
set_option linter.unusedVariables false

theorem inB_span (most : Int) (x : Span) : (inB 0 most [x.hi] && inB 0 x.hi [x.lo]) = spanB most x := by
  unfold spanB inB
  simp only [List.any_cons, List.any_nil, Bool.or_false]
  by_cases h1 : x.hi < 0 <;> by_cases h2 : most < x.hi <;> by_cases h3 : x.lo < 0 <;> by_cases h4 : x.hi < x.lo <;> simp [h1, h2, h3, h4] <;> omega

set_option maxRecDepth 100000 in
set_option maxHeartbeats 2000000 in
theorem rspanned_any (x : Span) (most : Int) (w : World) :
    Calls Tryd.prog 111 #[.agg #[.int .i64 x.lo, .int .i64 x.hi], .int .i64 most] w fun e w' => e = .returned (.bool (spanB most x)) ∧ Below w.heap.size w w' := by
  have HS := Lib.hid (inB_span most x)
  have B0 : Below w.heap.size w (w.alloc (.cells #[.int .i64 x.lo, .int .i64 x.hi] 27)) := (Below.refl _ _).alloc (Nat.le_refl _) _
  go_enter Tryd.func111, Tryd.ntmps111
  go_wp2_with fail
  refine (within_any x.hi 0 most _).mono ?_
  rintro e w1 ⟨rfl, rfl⟩
  cases hi : inB 0 most [x.hi] with
  | false =>
    have HI := Lib.hid hi
    clear hi
    go_wp2_with fail
    go_ret
    exact ⟨ret_bool (by rw [← HS.out, HI.out]; rfl), B0⟩
  | true =>
    have HI := Lib.hid hi
    clear hi
    go_wp2_with fail
    refine (within_any x.lo 0 x.hi _).mono ?_
    rintro e w1 ⟨rfl, rfl⟩
    go_wp2_with fail
    go_ret
    exact ⟨ret_bool (by rw [← HS.out, HI.out]; rfl), B0⟩

set_option maxRecDepth 100000 in
set_option maxHeartbeats 2000000 in
theorem rskin_any (s : Skin) (w : World) :
    Calls Tryd.prog 53 #[.agg #[.int .i64 s.drops, .int .i64 s.pace.lo, .int .i64 s.pace.hi, .int .i64 s.step.lo, .int .i64 s.step.hi]] w fun e w' => e = .returned (.bool (skinB s)) ∧ Below w.heap.size w w' := by
  have hs : skinB s = (inB 0 100000 [s.drops] && (spanB 50 s.pace && spanB 50 s.step)) := by
    unfold skinB spansB
    simp [Bool.not_or]
  have HS := Lib.hid hs
  clear hs
  go_enter Tryd.func53, Tryd.ntmps53
  go_wp2_with fail
  refine (within_any s.drops 0 100000 _).mono ?_
  rintro e w1 ⟨rfl, rfl⟩
  have B0 : Below w.heap.size w (w.alloc (.cells #[.int .i64 s.drops, .int .i64 s.pace.lo, .int .i64 s.pace.hi, .int .i64 s.step.lo, .int .i64 s.step.hi] 29)) := (Below.refl _ _).alloc (Nat.le_refl _) _
  have X0 := Blk.new w 29 #[.int .i64 s.drops, .int .i64 s.pace.lo, .int .i64 s.pace.hi, .int .i64 s.step.lo, .int .i64 s.step.hi]
  cases hi : inB 0 100000 [s.drops] with
  | false =>
    have HI := Lib.hid hi
    clear hi
    go_wp2_with fail
    go_ret
    exact ⟨ret_bool (by rw [HS.out, HI.out]; rfl), B0⟩
  | true =>
    have HI := Lib.hid hi
    clear hi
    go_wp2_with fail
    refine (rspanned_any s.pace 50 _).mono ?_
    rintro e w1 ⟨rfl, hb1⟩
    have X1 := X0.below hb1 X0.lt
    have B1 := B0.trans (hb1.mono B0.size)
    have x3 := X1.cell 3
    have x4 := X1.cell 4
    clear X0 hb1 B0 X1
    cases hj : spanB 50 s.pace with
    | false =>
      have HJ := Lib.hid hj
      clear hj
      go_wp2_with fail
      go_ret
      exact ⟨ret_bool (by rw [HS.out, HI.out, HJ.out]; rfl), B1⟩
    | true =>
      have HJ := Lib.hid hj
      clear hj
      go_wp2_with fail
      refine (rspanned_any s.step 50 _).mono ?_
      rintro e w2 ⟨rfl, hb2⟩
      have B2 := B1.trans (hb2.mono B1.size)
      clear hb2
      go_wp2_with fail
      go_ret
      exact ⟨ret_bool (by rw [HS.out, HI.out, HJ.out]; rfl), B2⟩

set_option maxRecDepth 100000 in
set_option maxHeartbeats 2000000 in
theorem rgait_any (s : Gait) (w : World) :
    Calls Tryd.prog 85 #[.agg #[.int .i64 s.pace.lo, .int .i64 s.pace.hi, .int .i64 s.step.lo, .int .i64 s.step.hi]] w fun e w' => e = .returned (.bool (gaitB s)) ∧ Below w.heap.size w w' := by
  have hs : gaitB s = (spanB 20 s.pace && spanB 20 s.step) := by
    unfold gaitB spansB
    simp [Bool.not_or]
  have HS := Lib.hid hs
  clear hs
  go_enter Tryd.func85, Tryd.ntmps85
  go_wp2_with fail
  have B0 : Below w.heap.size w (w.alloc (.cells #[.int .i64 s.pace.lo, .int .i64 s.pace.hi, .int .i64 s.step.lo, .int .i64 s.step.hi] 66)) := (Below.refl _ _).alloc (Nat.le_refl _) _
  have X0 := Blk.new w 66 #[.int .i64 s.pace.lo, .int .i64 s.pace.hi, .int .i64 s.step.lo, .int .i64 s.step.hi]
  refine (rspanned_any s.pace 20 _).mono ?_
  rintro e w1 ⟨rfl, hb1⟩
  have X1 := X0.below hb1 X0.lt
  have B1 := B0.trans (hb1.mono B0.size)
  have x2 := X1.cell 2
  have x3 := X1.cell 3
  clear X0 hb1 B0 X1
  cases hj : spanB 20 s.pace with
  | false =>
    have HJ := Lib.hid hj
    clear hj
    go_wp2_with fail
    go_ret
    exact ⟨ret_bool (by rw [HS.out, HJ.out]; rfl), B1⟩
  | true =>
    have HJ := Lib.hid hj
    clear hj
    go_wp2_with fail
    refine (rspanned_any s.step 20 _).mono ?_
    rintro e w2 ⟨rfl, hb2⟩
    have B2 := B1.trans (hb2.mono B1.size)
    clear hb2
    go_wp2_with fail
    go_ret
    exact ⟨ret_bool (by rw [HS.out, HJ.out]; rfl), B2⟩

set_option maxRecDepth 100000 in
set_option maxHeartbeats 2000000 in
theorem lost_any (pace step : Int) (w : World) :
    Calls Tryd.prog 55 #[.int .i64 pace, .int .i64 step] w fun e w' => e = .returned (.agg #[.int .i64 pace, .int .i64 0, .int .i64 step]) ∧ Below w.heap.size w w' := by
  go_enter Tryd.func55, Tryd.ntmps55
  go_wp2_with fail
  exact bodyPost_ret (v := .agg #[.int .i64 pace, .int .i64 0, .int .i64 step]) (by simp [results, Tryd.results55, go_sem]) rfl ⟨rfl, (Below.refl _ _).alloc (Nat.le_refl _) _⟩
end Go.Proofs.YtahkjagjcogeiaaDoor
/- The answer's asked. -/
namespace Go.Proofs.YtahkjagjcogeiaaDoor
open Go.RowKit
set_option linter.unusedVariables false

theorem hasB_two (t : Town) (x y : Int) : hasB t [x, y] = (memI t.places x && memI t.places y) := by
  unfold hasB
  simp [Bool.not_or]

set_option maxRecDepth 100000 in
set_option maxHeartbeats 2000000 in
theorem rasked_any (A : Option Addr) (n c : Nat) (A' : Option Addr) (m d : Nat) (t : Town) (x y : Int) (w : World) (hn : n ≤ 1000) (hm : m ≤ 1000) (ht : TownAt w w.heap.size A n A' m t) :
    Calls Tryd.prog 52 #[.agg #[.slice A n c, .slice A' m d], .int .i64 x, .int .i64 y] w fun e w' => e = .returned (.int .i64 (askE t [x, y])) ∧ Below w.heap.size w w' := by
  have HT := Lib.hid ht
  have HXY := Lib.hid (hasB_two t x y)
  have hn' : n ≤ maxLen := by unfold maxLen; omega
  clear ht
  go_enter Tryd.func52, Tryd.ntmps52
  go_wp2_with fail
  have X0 := Blk.new w 25 #[.slice A n c, .slice A' m d]
  have B0 : Below w.heap.size w (w.alloc (.cells #[.slice A n c, .slice A' m d] 25)) := (Below.refl _ _).alloc (Nat.le_refl _) _
  generalize (w.alloc (.cells #[.slice A n c, .slice A' m d] 25)) = w0 at *
  refine (rtown_any A n c A' m d t w0 hn hm ((HT.out.below B0).more B0.size)).mono ?_
  rintro e w1 ⟨rfl, hb1⟩
  have X1 := X0.below hb1 X0.lt
  have B1 := B0.trans (hb1.mono B0.size)
  have x0 := X1.cell 0
  have x1 := X1.cell 1
  have HX1 := Lib.hid X1
  clear X0 B0 hb1 X1
  cases ht : townB t with
  | false =>
    have HTB := Lib.hid ht
    clear ht
    go_wp2_with fail
    go_ret
    exact ⟨ret_int (by unfold askE; rw [HTB.out]; rfl), B1⟩
  | true =>
    have HTB := Lib.hid ht
    clear ht
    go_wp2_with fail
    refine (place_any A n c A' m d t x w1 hn' ((HT.out.below B1).more B1.size).places).mono ?_
    rintro e w2 ⟨rfl, hb2⟩
    have B2 := B1.trans (hb2.mono B1.size)
    have X2 := HX1.out.below hb2 HX1.out.lt
    have y0 := X2.cell 0
    have y1 := X2.cell 1
    clear X2 hb2 x0 x1
    cases hmx : memI t.places x with
    | false =>
      have hlt := placeI_no hmx
      have HM := Lib.hid hmx
      clear hmx
      go_wp2_with fail
      go_ret
      exact ⟨ret_int (by unfold askE; rw [HTB.out, HXY.out, HM.out]; rfl), B2⟩
    | true =>
      have hge := placeI_yes hmx
      have HM := Lib.hid hmx
      clear hmx
      go_wp2_with fail
      refine (place_any A n c A' m d t y w2 hn' ((HT.out.below B2).more B2.size).places).mono ?_
      rintro e w3 ⟨rfl, hb3⟩
      have B3 := B2.trans (hb3.mono B2.size)
      clear hb3 y0 y1
      cases hmy : memI t.places y with
      | false =>
        have hlt := placeI_no hmy
        have HMY := Lib.hid hmy
        clear hmy
        go_wp2_with fail
        go_ret
        exact ⟨ret_int (by unfold askE; rw [HTB.out, HXY.out, HM.out, HMY.out]; rfl), B3⟩
      | true =>
        have hge2 := placeI_yes hmy
        have HMY := Lib.hid hmy
        clear hmy
        go_wp2_with fail
        go_ret
        exact ⟨ret_int (by unfold askE; rw [HTB.out, HXY.out, HM.out, HMY.out]; rfl), B3⟩
end Go.Proofs.YtahkjagjcogeiaaDoor
/- The answer's End: what a skin holds at the end of a walk. -/
namespace Go.Proofs.YtahkjagjcogeiaaDoor
open Go.RowKit Go.Shelf
set_option linter.unusedVariables false

theorem askE_same (t : Town) (x : Int) : askE t [x, x] = askE t [x] := by
  unfold askE hasB
  simp

set_option maxRecDepth 100000 in
set_option maxHeartbeats 16000000 in
theorem rend_in (A : Option Addr) (n c : Nat) (A' : Option Addr) (m d : Nat) (t : Town) (s : Skin) (place : Int) (A2 : Option Addr) (k2 c2 : Nat) (l : List Int) (w : World)
    (hn : n ≤ 1000) (hm : m ≤ 1000) (hk2 : k2 ≤ 1000) (ht : TownAt w w.heap.size A n A' m t) (hr : IntsAt w w.heap.size A2 k2 l) :
    CallsIn Fence.wide 9 Tryd.prog 12 #[.agg #[.slice A n c, .slice A' m d], .agg #[.int .i64 s.drops, .int .i64 s.pace.lo, .int .i64 s.pace.hi, .int .i64 s.step.lo, .int .i64 s.step.hi], .int .i64 place, .slice A2 k2 c2] w (EndOut w (endV t s place l) (endE t s place l)) := by
  have HT := Lib.hid ht
  have HR := Lib.hid hr
  have HA2 := Lib.hid (askE_same t place)
  clear ht hr
  refine callsIn_of_wp Tryd.func12 rfl trivial ?_ rfl
  simp only [Tryd.ntmps12, List.size_toArray, List.length_cons, List.length_nil, Nat.reduceAdd, Nat.reduceSub, Array.replicate_succ, Array.replicate_zero, List.push_toArray, List.append_toArray, List.nil_append, List.cons_append]
  gi_wp2
  have HLay := Lib.hid (Lay.three w 25 #[.slice A n c, .slice A' m d] 29 #[.int .i64 s.drops, .int .i64 s.pace.lo, .int .i64 s.pace.hi, .int .i64 s.step.lo, .int .i64 s.step.hi] 27 #[.int .i64 0, .int .i64 0])
  generalize (((w.alloc (.cells #[.slice A n c, .slice A' m d] 25)).alloc (.cells #[.int .i64 s.drops, .int .i64 s.pace.lo, .int .i64 s.pace.hi, .int .i64 s.step.lo, .int .i64 s.step.hi] 29)).alloc (.cells #[.int .i64 0, .int .i64 0] 27)) = w0 at *
  refine ⟨trivial, (callsIn_wide.2 (rasked_any A n c A' m d t place place w0 hn hm ((HT.out.below HLay.out.1).more HLay.out.1.size))).mono ?_⟩
  rintro e W1 ⟨rfl, hb⟩
  replace HLay := Lib.hid (HLay.out.below hb)
  clear hb
  rw [HA2.out]
  obtain ⟨ea, hea⟩ : ∃ ea, askE t [place] = ea := ⟨_, rfl⟩
  rw [hea]
  have HEA := Lib.hid hea
  clear hea
  have x0_0 := (HLay.out.blk 0 rfl).cell 0
  have x0_1 := (HLay.out.blk 0 rfl).cell 1
  have l0_ := HLay.out.lt 0 rfl
  have x1_0 := (HLay.out.blk 1 rfl).cell 0
  have x1_1 := (HLay.out.blk 1 rfl).cell 1
  have x1_2 := (HLay.out.blk 1 rfl).cell 2
  have x1_3 := (HLay.out.blk 1 rfl).cell 3
  have x1_4 := (HLay.out.blk 1 rfl).cell 4
  have l1_ := HLay.out.lt 1 rfl
  have x2_0 := (HLay.out.blk 2 rfl).cell 0
  have z2_0 := (HLay.out.blk 2 rfl).frozen 0
  have x2_1 := (HLay.out.blk 2 rfl).cell 1
  have z2_1 := (HLay.out.blk 2 rfl).frozen 1
  have l2_ := HLay.out.lt 2 rfl
  by_cases h0 : ea = 0
  · subst h0
    obtain ⟨htb, hhas⟩ := askE_zero HEA.out
    have HG := Lib.hid (goodT htb)
    have hm20 : m ≤ 20 := by have := HG.out.links; have := HT.out.links.len; omega
    clear htb hhas
    gi_wp2
    refine ⟨trivial, (callsIn_wide.2 (rskin_any s W1)).mono ?_⟩
    rintro e W2 ⟨rfl, hb⟩
    replace HLay := Lib.hid (HLay.out.below hb)
    clear hb
    clear x0_0 x0_1 l0_ x1_0 x1_1 x1_2 x1_3 x1_4 l1_ x2_0 z2_0 x2_1 z2_1 l2_
    have x0_0 := (HLay.out.blk 0 rfl).cell 0
    have x0_1 := (HLay.out.blk 0 rfl).cell 1
    have l0_ := HLay.out.lt 0 rfl
    have x1_0 := (HLay.out.blk 1 rfl).cell 0
    have x1_1 := (HLay.out.blk 1 rfl).cell 1
    have x1_2 := (HLay.out.blk 1 rfl).cell 2
    have x1_3 := (HLay.out.blk 1 rfl).cell 3
    have x1_4 := (HLay.out.blk 1 rfl).cell 4
    have l1_ := HLay.out.lt 1 rfl
    have x2_0 := (HLay.out.blk 2 rfl).cell 0
    have z2_0 := (HLay.out.blk 2 rfl).frozen 0
    have x2_1 := (HLay.out.blk 2 rfl).cell 1
    have z2_1 := (HLay.out.blk 2 rfl).frozen 1
    have l2_ := HLay.out.lt 2 rfl
    cases hs : skinB s with
    | false =>
      have HS := Lib.hid hs
      clear hs
      gi_wp2
      have R1 := ret2 (HLay.out.blk 2 rfl) HLay.out.1 (by omega) (.int .i64 0) (.int .i64 0)
      have y0 := R1.1.cell 0
      have y1 := R1.1.cell 1
      have he : endE t s place l = 36 := by unfold endE dryE or2; rw [HEA.out, HS.out]; rfl
      have hv : endV t s place l = ⟨0, 0⟩ := by unfold endV; rw [he]; rfl
      exact bodyPost_ret (v := .tuple #[.agg #[.int .i64 0, .int .i64 0], .int .i64 36]) (by simp [results, Tryd.results12, go_sem, y0, y1]) rfl ⟨by rw [he, hv], R1.2⟩
    | true =>
      have HGS := Lib.hid (goodS hs)
      have HSK := Lib.hid (show dryE s = 0 by unfold dryE; rw [hs]; rfl)
      clear hs
      gi_wp2
      have HF1 := Lib.hid (lossP_fair (a := s.pace.lo) (b := s.step.lo) HGS.out.pace.1 HGS.out.step.1)
      have HF2 := Lib.hid (lossP_fair (a := s.pace.hi) (b := s.step.hi) HGS.out.pace.2.1 HGS.out.step.2.1)
      have HC1 := Lib.hid (lossP_cheap (a := s.pace.lo) (b := s.step.lo) HGS.out.pace.1 HGS.out.step.1)
      have HC2 := Lib.hid (lossP_cheap (a := s.pace.hi) (b := s.step.hi) HGS.out.pace.2.1 HGS.out.step.2.1)
      have HS1 := Lib.hid (walkedF_isSome t (lossP s.pace.lo s.step.lo) ⟨0, 0, 0⟩ place l)
      have HS2 := Lib.hid (walkedF_isSome t (lossP s.pace.hi s.step.hi) ⟨0, 0, 0⟩ place l)
      clear x0_0 x0_1 l0_ x1_0 x1_1 x1_2 x1_3 x1_4 l1_ x2_0 z2_0 x2_1 z2_1 l2_
      have HLay1 := Lib.hid HLay.out
      refine wpIn_flow_new [([true, true, true, true, true, true, true, true, true], 9), ([], 10)] [false, false, false, false, false, false, false, false, false, false, false, true, true, true, true, false, true, false, true] [false, false, false, false, false, false, false, false, false, false, false, false, false, false, false, false, false, true] 15 (fun b => .pointer (some ⟨b, 0, none⟩)) 103 #[.int .i64 0, .int .i64 0, .int .i64 0, .int .i64 0] (by kernel_rfl) (by kernel_rfl) (by kernel_rfl) (below_drewN (Below.refl _ _) 1) rfl rfl rfl (fun _ _ => rfl) (fun _ _ => rfl) ?_
      refine wpFlow_cons (A := ?AF1) rfl ?hq1 ?_
      case hq1 =>
        rintro σ hσ of hof hcl
        have HOF := Lib.hid hof
        have HCL := Lib.hid hcl
        clear hof hcl
        have c0_ : ∀ z, (of z).cell? ⟨w.heap.size, 0, none⟩ = some (.slice A n c) := fun z => ((HLay.out.below (HOF.out z)).blk 0 rfl).cell 0
        have c1_ : ∀ z, (of z).cell? ⟨w.heap.size, 1, none⟩ = some (.slice A' m d) := fun z => ((HLay.out.below (HOF.out z)).blk 0 rfl).cell 1
        have c2_ : ∀ z, (of z).cell? ⟨w.heap.size + 1, 0, none⟩ = some (.int .i64 s.drops) := fun z => ((HLay.out.below (HOF.out z)).blk 1 rfl).cell 0
        have c3_ : ∀ z, (of z).cell? ⟨w.heap.size + 1, 1, none⟩ = some (.int .i64 s.pace.lo) := fun z => ((HLay.out.below (HOF.out z)).blk 1 rfl).cell 1
        have c4_ : ∀ z, (of z).cell? ⟨w.heap.size + 1, 2, none⟩ = some (.int .i64 s.pace.hi) := fun z => ((HLay.out.below (HOF.out z)).blk 1 rfl).cell 2
        have c5_ : ∀ z, (of z).cell? ⟨w.heap.size + 1, 3, none⟩ = some (.int .i64 s.step.lo) := fun z => ((HLay.out.below (HOF.out z)).blk 1 rfl).cell 3
        have c6_ : ∀ z, (of z).cell? ⟨w.heap.size + 1, 4, none⟩ = some (.int .i64 s.step.hi) := fun z => ((HLay.out.below (HOF.out z)).blk 1 rfl).cell 4
        have hfw : ∀ f, Fence.wide.fn f := fun _ => trivial
        simp only [pickB]
        repeat (gi_big_quiet_step (fail))
        refine wpQuietIn_nil ?_
        exact rfl
      intro W3 hW
      replace HLay := Lib.hid (HLay.out.below hW)
      clear hW
      gi_wp2
      refine ⟨trivial, (callsIn_wide.2 (lost_any s.pace.lo s.step.lo W3)).mono ?_⟩
      rintro e W4 ⟨rfl, hb⟩
      replace HLay := Lib.hid (HLay.out.below hb)
      gi_wp2
      refine ⟨trivial, hb, ?_⟩
      clear hb
      refine wpFlow_cons rfl Quietly.none ?_
      intro W5 hW
      replace HLay := Lib.hid (HLay.out.below hW)
      clear hW
      gi_wp2
      refine ⟨trivial, (callsIn_wide.2 (rwalked_any A n c A' m d (lossP s.pace.lo s.step.lo) t place A2 k2 c2 l W5 hm hk2 ((HT.out.links.below HLay.out.1).more HLay.out.1.size) HC1.out HG.out.fine HF1.out ((HR.out.below HLay.out.1).more HLay.out.1.size))).mono ?_⟩
      rintro e W6 ⟨x1, co1, rfl, hq1, hb, hco1, _⟩
      replace HLay := Lib.hid (HLay.out.below hb)
      have HQ1 := Lib.hid hq1
      clear hq1 hco1
      gi_wp2
      refine ⟨trivial, hb, ?_⟩
      clear hb
      obtain ⟨is1, his1⟩ : ∃ b, (walkedF t (lossP s.pace.lo s.step.lo) place l).isSome = b := ⟨_, rfl⟩
      have hisx : (walkedF t (lossP s.pace.lo s.step.lo) place l, partF t (lossP s.pace.lo s.step.lo) place l).1.isSome = is1 := his1
      rw [hisx]
      have HIS1 := Lib.hid his1
      clear his1 hisx
      refine wpFlow_nil (A := ?AF2) ?hq2 ?_
      case hq2 =>
        rintro σ hσ of hof hcl
        have HOF := Lib.hid hof
        have HCL := Lib.hid hcl
        clear hof hcl
        have c0_ : ∀ z, (of z).cell? ⟨w.heap.size, 0, none⟩ = some (.slice A n c) := fun z => ((HLay.out.below (HOF.out z)).blk 0 rfl).cell 0
        have c1_ : ∀ z, (of z).cell? ⟨w.heap.size, 1, none⟩ = some (.slice A' m d) := fun z => ((HLay.out.below (HOF.out z)).blk 0 rfl).cell 1
        have c2_ : ∀ z, (of z).cell? ⟨w.heap.size + 1, 0, none⟩ = some (.int .i64 s.drops) := fun z => ((HLay.out.below (HOF.out z)).blk 1 rfl).cell 0
        have c3_ : ∀ z, (of z).cell? ⟨w.heap.size + 1, 1, none⟩ = some (.int .i64 s.pace.lo) := fun z => ((HLay.out.below (HOF.out z)).blk 1 rfl).cell 1
        have c4_ : ∀ z, (of z).cell? ⟨w.heap.size + 1, 2, none⟩ = some (.int .i64 s.pace.hi) := fun z => ((HLay.out.below (HOF.out z)).blk 1 rfl).cell 2
        have c5_ : ∀ z, (of z).cell? ⟨w.heap.size + 1, 3, none⟩ = some (.int .i64 s.step.lo) := fun z => ((HLay.out.below (HOF.out z)).blk 1 rfl).cell 3
        have c6_ : ∀ z, (of z).cell? ⟨w.heap.size + 1, 4, none⟩ = some (.int .i64 s.step.hi) := fun z => ((HLay.out.below (HOF.out z)).blk 1 rfl).cell 4
        have hfw : ∀ f, Fence.wide.fn f := fun _ => trivial
        simp only [pickB]
        repeat (gi_big_quiet_step (fail))
        refine wpQuietIn_nil ?_
        exact rfl
      intro G1 W7 hW hbg hbb hbi
      replace HLay := Lib.hid (HLay.out.below hW)
      have c0 := hbb.cell 0
      have z0 := hbb.frozen 0
      have c1 := hbb.cell 1
      have z1 := hbb.frozen 1
      have c2 := hbb.cell 2
      have z2 := hbb.frozen 2
      have c3 := hbb.cell 3
      have z3 := hbb.frozen 3
      have hbl := hbb.lt
      have hbw : w.heap.size ≤ G1 := Nat.le_trans HLay1.out.1.size hbg
      simp only [pickB]
      refine wpT_cons ?_
      gi_wp2
      refine wpT_nil ?_
      have R4 := ret4 hbb (Below.refl G1 W7) (Nat.le_refl _) (.int .i64 co1.a) (.int .i64 co1.b) (.int .i64 co1.c) (.int .i64 co1.d)
      replace HLay := Lib.hid (Lay.add (w := w) (bs := [(w.heap.size, 25, #[.slice A n c, .slice A' m d]), (w.heap.size + 1, 29, #[.int .i64 s.drops, .int .i64 s.pace.lo, .int .i64 s.pace.hi, .int .i64 s.step.lo, .int .i64 s.step.hi]), (w.heap.size + 1 + 1, 27, #[.int .i64 0, .int .i64 0])]) ⟨HLay.out.1.trans (R4.2.mono hbw), fun p hp => ⟨(HLay.out.2 p hp).1, (HLay.out.2 p hp).2.below R4.2 (by have := (HLay1.out.2 p hp).2.lt; omega)⟩⟩ hbw R4.1)
      generalize ((((W7.setCell ⟨G1, 0, none⟩ (.int .i64 co1.a)).setCell ⟨G1, 1, none⟩ (.int .i64 co1.b)).setCell ⟨G1, 2, none⟩ (.int .i64 co1.c)).setCell ⟨G1, 3, none⟩ (.int .i64 co1.d)) = W8 at *
      clear c0 z0 c1 z1 c2 z2 c3 z3 hbl hbb hW hbg R4 hbw hbi HLay1
      have x0_0 := (HLay.out.blk 0 rfl).cell 0
      have x0_1 := (HLay.out.blk 0 rfl).cell 1
      have l0_ := HLay.out.lt 0 rfl
      have x1_0 := (HLay.out.blk 1 rfl).cell 0
      have x1_1 := (HLay.out.blk 1 rfl).cell 1
      have x1_2 := (HLay.out.blk 1 rfl).cell 2
      have x1_3 := (HLay.out.blk 1 rfl).cell 3
      have x1_4 := (HLay.out.blk 1 rfl).cell 4
      have l1_ := HLay.out.lt 1 rfl
      have x2_0 := (HLay.out.blk 2 rfl).cell 0
      have z2_0 := (HLay.out.blk 2 rfl).frozen 0
      have x2_1 := (HLay.out.blk 2 rfl).cell 1
      have z2_1 := (HLay.out.blk 2 rfl).frozen 1
      have l2_ := HLay.out.lt 2 rfl
      have x3_0 := (HLay.out.blk 3 rfl).cell 0
      have x3_1 := (HLay.out.blk 3 rfl).cell 1
      have x3_2 := (HLay.out.blk 3 rfl).cell 2
      have x3_3 := (HLay.out.blk 3 rfl).cell 3
      have l3_ := HLay.out.lt 3 rfl
      cases is1 with
      | false =>
        gi_wp2
        have R1 := ret2 (HLay.out.blk 2 rfl) HLay.out.1 (by omega) (.int .i64 0) (.int .i64 0)
        have y0 := R1.1.cell 0
        have y1 := R1.1.cell 1
        have he : endE t s place l = 32 := by unfold endE betE or2; rw [HEA.out, HSK.out, ← HS1.out, HIS1.out]; rfl
        have hv : endV t s place l = ⟨0, 0⟩ := by unfold endV; rw [he]; rfl
        exact bodyPost_ret (v := .tuple #[.agg #[.int .i64 0, .int .i64 0], .int .i64 32]) (by simp [results, Tryd.results12, go_sem, y0, y1]) rfl ⟨by rw [he, hv], R1.2⟩
      | true =>
        gi_wp2
        clear x0_0 x0_1 l0_ x1_0 x1_1 x1_2 x1_3 x1_4 l1_ x2_0 z2_0 x2_1 z2_1 l2_ x3_0 x3_1 x3_2 x3_3 l3_
        have HLay2 := Lib.hid HLay.out
        refine wpIn_flow_new [([true, true, true, true, true, true, true, true, true], 9), ([], 10)] [false, false, false, false, false, false, false, false, false, false, false, true, true, true, true, false, true, false, true] [false, false, false, false, false, false, false, false, false, false, false, false, false, false, false, false, false, true] 15 (fun b => .pointer (some ⟨b, 0, none⟩)) 103 #[.int .i64 0, .int .i64 0, .int .i64 0, .int .i64 0] (by kernel_rfl) (by kernel_rfl) (by kernel_rfl) (below_drewN (Below.refl _ _) 1) rfl rfl rfl (fun _ _ => rfl) (fun _ _ => rfl) ?_
        refine wpFlow_cons (A := ?AF3) rfl ?hq3 ?_
        case hq3 =>
          rintro σ hσ of hof hcl
          have HOF := Lib.hid hof
          have HCL := Lib.hid hcl
          clear hof hcl
          have c0_ : ∀ z, (of z).cell? ⟨w.heap.size, 0, none⟩ = some (.slice A n c) := fun z => ((HLay.out.below (HOF.out z)).blk 0 rfl).cell 0
          have c1_ : ∀ z, (of z).cell? ⟨w.heap.size, 1, none⟩ = some (.slice A' m d) := fun z => ((HLay.out.below (HOF.out z)).blk 0 rfl).cell 1
          have c2_ : ∀ z, (of z).cell? ⟨w.heap.size + 1, 0, none⟩ = some (.int .i64 s.drops) := fun z => ((HLay.out.below (HOF.out z)).blk 1 rfl).cell 0
          have c3_ : ∀ z, (of z).cell? ⟨w.heap.size + 1, 1, none⟩ = some (.int .i64 s.pace.lo) := fun z => ((HLay.out.below (HOF.out z)).blk 1 rfl).cell 1
          have c4_ : ∀ z, (of z).cell? ⟨w.heap.size + 1, 2, none⟩ = some (.int .i64 s.pace.hi) := fun z => ((HLay.out.below (HOF.out z)).blk 1 rfl).cell 2
          have c5_ : ∀ z, (of z).cell? ⟨w.heap.size + 1, 3, none⟩ = some (.int .i64 s.step.lo) := fun z => ((HLay.out.below (HOF.out z)).blk 1 rfl).cell 3
          have c6_ : ∀ z, (of z).cell? ⟨w.heap.size + 1, 4, none⟩ = some (.int .i64 s.step.hi) := fun z => ((HLay.out.below (HOF.out z)).blk 1 rfl).cell 4
          have hfw : ∀ f, Fence.wide.fn f := fun _ => trivial
          simp only [pickB]
          repeat (gi_big_quiet_step (fail))
          refine wpQuietIn_nil ?_
          exact rfl
        intro W9 hW
        replace HLay := Lib.hid (HLay.out.below hW)
        clear hW
        gi_wp2
        refine ⟨trivial, (callsIn_wide.2 (lost_any s.pace.hi s.step.hi W9)).mono ?_⟩
        rintro e W10 ⟨rfl, hb⟩
        replace HLay := Lib.hid (HLay.out.below hb)
        gi_wp2
        refine ⟨trivial, hb, ?_⟩
        clear hb
        refine wpFlow_cons rfl Quietly.none ?_
        intro W11 hW
        replace HLay := Lib.hid (HLay.out.below hW)
        clear hW
        gi_wp2
        refine ⟨trivial, (callsIn_wide.2 (rwalked_any A n c A' m d (lossP s.pace.hi s.step.hi) t place A2 k2 c2 l W11 hm hk2 ((HT.out.links.below HLay.out.1).more HLay.out.1.size) HC2.out HG.out.fine HF2.out ((HR.out.below HLay.out.1).more HLay.out.1.size))).mono ?_⟩
        rintro e W12 ⟨x2, co2, rfl, hq2, hb, hco2, _⟩
        replace HLay := Lib.hid (HLay.out.below hb)
        have HQ2 := Lib.hid hq2
        clear hq2 hco2
        gi_wp2
        refine ⟨trivial, hb, ?_⟩
        clear hb
        obtain ⟨is2, his2⟩ : ∃ b, (walkedF t (lossP s.pace.hi s.step.hi) place l).isSome = b := ⟨_, rfl⟩
        have hisx : (walkedF t (lossP s.pace.hi s.step.hi) place l, partF t (lossP s.pace.hi s.step.hi) place l).1.isSome = is2 := his2
        rw [hisx]
        have HIS2 := Lib.hid his2
        clear his2 hisx
        refine wpFlow_nil (A := ?AF4) ?hq4 ?_
        case hq4 =>
          rintro σ hσ of hof hcl
          have HOF := Lib.hid hof
          have HCL := Lib.hid hcl
          clear hof hcl
          have c0_ : ∀ z, (of z).cell? ⟨w.heap.size, 0, none⟩ = some (.slice A n c) := fun z => ((HLay.out.below (HOF.out z)).blk 0 rfl).cell 0
          have c1_ : ∀ z, (of z).cell? ⟨w.heap.size, 1, none⟩ = some (.slice A' m d) := fun z => ((HLay.out.below (HOF.out z)).blk 0 rfl).cell 1
          have c2_ : ∀ z, (of z).cell? ⟨w.heap.size + 1, 0, none⟩ = some (.int .i64 s.drops) := fun z => ((HLay.out.below (HOF.out z)).blk 1 rfl).cell 0
          have c3_ : ∀ z, (of z).cell? ⟨w.heap.size + 1, 1, none⟩ = some (.int .i64 s.pace.lo) := fun z => ((HLay.out.below (HOF.out z)).blk 1 rfl).cell 1
          have c4_ : ∀ z, (of z).cell? ⟨w.heap.size + 1, 2, none⟩ = some (.int .i64 s.pace.hi) := fun z => ((HLay.out.below (HOF.out z)).blk 1 rfl).cell 2
          have c5_ : ∀ z, (of z).cell? ⟨w.heap.size + 1, 3, none⟩ = some (.int .i64 s.step.lo) := fun z => ((HLay.out.below (HOF.out z)).blk 1 rfl).cell 3
          have c6_ : ∀ z, (of z).cell? ⟨w.heap.size + 1, 4, none⟩ = some (.int .i64 s.step.hi) := fun z => ((HLay.out.below (HOF.out z)).blk 1 rfl).cell 4
          have hfw : ∀ f, Fence.wide.fn f := fun _ => trivial
          simp only [pickB]
          repeat (gi_big_quiet_step (fail))
          refine wpQuietIn_nil ?_
          exact rfl
        intro G2 W13 hW hbg hbb hbi
        replace HLay := Lib.hid (HLay.out.below hW)
        have c0 := hbb.cell 0
        have z0 := hbb.frozen 0
        have c1 := hbb.cell 1
        have z1 := hbb.frozen 1
        have c2 := hbb.cell 2
        have z2 := hbb.frozen 2
        have c3 := hbb.cell 3
        have z3 := hbb.frozen 3
        have hbl := hbb.lt
        have hbw : w.heap.size ≤ G2 := Nat.le_trans HLay2.out.1.size hbg
        simp only [pickB]
        refine wpT_cons ?_
        gi_wp2
        refine wpT_nil ?_
        have R4 := ret4 hbb (Below.refl G2 W13) (Nat.le_refl _) (.int .i64 co2.a) (.int .i64 co2.b) (.int .i64 co2.c) (.int .i64 co2.d)
        replace HLay := Lib.hid (Lay.add (w := w) (bs := [(w.heap.size, 25, #[.slice A n c, .slice A' m d]), (w.heap.size + 1, 29, #[.int .i64 s.drops, .int .i64 s.pace.lo, .int .i64 s.pace.hi, .int .i64 s.step.lo, .int .i64 s.step.hi]), (w.heap.size + 1 + 1, 27, #[.int .i64 0, .int .i64 0]), (G1, 103, #[.int .i64 co1.a, .int .i64 co1.b, .int .i64 co1.c, .int .i64 co1.d])]) ⟨HLay.out.1.trans (R4.2.mono hbw), fun p hp => ⟨(HLay.out.2 p hp).1, (HLay.out.2 p hp).2.below R4.2 (by have := (HLay2.out.2 p hp).2.lt; omega)⟩⟩ hbw R4.1)
        generalize ((((W13.setCell ⟨G2, 0, none⟩ (.int .i64 co2.a)).setCell ⟨G2, 1, none⟩ (.int .i64 co2.b)).setCell ⟨G2, 2, none⟩ (.int .i64 co2.c)).setCell ⟨G2, 3, none⟩ (.int .i64 co2.d)) = W14 at *
        clear c0 z0 c1 z1 c2 z2 c3 z3 hbl hbb hW hbg R4 hbw hbi HLay2
        have hfa1 : firstA t (lossP s.pace.lo s.step.lo) place l = co1.a := by
          obtain ⟨q, e1⟩ := Option.isSome_iff_exists.1 HIS1.out
          unfold firstA
          rw [e1, HQ1.out q e1]
        have hi2 : (walkedF t (lossP s.pace.hi s.step.hi) place l).isSome = true := HS2.out.trans (HS1.out.symm.trans HIS1.out)
        have hfa2 : firstA t (lossP s.pace.hi s.step.hi) place l = co2.a := by
          obtain ⟨q, e1⟩ := Option.isSome_iff_exists.1 hi2
          unfold firstA
          rw [e1, HQ2.out q e1]
        have hb1 := firstA_bound HG.out.fine HF1.out place l
        have hb2 := firstA_bound HG.out.fine HF2.out place l
        have he : endE t s place l = 0 := by unfold endE betE or2; rw [HEA.out, HSK.out, ← HS1.out, HIS1.out]; rfl
        have hv : endV t s place l = ⟨max 0 (s.drops - co2.a), max 0 (s.drops - co1.a)⟩ := by unfold endV; rw [he, if_pos rfl, hfa1, hfa2]
        rw [hfa1] at hb1
        rw [hfa2] at hb2
        obtain ⟨b10, b11⟩ := hb1
        obtain ⟨b20, b21⟩ := hb2
        obtain ⟨hd0, hd1⟩ := HGS.out.drops
        have HE := Lib.hid he
        have HV := Lib.hid hv
        clear hfa1 hfa2 hi2 he hv
        have x0_0 := (HLay.out.blk 0 rfl).cell 0
        have x0_1 := (HLay.out.blk 0 rfl).cell 1
        have l0_ := HLay.out.lt 0 rfl
        have x1_0 := (HLay.out.blk 1 rfl).cell 0
        have x1_1 := (HLay.out.blk 1 rfl).cell 1
        have x1_2 := (HLay.out.blk 1 rfl).cell 2
        have x1_3 := (HLay.out.blk 1 rfl).cell 3
        have x1_4 := (HLay.out.blk 1 rfl).cell 4
        have l1_ := HLay.out.lt 1 rfl
        have x2_0 := (HLay.out.blk 2 rfl).cell 0
        have z2_0 := (HLay.out.blk 2 rfl).frozen 0
        have x2_1 := (HLay.out.blk 2 rfl).cell 1
        have z2_1 := (HLay.out.blk 2 rfl).frozen 1
        have l2_ := HLay.out.lt 2 rfl
        have x3_0 := (HLay.out.blk 3 rfl).cell 0
        have x3_1 := (HLay.out.blk 3 rfl).cell 1
        have x3_2 := (HLay.out.blk 3 rfl).cell 2
        have x3_3 := (HLay.out.blk 3 rfl).cell 3
        have l3_ := HLay.out.lt 3 rfl
        have x4_0 := (HLay.out.blk 4 rfl).cell 0
        have x4_1 := (HLay.out.blk 4 rfl).cell 1
        have x4_2 := (HLay.out.blk 4 rfl).cell 2
        have x4_3 := (HLay.out.blk 4 rfl).cell 3
        have l4_ := HLay.out.lt 4 rfl
        gi_wp2
        all_goals
          first
            | (have R1 := ret2 (HLay.out.blk 2 rfl) HLay.out.1 (by omega) (.int .i64 (max 0 (s.drops - co2.a))) (.int .i64 (max 0 (s.drops - co1.a)))
               have y0 := R1.1.cell 0
               have y1 := R1.1.cell 1
               exact bodyPost_ret (v := .tuple #[.agg #[.int .i64 (max 0 (s.drops - co2.a)), .int .i64 (max 0 (s.drops - co1.a))], .int .i64 0]) (by simp [results, Tryd.results12, go_sem, y0, y1]) rfl ⟨by rw [HE.out, HV.out], R1.2⟩)
            | (have hx : max 0 (s.drops - co2.a) = 0 := by omega
               have hy : max 0 (s.drops - co1.a) = 0 := by omega
               have R1 := ret2 (HLay.out.blk 2 rfl) HLay.out.1 (by omega) (.int .i64 (0)) (.int .i64 (0))
               have y0 := R1.1.cell 0
               have y1 := R1.1.cell 1
               exact bodyPost_ret (v := .tuple #[.agg #[.int .i64 (0), .int .i64 (0)], .int .i64 0]) (by simp [results, Tryd.results12, go_sem, y0, y1]) rfl ⟨by rw [HE.out, HV.out, hx, hy], R1.2⟩)
            | (have hx : max 0 (s.drops - co2.a) = 0 := by omega
               have hy : max 0 (s.drops - co1.a) = s.drops - co1.a := by omega
               have R1 := ret2 (HLay.out.blk 2 rfl) HLay.out.1 (by omega) (.int .i64 (0)) (.int .i64 (s.drops - co1.a))
               have y0 := R1.1.cell 0
               have y1 := R1.1.cell 1
               exact bodyPost_ret (v := .tuple #[.agg #[.int .i64 (0), .int .i64 (s.drops - co1.a)], .int .i64 0]) (by simp [results, Tryd.results12, go_sem, y0, y1]) rfl ⟨by rw [HE.out, HV.out, hx, hy], R1.2⟩)
            | (have hx : max 0 (s.drops - co2.a) = s.drops - co2.a := by omega
               have hy : max 0 (s.drops - co1.a) = 0 := by omega
               have R1 := ret2 (HLay.out.blk 2 rfl) HLay.out.1 (by omega) (.int .i64 (s.drops - co2.a)) (.int .i64 (0))
               have y0 := R1.1.cell 0
               have y1 := R1.1.cell 1
               exact bodyPost_ret (v := .tuple #[.agg #[.int .i64 (s.drops - co2.a), .int .i64 (0)], .int .i64 0]) (by simp [results, Tryd.results12, go_sem, y0, y1]) rfl ⟨by rw [HE.out, HV.out, hx, hy], R1.2⟩)
            | (have hx : max 0 (s.drops - co2.a) = s.drops - co2.a := by omega
               have hy : max 0 (s.drops - co1.a) = s.drops - co1.a := by omega
               have R1 := ret2 (HLay.out.blk 2 rfl) HLay.out.1 (by omega) (.int .i64 (s.drops - co2.a)) (.int .i64 (s.drops - co1.a))
               have y0 := R1.1.cell 0
               have y1 := R1.1.cell 1
               exact bodyPost_ret (v := .tuple #[.agg #[.int .i64 (s.drops - co2.a), .int .i64 (s.drops - co1.a)], .int .i64 0]) (by simp [results, Tryd.results12, go_sem, y0, y1]) rfl ⟨by rw [HE.out, HV.out, hx, hy], R1.2⟩)
  · have h1 : (ea != 0) = true := by simpa using h0
    have HE0 := Lib.hid h0
    clear h0
    gi_wp2
    have R1 := ret2 (HLay.out.blk 2 rfl) HLay.out.1 (by omega) (.int .i64 0) (.int .i64 0)
    have y0 := R1.1.cell 0
    have y1 := R1.1.cell 1
    have he : endE t s place l = ea := by unfold endE or2; rw [HEA.out, if_neg HE0.out, if_neg HE0.out]
    have hv : endV t s place l = ⟨0, 0⟩ := by unfold endV; rw [he, if_neg HE0.out]
    exact bodyPost_ret (v := .tuple #[.agg #[.int .i64 0, .int .i64 0], .int .i64 ea]) (by simp [results, Tryd.results12, go_sem, y0, y1]) rfl ⟨by rw [he, hv], R1.2⟩

theorem rend_any (A : Option Addr) (n c : Nat) (A' : Option Addr) (m d : Nat) (t : Town) (s : Skin) (place : Int) (A2 : Option Addr) (k2 c2 : Nat) (l : List Int) (w : World)
    (hn : n ≤ 1000) (hm : m ≤ 1000) (hk2 : k2 ≤ 1000) (ht : TownAt w w.heap.size A n A' m t) (hr : IntsAt w w.heap.size A2 k2 l) :
    Calls Tryd.prog 12 #[.agg #[.slice A n c, .slice A' m d], .agg #[.int .i64 s.drops, .int .i64 s.pace.lo, .int .i64 s.pace.hi, .int .i64 s.step.lo, .int .i64 s.step.hi], .int .i64 place, .slice A2 k2 c2] w (EndOut w (endV t s place l) (endE t s place l)) :=
  callsIn_wide.1 (rend_in A n c A' m d t s place A2 k2 c2 l w hn hm hk2 ht hr)
end Go.Proofs.YtahkjagjcogeiaaDoor
/- A map as an association list: made, looked up, stored into, deleted from, ranged over. -/
namespace Go.Proofs.YtahkjagjcogeiaaDoor
open Go.RowKit Go.MapKept
open Go.ChangeMaps (setBlock heap_setBlock_other heap_setBlock_same)
open Go.Maps (Keyed)
set_option linter.unusedVariables false
set_option linter.unusedSectionVars false

/-- How keys and elements lie. -/
structure MapTy (P : Program) (t k e : TypeId) (α β : Type) (encK : α → Value) (encV : β → Value) (ok : α → Prop) (zero : Value) : Prop where
  und : P.underlying t = some (.map k e)
  keyed : Keyed P k
  reads : ∀ x, ok x → ∃ l, keyOf P k (encK x) = some l
  inj : ∀ x y, encK x = encK y → x = y
  zero : ∀ w, (zeroValue e).run P w = .ok zero w

/-- Block r is a map that holds m. -/
def MapIs {α β : Type} (encK : α → Value) (encV : β → Value) (ok : α → Prop) (w : World) (r : Nat) (m : List (α × β)) : Prop :=
  ∃ es clock, w.heap[r]? = some (.map es clock) ∧ es.toList.map (fun e => (e.key, e.val)) = m.map (fun p => (encK p.1, encV p.2)) ∧ Stamped es clock ∧ ∀ p ∈ m, ok p.1

def look {α β : Type} [DecidableEq α] (m : List (α × β)) (x : α) : Option β := (m.find? fun p => decide (p.1 = x)).map Prod.snd
def put {α β : Type} [DecidableEq α] (m : List (α × β)) (x : α) (v : β) : List (α × β) :=
  if m.any (fun p => decide (p.1 = x)) then m.map (fun p => if p.1 = x then (x, v) else p) else m ++ [(x, v)]
def cut {α β : Type} [DecidableEq α] (m : List (α × β)) (x : α) : List (α × β) := m.filter fun p => !decide (p.1 = x)

section
variable {α β : Type} [DecidableEq α] {m : List (α × β)} {x y : α} {v : β}
theorem look_none : look m x = none ↔ ∀ p ∈ m, p.1 ≠ x := by
  unfold look
  simp [List.find?_eq_none]
theorem look_mem (h : look m x = some v) : (x, v) ∈ m := by
  unfold look at h
  cases hf : m.find? (fun p => decide (p.1 = x)) with
  | none => rw [hf] at h; cases h
  | some p =>
    rw [hf] at h
    have h1 := List.find?_some hf
    have h2 := List.mem_of_find?_eq_some hf
    simp at h h1
    obtain ⟨a, b⟩ := p
    simp at h h1
    subst h h1
    exact h2
theorem look_of_mem (hn : (m.map Prod.fst).Nodup) (h : (x, v) ∈ m) : look m x = some v := by
  unfold look
  induction m with
  | nil => simp at h
  | cons p m ih =>
    rw [List.map_cons, List.nodup_cons] at hn
    rcases List.mem_cons.1 h with h | h
    · subst h; simp
    · have hne : p.1 ≠ x := fun e => hn.1 (by rw [e]; exact List.mem_map.2 ⟨_, h, rfl⟩)
      rw [List.find?_cons_of_neg (by simpa using hne)]
      exact ih hn.2 h
theorem look_put : look (put m x v) y = if y = x then some v else look m y := by
  unfold put
  by_cases hany : m.any (fun p => decide (p.1 = x)) = true
  · rw [if_pos hany]
    induction m with
    | nil => simp at hany
    | cons p m ih =>
      by_cases hp : p.1 = x
      · by_cases hy : y = x
        · subst hy; simp [look, hp]
        · rw [if_neg hy]
          by_cases hm : m.any (fun p => decide (p.1 = x)) = true
          · have := ih hm
            rw [if_neg hy] at this
            unfold look at this ⊢
            rw [List.map_cons, if_pos hp, List.find?_cons_of_neg (by simpa using fun e => hy e.symm), List.find?_cons_of_neg (by rw [hp]; simpa using fun e => hy e.symm)]
            exact this
          · have hid : m.map (fun p => if p.1 = x then (x, v) else p) = m := by
              have h1 : m.map (fun p => if p.1 = x then (x, v) else p) = m.map id := List.map_congr_left fun q hq => by
                have : q.1 ≠ x := fun e => hm (List.any_eq_true.2 ⟨q, hq, by simpa using e⟩)
                simp [this]
              simpa using h1
            unfold look
            rw [List.map_cons, if_pos hp, hid, List.find?_cons_of_neg (by simpa using fun e => hy e.symm), List.find?_cons_of_neg (by rw [hp]; simpa using fun e => hy e.symm)]
      · have hm : m.any (fun p => decide (p.1 = x)) = true := by simpa [hp] using hany
        have := ih hm
        unfold look at this ⊢
        rw [List.map_cons, if_neg hp]
        by_cases hpy : p.1 = y
        · rw [List.find?_cons_of_pos (by simpa using hpy), List.find?_cons_of_pos (by simpa using hpy), if_neg (fun e => hp (hpy.trans e))]
        · rw [List.find?_cons_of_neg (by simpa using hpy), List.find?_cons_of_neg (by simpa using hpy)]
          exact this
  · rw [if_neg hany]
    have hno : ∀ p ∈ m, p.1 ≠ x := fun p hp e => hany (List.any_eq_true.2 ⟨p, hp, by simpa using e⟩)
    by_cases hy : y = x
    · subst hy
      have hf : m.find? (fun p => decide (p.1 = y)) = none := by rw [List.find?_eq_none]; simpa using hno
      unfold look
      rw [List.find?_append, hf]
      simp
    · rw [if_neg hy]
      unfold look
      rw [List.find?_append]
      have hxy : ¬ x = y := fun e => hy e.symm
      have hl : [(x, v)].find? (fun p => decide (p.1 = y)) = none := by simp [hxy]
      rw [hl]
      simp
theorem mem_cut {p : α × β} : p ∈ cut m x ↔ p ∈ m ∧ p.1 ≠ x := by unfold cut; simp
theorem look_cut : look (cut m x) y = if y = x then none else look m y := by
  by_cases hy : y = x
  · rw [if_pos hy, look_none]
    intro p hp e
    exact (mem_cut.1 hp).2 (e.trans hy)
  · rw [if_neg hy]
    unfold look cut
    rw [List.find?_filter]
    congr 2
    funext p
    by_cases hp : p.1 = y
    · simp [hp, hy]
    · simp [hp]
theorem mem_put {p : α × β} (h : p ∈ put m x v) : p = (x, v) ∨ (p ∈ m ∧ p.1 ≠ x) := by
  unfold put at h
  split at h
  · obtain ⟨q, hq, rfl⟩ := List.mem_map.1 h
    by_cases e : q.1 = x
    · simp [e]
    · simp [e]; exact .inr hq
  · rename_i hany
    rcases List.mem_append.1 h with h | h
    · exact .inr ⟨h, fun e => hany (List.any_eq_true.2 ⟨p, h, by simpa using e⟩)⟩
    · left; simpa using h
end

section
variable {P : Program} {t k e : TypeId} {α β : Type} [DecidableEq α] {encK : α → Value} {encV : β → Value} {okK : α → Prop} {zero : Value}
variable {w w' : World} {r : Nat} {m : List (α × β)}

theorem MapIs.lt (h : MapIs encK encV okK w r m) : r < w.heap.size := by
  obtain ⟨es, clock, hb, _⟩ := h
  exact (Array.getElem?_eq_some_iff.1 hb).1
theorem MapIs.ok (h : MapIs encK encV okK w r m) : ∀ p ∈ m, okK p.1 := by
  obtain ⟨_, _, _, _, _, h⟩ := h
  exact h
theorem MapIs.keep (h : MapIs encK encV okK w r m) (hb : w'.heap[r]? = w.heap[r]?) : MapIs encK encV okK w' r m := by
  obtain ⟨es, clock, h1, h2⟩ := h
  exact ⟨es, clock, hb.trans h1, h2⟩
theorem MapIs.below {B : Nat} (h : MapIs encK encV okK w r m) (hb : Below B w w') (hr : r < B) : MapIs encK encV okK w' r m := h.keep (hb.block r hr)
theorem MapIs.alloc (h : MapIs encK encV okK w r m) (o : Obj) : MapIs encK encV okK (w.alloc o) r m := h.keep (Below.heap_alloc w o r h.lt)
theorem MapIs.grown {row : Option Nat} (h : MapIs encK encV okK w r m) (hg : w.grownBy w' row) (hne : some r ≠ row) : MapIs encK encV okK w' r m := h.keep (hg.block r h.lt hne)
theorem MapIs.drewN (h : MapIs encK encV okK w r m) (n : Nat) : MapIs encK encV okK (w.drewN n) r m := h
theorem MapIs.made (w : World) : MapIs (β := β) encK encV okK (w.alloc (.map #[] 0)) w.heap.size [] :=
  ⟨#[], 0, heap_alloc_new w _, rfl, stamped_empty 0, by simp⟩
theorem MapIs.nodup (T : MapTy P t k e α β encK encV okK zero) (h : MapIs encK encV okK w r m) : (m.map Prod.fst).Nodup := by
  obtain ⟨es, clock, hb, hm, hs, hk⟩ := h
  have hp := ((stamped_iff es clock).1 hs).2.2
  have h1 : (es.toList.map (fun e => (e.key, e.val))).Pairwise (fun p q => p.1 ≠ q.1) := by
    rw [List.pairwise_map]; exact hp
  rw [hm, List.pairwise_map] at h1
  rw [List.Nodup, List.pairwise_map]
  exact h1.imp fun {a b} hne e => hne (by simp [e])

theorem MapIs.find (T : MapTy P t k e α β encK encV okK zero) {es : Array MapEntry} (hm : es.toList.map (fun e => (e.key, e.val)) = m.map (fun p => (encK p.1, encV p.2))) (hk : ∀ p ∈ m, okK p.1) {x : α} (hx : okK x) :
    ((Instr.findKey k (encK x) es.toList).run P w = .ok none w ∧ look m x = none ∧ ∀ y ∈ es.toList, y.key ≠ encK x) ∨
    ∃ (j : Nat) (y : MapEntry) (v : β), (Instr.findKey k (encK x) es.toList).run P w = .ok (some (j, encV v)) w ∧ es.toList[j]? = some y ∧ y.key = encK x ∧ m[j]? = some (x, v) := by
  obtain ⟨l, hl⟩ := T.reads x hx
  have hkeys : ∀ y ∈ es.toList, ∃ l, keyOf P k y.key = some l := by
    intro y hy
    have : (y.key, y.val) ∈ m.map (fun p => (encK p.1, encV p.2)) := by rw [← hm]; exact List.mem_map.2 ⟨y, hy, rfl⟩
    obtain ⟨p, hp, he⟩ := List.mem_map.1 this
    simp at he
    rw [← he.1]
    exact T.reads _ (hk p hp)
  rcases T.keyed.find w hl es.toList hkeys with ⟨h1, h2⟩ | ⟨j, y, h1, h2, h3⟩
  · refine .inl ⟨h1, look_none.2 fun p hp e => ?_, h2⟩
    have : (encK p.1, encV p.2) ∈ es.toList.map (fun e => (e.key, e.val)) := by rw [hm]; exact List.mem_map.2 ⟨p, hp, rfl⟩
    obtain ⟨y, hy, he⟩ := List.mem_map.1 this
    simp at he
    exact h2 y hy (by rw [he.1, e])
  · have hj : (es.toList.map (fun e => (e.key, e.val)))[j]? = some (y.key, y.val) := by rw [List.getElem?_map, h2]; rfl
    rw [hm, List.getElem?_map] at hj
    cases hmj : m[j]? with
    | none => rw [hmj] at hj; cases hj
    | some p =>
      rw [hmj] at hj
      simp at hj
      have hpx : p.1 = x := T.inj _ _ (hj.1.trans h3)
      refine .inr ⟨j, y, p.2, ?_, h2, h3, ?_⟩
      · rw [h1, hj.2]
      · rw [hmj, ← hpx]

/-- m[x], v, is := m[x] -/
theorem MapIs.lookup (T : MapTy P t k e α β encK encV okK zero) (h : MapIs encK encV okK w r m) {x : α} (hx : okK x) (co : Bool) :
    (Instr.lookup t (.map (some r)) (encK x) co).run P w = .ok (match look m x with | some v => if co then .tuple #[encV v, .bool true] else encV v | none => if co then .tuple #[zero, .bool false] else zero) w := by
  obtain ⟨l, hl⟩ := T.reads x hx
  have hn := MapIs.nodup T h
  obtain ⟨es, clock, hb, hm, hs, hk⟩ := h
  rcases MapIs.find (w := w) T hm hk hx with ⟨h1, h2, _⟩ | ⟨j, y, v, h1, h2, h3, h4⟩
  · rw [h2]
    cases co <;> simp [Instr.lookup, run_underlying T.und, MapKept.run_getObj_map hb, T.keyed.check w _ hl, h1, T.zero, Result.andThen]
  · have hm' : look m x = some v := look_of_mem hn (List.mem_of_getElem? h4)
    rw [hm']
    cases co <;> simp [Instr.lookup, run_underlying T.und, MapKept.run_getObj_map hb, T.keyed.check w _ hl, h1, Result.andThen]

theorem grown_setBlock {es : Array MapEntry} {clock : Nat} (hb : w.heap[r]? = some (.map es clock)) (o : Obj) : w.grownBy (setBlock w r o) (some r) ∧ (setBlock w r o).heap.size = w.heap.size :=
  ⟨⟨rfl, rfl, rfl, by simp [setBlock], fun i _ hi => heap_setBlock_other hb o (fun e => hi (by rw [e]))⟩, by simp [setBlock]⟩

theorem map_snd_set {γ : Type} {l : List γ} {m : List (α × β)} {f : γ → Value × Value} (h : l.map f = m.map (fun p => (encK p.1, encV p.2))) : l.length = m.length := by
  have := congrArg List.length h; simpa using this

/-- m[x] = v -/
theorem MapIs.update (T : MapTy P t k e α β encK encV okK zero) (h : MapIs encK encV okK w r m) {x : α} (hx : okK x) (v : β) :
    ∃ w', (Instr.mapUpdate t (.map (some r)) (encK x) (encV v)).run P w = .ok () w' ∧ MapIs encK encV okK w' r (put m x v) ∧ w.grownBy w' (some r) ∧ w'.heap.size = w.heap.size := by
  obtain ⟨l, hl⟩ := T.reads x hx
  have hn := MapIs.nodup T h
  obtain ⟨es, clock, hb, hm, hs, hk⟩ := h
  rcases MapIs.find (w := w) T hm hk hx with ⟨h1, h2, h3⟩ | ⟨j, y, v0, h1, h2, h3, h4⟩
  · refine ⟨setBlock w r (.map (es.push ⟨encK x, encV v, clock⟩) (clock + 1)), ?_, ⟨_, _, heap_setBlock_same hb _, ?_, stamped_push hs h3, ?_⟩, (grown_setBlock hb _).1, (grown_setBlock hb _).2⟩
    · simp [Instr.mapUpdate, run_underlying T.und, MapKept.run_getObj_map hb, T.keyed.check w false hl, h1, MapKept.run_setObj_map _ hb, Result.andThen, setBlock]
    · have hany : ¬ m.any (fun p => decide (p.1 = x)) = true := by
        intro ha
        obtain ⟨p, hp, he⟩ := List.any_eq_true.1 ha
        exact look_none.1 h2 p hp (by simpa using he)
      unfold put
      rw [if_neg hany, Array.toList_push, List.map_append, hm, List.map_append]
      rfl
    · intro p hp
      rcases mem_put hp with rfl | ⟨hp, _⟩
      · exact hx
      · exact hk p hp
  · have hjl : j < es.toList.length := (List.getElem?_eq_some_iff.1 h2).1
    have hjs : j < es.size := by simpa using hjl
    have hes : es[j]? = some y := by rw [← Array.getElem?_toList]; exact h2
    have hany : m.any (fun p => decide (p.1 = x)) = true := List.any_eq_true.2 ⟨(x, v0), List.mem_of_getElem? h4, by simp⟩
    refine ⟨setBlock w r (.map (es.modify j fun e => { e with key := encK x, val := encV v }) clock), ?_, ⟨_, _, heap_setBlock_same hb _, ?_, ?_, ?_⟩, (grown_setBlock hb _).1, (grown_setBlock hb _).2⟩
    · simp [Instr.mapUpdate, run_underlying T.und, MapKept.run_getObj_map hb, T.keyed.check w false hl, h1, MapKept.run_setObj_map _ hb, Result.andThen, setBlock, hes, h3, T.keyed.stays w hl]
    · unfold put
      rw [if_pos hany]
      apply List.ext_getElem?
      intro i
      have hi : ((es.toList.map (fun e => (e.key, e.val)))[i]?) = (m.map (fun p => (encK p.1, encV p.2)))[i]? := by rw [hm]
      rw [List.getElem?_map, List.getElem?_map] at hi
      rw [List.getElem?_map, List.getElem?_map, List.getElem?_map, Array.getElem?_toList, Array.getElem?_modify]
      rw [Array.getElem?_toList] at hi
      by_cases hij : j = i
      · subst hij
        rw [if_pos rfl, hes, h4]
        simp
      · rw [if_neg hij, hi]
        cases hmi : m[i]? with
        | none => rfl
        | some p =>
          have hpx : p.1 ≠ x := by
            intro e1
            apply hij
            have h5 : (m.map Prod.fst)[j]? = some x := by rw [List.getElem?_map, h4]; rfl
            have h6 : (m.map Prod.fst)[i]? = some x := by rw [List.getElem?_map, hmi, ← e1]; rfl
            have h7 : j < (m.map Prod.fst).length := (List.getElem?_eq_some_iff.1 h5).1
            exact (List.getElem?_inj h7 hn).1 (h5.trans h6.symm)
          simp [hpx]
    · exact stamped_modify hs j _ (fun _ _ => rfl) (fun e' he' hj' => by
        have : e' = y := Option.some.inj (hj'.symm.trans hes)
        rw [this]; exact h3.symm)
    · intro p hp
      rcases mem_put hp with rfl | ⟨hp, _⟩
      · exact hx
      · exact hk p hp

/-- delete(m, x) -/
theorem MapIs.delete_ (T : MapTy P t k e α β encK encV okK zero) (h : MapIs encK encV okK w r m) {x : α} (hx : okK x) (ty : TypeId) :
    ∃ w', (Builtin.delete_ #[t, k] ty #[.map (some r), encK x]).run P w = .ok (.tuple #[]) w' ∧ MapIs encK encV okK w' r (cut m x) ∧ w.grownBy w' (some r) ∧ w'.heap.size = w.heap.size := by
  obtain ⟨l, hl⟩ := T.reads x hx
  have hn := MapIs.nodup T h
  obtain ⟨es, clock, hb, hm, hs, hk⟩ := h
  rcases MapIs.find (w := w) T hm hk hx with ⟨h1, h2, h3⟩ | ⟨j, y, v0, h1, h2, h3, h4⟩
  · refine ⟨setBlock w r (.map es clock), ?_, ⟨_, _, heap_setBlock_same hb _, ?_, hs, fun p hp => hk p (mem_cut.1 hp).1⟩, (grown_setBlock hb _).1, (grown_setBlock hb _).2⟩
    · simp [Builtin.delete_, run_underlying T.und, MapKept.run_getObj_map hb, T.keyed.check w _ hl, h1, MapKept.run_setObj_map _ hb, Result.andThen, setBlock]
    · rw [hm]
      congr 1
      unfold cut
      refine (List.filter_eq_self.2 fun p hp => ?_).symm
      simpa using look_none.1 h2 p hp
  · have hjl : j < es.toList.length := (List.getElem?_eq_some_iff.1 h2).1
    have hjs : j < es.size := by simpa using hjl
    have hsub : (es.eraseIdxIfInBounds j).toList = es.toList.eraseIdx j := by
      unfold Array.eraseIdxIfInBounds
      rw [dif_pos hjs]
      simp
    refine ⟨setBlock w r (.map (es.eraseIdxIfInBounds j) clock), ?_, ⟨_, _, heap_setBlock_same hb _, ?_, stamped_erase hs j, fun p hp => hk p (mem_cut.1 hp).1⟩, (grown_setBlock hb _).1, (grown_setBlock hb _).2⟩
    · simp [Builtin.delete_, run_underlying T.und, MapKept.run_getObj_map hb, T.keyed.check w _ hl, h1, MapKept.run_setObj_map _ hb, Result.andThen, setBlock]
    · rw [hsub, Go.ChangeMaps.map_eraseIdx, hm, ← Go.ChangeMaps.map_eraseIdx]
      congr 1
      unfold cut
      exact (erase_cut hn h4).symm
where
  erase_cut {m : List (α × β)} {x : α} {v0 : β} {j : Nat} (hn : (m.map Prod.fst).Nodup) (h4 : m[j]? = some (x, v0)) : (m.filter fun p => !decide (p.1 = x)) = m.eraseIdx j := by
    induction m generalizing j with
    | nil => simp at h4
    | cons p m ih =>
      rw [List.map_cons, List.nodup_cons] at hn
      cases j with
      | zero =>
        simp at h4
        subst h4
        have : (m.filter fun p => !decide (p.1 = x)) = m := List.filter_eq_self.2 fun q hq => by
          have : q.1 ≠ x := fun e => hn.1 (List.mem_map.2 ⟨q, hq, e⟩)
          simpa using this
        simp [this]
      | succ j =>
        have hne : p.1 ≠ x := fun e => hn.1 (List.mem_map.2 ⟨(x, v0), List.mem_of_getElem? (by simpa using h4), e.symm⟩)
        rw [List.filter_cons_of_pos (by simpa using hne), ih hn.2 (by simpa using h4)]
        rfl
end
end Go.Proofs.YtahkjagjcogeiaaDoor
/- Ranging over a map that does not turn: the entries come in an order that the tape says. -/
namespace Go.Proofs.YtahkjagjcogeiaaDoor
open Go.RowKit Go.MapKept
open Go.ChangeMaps (setBlock heap_setBlock_other heap_setBlock_same)
open Go.Maps (Keyed)
set_option linter.unusedVariables false
set_option linter.unusedSectionVars false

/-- Block 'it' is an iterator over map r, which holds m; 'left' is to come. -/
def IterIs {α β : Type} (encK : α → Value) (encV : β → Value) (okK : α → Prop) (w : World) (it r : Nat) (m left : List (α × β)) : Prop :=
  ∃ es clock since seen c0, w.heap[r]? = some (.map es clock) ∧ es.toList.map (fun e => (e.key, e.val)) = m.map (fun p => (encK p.1, encV p.2)) ∧ Stamped es clock ∧ (∀ p ∈ m, okK p.1) ∧
    w.heap[it]? = some (.mapIter (some r) since seen c0) ∧ (∀ x ∈ es.toList, x.born < since) ∧ since ≤ c0 ∧ since ≤ clock ∧ (leftOf es seen).toList.map (fun e => (e.key, e.val)) = left.map (fun p => (encK p.1, encV p.2))

theorem filter_erase {γ : Type} (f : γ → Nat) {l : List γ} {i : Nat} {e : γ} (hn : (l.map f).Nodup) (h : l[i]? = some e) : (l.filter fun y => !(f y == f e)) = l.eraseIdx i := by
  induction l generalizing i with
  | nil => simp at h
  | cons p l ih =>
    rw [List.map_cons, List.nodup_cons] at hn
    cases i with
    | zero =>
      simp at h
      subst h
      have : (l.filter fun y => !(f y == f p)) = l := List.filter_eq_self.2 fun q hq => by
        have : f q ≠ f p := fun e => hn.1 (List.mem_map.2 ⟨q, hq, e⟩)
        simpa using this
      simp [this]
    | succ i =>
      have hne : f p ≠ f e := fun e' => hn.1 (List.mem_map.2 ⟨e, List.mem_of_getElem? (by simpa using h), e'.symm⟩)
      rw [List.filter_cons_of_pos (by simpa using hne), ih hn.2 (by simpa using h)]
      rfl

theorem left_push (es : Array MapEntry) (seen : Array Nat) (b : Nat) : (leftOf es (seen.push b)).toList = (leftOf es seen).toList.filter fun y => !(y.born == b) := by
  unfold leftOf
  simp only [Array.toList_filter, List.filter_filter]
  congr 1
  funext y
  simp only [Array.contains_push]
  cases seen.contains y.born <;> cases hb : (y.born == b) <;> simp_all

section
variable {P : Program} {t k e : TypeId} {α β : Type} [DecidableEq α] {encK : α → Value} {encV : β → Value} {okK : α → Prop} {zero : Value}
variable {w w' : World} {r it : Nat} {m left : List (α × β)}

theorem IterIs.map (h : IterIs encK encV okK w it r m left) : MapIs encK encV okK w r m := by
  obtain ⟨es, clock, since, seen, c0, h1, h2, h3, h4, _⟩ := h
  exact ⟨es, clock, h1, h2, h3, h4⟩
theorem IterIs.lt (h : IterIs encK encV okK w it r m left) : it < w.heap.size := by
  obtain ⟨es, clock, since, seen, c0, _, _, _, _, h5, _⟩ := h
  exact (Array.getElem?_eq_some_iff.1 h5).1
theorem IterIs.ne (h : IterIs encK encV okK w it r m left) : it ≠ r := by
  obtain ⟨es, clock, since, seen, c0, h1, _, _, _, h5, _⟩ := h
  intro e
  rw [e, h1] at h5
  cases h5
theorem IterIs.keep (h : IterIs encK encV okK w it r m left) (hb : w'.heap[r]? = w.heap[r]?) (hi : w'.heap[it]? = w.heap[it]?) : IterIs encK encV okK w' it r m left := by
  obtain ⟨es, clock, since, seen, c0, h1, h2, h3, h4, h5, h6⟩ := h
  exact ⟨es, clock, since, seen, c0, hb.trans h1, h2, h3, h4, hi.trans h5, h6⟩
theorem IterIs.below {B : Nat} (h : IterIs encK encV okK w it r m left) (hb : Below B w w') (hr : r < B) (hi : it < B) : IterIs encK encV okK w' it r m left := h.keep (hb.block r hr) (hb.block it hi)
theorem IterIs.grown {row : Option Nat} (h : IterIs encK encV okK w it r m left) (hg : w.grownBy w' row) (hr : some r ≠ row) (hi : some it ≠ row) : IterIs encK encV okK w' it r m left := h.keep (hg.block r h.map.lt hr) (hg.block it h.lt hi)

/-- range m -/
theorem MapIs.range {t k e : TypeId} (ht : P.underlying t = some (.map k e)) (h : MapIs encK encV okK w r m) :
    ∃ w', (Instr.range t (.map (some r))).run P w = .ok (.pointer (some ⟨w.heap.size, 0, none⟩)) w' ∧ IterIs encK encV okK w' w.heap.size r m m ∧ w.grownBy w' none ∧ w'.heap.size = w.heap.size + 1 := by
  have hlt := h.lt
  obtain ⟨es, clock, hb, hm, hs, hk⟩ := h
  refine ⟨_, run_range_map w t k e r es clock ht hb, ⟨es, clock, clock, #[], clock, (Below.heap_alloc w _ r hlt).trans hb, hm, hs, hk, heap_alloc_new w _, ((stamped_iff es clock).1 hs).1, Nat.le_refl _, Nat.le_refl _, ?_⟩, World.grownBy_alloc w _ none, by simp⟩
  have : (leftOf es #[]).toList = es.toList := by
    unfold leftOf
    rw [Array.toList_filter]
    exact List.filter_eq_self.2 fun _ _ => by simp
  rw [this]
  exact hm

/-- the step -/
theorem IterIs.next (h : IterIs encK encV okK w it r m left) (ty : TypeId) :
    (left = [] ∧ (Instr.next (.pointer (some ⟨it, 0, none⟩)) false ty).run P w = .ok (.tuple #[.bool false]) w) ∨
    ∃ i p w', left[i]? = some p ∧ (Instr.next (.pointer (some ⟨it, 0, none⟩)) false ty).run P w = .ok (.tuple #[.bool true, encK p.1, encV p.2]) w' ∧ IterIs encK encV okK w' it r m (left.eraseIdx i) ∧ w.grownBy w' (some it) ∧ w'.heap.size = w.heap.size ∧
      (Instr.entry (.pointer (some ⟨it, 0, none⟩))).run P w' = .ok (.tuple #[encK p.1, encV p.2]) w' := by
  have hne := h.ne
  obtain ⟨es, clock, since, seen, c0, hb, hm, hs, hk, hi, hold, hsc, hsk, hl⟩ := h
  have hst := (stamped_iff es clock).1 hs
  rcases run_next_at (P := P) w ty it r since c0 seen es clock hi hb hold hsc with ⟨h0, hrun⟩ | ⟨e0, he, w1, hal, hrun⟩
  · refine .inl ⟨?_, hrun⟩
    have : (leftOf es seen).toList = [] := List.eq_nil_of_length_eq_zero (by simpa using h0)
    rw [this] at hl
    simpa using hl.symm
  · obtain ⟨i, hj⟩ := List.getElem?_of_mem he
    have hli : (left.map (fun p => (encK p.1, encV p.2)))[i]? = some (e0.key, e0.val) := by rw [← hl, List.getElem?_map, hj]; rfl
    rw [List.getElem?_map] at hli
    cases hlp : left[i]? with
    | none => rw [hlp] at hli; cases hli
    | some p =>
      rw [hlp] at hli
      simp at hli
      have hem : e0 ∈ es.toList := by
        unfold leftOf at he
        simp at he
        simpa using he.1
      have hi1 : w1.heap[it]? = some (.mapIter (some r) since seen c0) := by rcases hal with rfl | rfl <;> exact hi
      have hb1 : w1.heap[r]? = some (.map es clock) := by rcases hal with rfl | rfl <;> exact hb
      have hset := heap_set (o' := .mapIter (some r) since (seen.push e0.born) clock) hi1
      have hb' : (setBlock w1 it (.mapIter (some r) since (seen.push e0.born) clock)).heap[r]? = some (.map es clock) := (hset.2 r (fun e1 => hne e1.symm)).trans hb1
      have hsub : ((leftOf es seen).toList.map (·.born)).Nodup := by
        unfold leftOf
        rw [Array.toList_filter]
        exact hst.2.1.sublist (List.filter_sublist.map _)
      refine .inr ⟨i, p, _, hlp, by rw [hrun, hli.1, hli.2], ⟨es, clock, since, seen.push e0.born, clock, hb', hm, hs, hk, hset.1, hold, hsk, hsk, ?_⟩, ?_, ?_, ?_⟩
      · rw [left_push, filter_erase (·.born) hsub hj, Go.ChangeMaps.map_eraseIdx, hl, ← Go.ChangeMaps.map_eraseIdx]
      · rcases hal with rfl | rfl <;> exact ⟨rfl, rfl, rfl, by simp [setBlock], fun i _ hi => hset.2 i (fun e1 => hi (by rw [e1]))⟩
      · rcases hal with rfl | rfl <;> simp [setBlock]
      · rw [run_entry_at _ it r since seen es clock e0 hset.1 hb' hem hst.2.1, hli.1, hli.2]
end
end Go.Proofs.YtahkjagjcogeiaaDoor
/- How many entries are to come: read off the world. A map, and a walk over it, abide whatever keeps walks. -/
namespace Go.Proofs.YtahkjagjcogeiaaDoor
open Go.RowKit Go.MapKept Go.Shelf
open Go.Maps (Keyed)
set_option linter.unusedVariables false
set_option linter.unusedSectionVars false

def iterLeft (w : World) (it : Nat) : Nat := match w.heap[it]? with
  | some (.mapIter (some r) _ seen _) => match w.heap[r]? with
    | some (.map es _) => (leftOf es seen).size
    | _ => 0
  | _ => 0
section
variable {α β : Type} [DecidableEq α] {encK : α → Value} {encV : β → Value} {okK : α → Prop} {w w' : World} {r it : Nat} {m left : List (α × β)}
theorem IterIs.left_eq (h : IterIs encK encV okK w it r m left) : iterLeft w it = left.length := by
  obtain ⟨es, clock, since, seen, c0, hb, hm, hs, hk, hi, hold, hsc, hsk, hl⟩ := h
  unfold iterLeft
  simp only [hi, hb]
  have := congrArg List.length hl
  simpa using this
theorem IterIs.walks (h : IterIs encK encV okK w it r m left) (hk : KeepsWalks w w') : IterIs encK encV okK w' it r m left := by
  obtain ⟨es, clock, since, seen, c0, hb, hm, hs, hkk, hi, rest⟩ := h
  exact ⟨es, clock, since, seen, c0, hk.same r _ hb rfl, hm, hs, hkk, hk.same it _ hi rfl, rest⟩
theorem IterIs.iter_walk (h : IterIs encK encV okK w it r m left) : ∃ o : Obj, w.heap[it]? = some o ∧ o.isWalk = true := by
  obtain ⟨es, clock, since, seen, c0, hb, hm, hs, hkk, hi, rest⟩ := h
  exact ⟨_, hi, rfl⟩
theorem MapIs.walks (h : MapIs encK encV okK w r m) (hk : KeepsWalks w w') : MapIs encK encV okK w' r m := by
  obtain ⟨es, clock, hb, rest⟩ := h
  exact ⟨es, clock, hk.same r _ hb rfl, rest⟩
theorem IterIs.alloc (h : IterIs encK encV okK w it r m left) (o : Obj) : IterIs encK encV okK (w.alloc o) it r m left := h.walks (KeepsWalks.alloc w o)
end
/-- One entry less to come. -/
theorem perm_erase {α : Type} : ∀ {l : List α} {i : Nat} {x : α}, l[i]? = some x → (x :: l.eraseIdx i).Perm l
  | [], i, x, h => by simp at h
  | y :: l, 0, x, h => by simp at h; subst h; simp
  | y :: l, i + 1, x, h => by
    have := perm_erase (l := l) (i := i) (x := x) (by simpa using h)
    rw [List.eraseIdx_cons_succ]
    exact (List.Perm.swap y x _).trans (this.cons y)
end Go.Proofs.YtahkjagjcogeiaaDoor
/- All walks of a map, one by one: the function handed to climb.first in climb.chart.all. -/
namespace Go.Proofs.YtahkjagjcogeiaaDoor
open Go.RowKit Go.Shelf
attribute [local go_sem] Oper.semAt_some
set_option linter.unusedVariables false

def okI (x : Int) : Prop := (Lit.int .i64 x).wf = true
theorem okI_of {x : Int} (h1 : -1000000000000 ≤ x) (h2 : x ≤ 1000000000000) : okI x := by
  have e1 : IntKind.i64.min = -9223372036854775808 := by decide
  have e2 : IntKind.i64.max = 9223372036854775807 := by decide
  show (decide (IntKind.i64.min ≤ x) && decide (x ≤ IntKind.i64.max)) = true
  rw [e1, e2]
  simp only [Bool.and_eq_true, decide_eq_true_eq]
  omega
abbrev WkMap (w : World) (r : Nat) (m : List (Int × Wk)) : Prop := MapIs (Value.int .i64) Wk.val okI w r m
abbrev zeroWk : Value := .agg #[.int .i64 0, .int .i64 0, .int .i64 0, .int .i64 0, .int .i64 0, .slice none 0 0]
theorem wkTy : MapTy Tryd.prog 113 3 111 Int Wk (Value.int .i64) Wk.val okI zeroWk where
  und := Tryd.underlying113
  keyed := Maps.int_keyed Tryd.underlying3
  reads := fun x hx => ⟨_, Maps.keyOf_int_mk Tryd.underlying3 hx⟩
  inj := fun x y h => by cases h; rfl
  zero := fun w => by kernel_rfl

abbrev WkOf (vs : List Wk) := { y : Wk // y ∈ vs }
def WkOf.enc {vs : List Wk} (y : WkOf vs) : Array Value := #[y.1.val]

set_option maxRecDepth 100000 in
set_option maxHeartbeats 4000000 in
theorem all1_stops (n : Nat) (hn : 2 ≤ n) (g r : Nat) (m : List (Int × Wk)) (w : World) (hg : Blk w g 113 #[.map (some r)]) (hm : WkMap w r m) :
    SeqStopsK Fence.wide n Tryd.prog 115 #[.pointer (some ⟨g, 0, none⟩)] (WkOf.enc (vs := m.map Prod.snd)) KeepsWalks
      (fun xs => (xs.map Subtype.val).Perm (m.map Prod.snd)) (fun pre => True) m.length w := by
  intro l J Jx W0 hW hJ hJx hY h0
  have hm0 := hm.below hW hm.lt
  have q0 : W0.cell? ⟨g, 0, none⟩ = some (.map (some r)) := (hg.below hW hg.lt).cell 0
  obtain ⟨w1, hr1, hi1, hg1, hs1⟩ := MapIs.range (P := Tryd.prog) (t := 113) Tryd.underlying113 hm0
  have HJ := Lib.hid hJ
  have HJx := Lib.hid hJx
  have HY := Lib.hid hY
  have H0 := Lib.hid (hJ [] W0 w1 none h0 hg1 (fun r e => by cases e))
  have HI := Lib.hid hi1
  clear hg hm hJ hJx hY h0 hW hm0 hi1 hg1
  refine callsIn_of_wp Tryd.func115 rfl trivial ?_ rfl
  simp only [Tryd.ntmps115, List.size_toArray, List.length_cons, List.length_nil, Nat.reduceAdd, Nat.reduceSub, Array.replicate_succ, Array.replicate_zero, List.push_toArray, List.append_toArray, List.nil_append, List.cons_append]
  gi_wp2
  clear q0 hr1
  refine wpIn_loop (fun a W => ∃ (left : List (Int × Wk)) (pre : List (WkOf (m.map Prod.snd))) (u4 u7 u8 u9 u10 u11 u12 u13 u14 : Value), Hid (IterIs (Value.int .i64) Wk.val okI W W0.heap.size r m left ∧ J pre W ∧ (pre.map Subtype.val ++ left.map Prod.snd).Perm (m.map Prod.snd) ∧ (∀ p ∈ left, p ∈ m)) ∧
      a = { tmps := #[.func (.yield l) #[] #[], .pointer (some ⟨g, 0, none⟩), undef, undef, u4, .map (some r), .pointer (some ⟨W0.heap.size, 0, none⟩), u7, u8, u9, u10, u11, u12, u13, u14], defers := [] })
    (fun _ W => iterLeft W W0.heap.size) ?_ ?_
  · exact ⟨m, [], undef, undef, undef, undef, undef, undef, undef, undef, undef, Lib.hid ⟨HI.out, H0.out, by simp, fun p hp => hp⟩, rfl⟩
  · rintro a W ⟨left, pre, u4, u7, u8, u9, u10, u11, u12, u13, u14, HS, rfl⟩
    rcases HS.out.1.next (P := Tryd.prog) 0 with ⟨hl, hr⟩ | ⟨i, p, w', hp, hr, hi2, hg2, hs2, he2⟩
    · gi_wp2
      go_end0
      subst hl
      exact ⟨⟨_, rfl⟩, .inl ⟨pre, by simpa using HS.out.2.2.1, HS.out.2.1⟩⟩
    · obtain ⟨kk, x⟩ := p
      have hx : x ∈ m.map Prod.snd := List.mem_map.2 ⟨(kk, x), HS.out.2.2.2 _ (List.mem_of_getElem? hp), rfl⟩
      have hlen : pre.length < m.length := by
        have h1 := HS.out.2.2.1.length_eq
        have h2 := (List.getElem?_eq_some_iff.1 hp).1
        simp at h1
        omega
      have hj2 := HJ.out pre W w' _ HS.out.2.1 hg2 (fun r e => by cases e; exact ⟨Nat.le_refl _, HS.out.1.iter_walk⟩)
      have hj3 := HJ.out pre w' (w'.alloc (.cells #[.int .i64 x.to, .int .i64 x.cost.a, .int .i64 x.cost.b, .int .i64 x.cost.c, .int .i64 x.cost.d, .slice x.A x.n x.cap] 111)) none hj2 (World.grownBy_alloc _ _ none) (fun r e => by cases e)
      obtain ⟨fn, tmps, assign, body, hy, hR⟩ := HY.out pre ⟨x, hx⟩ _ hj3 hlen
      unfold WkOf.enc at hy
      dsimp only at hy
      have HP := Lib.hid hp
      have HR := Lib.hid hR
      have HI2 := Lib.hid (hi2.alloc (.cells #[.int .i64 x.to, .int .i64 x.cost.a, .int .i64 x.cost.b, .int .i64 x.cost.c, .int .i64 x.cost.d, .slice x.A x.n x.cap] 111))
      clear hp hR hj2 hj3 hi2 hg2
      gi_wp2
      refine ⟨fun _ => by omega, HR.out.mono ?_⟩
      rintro e W3 (⟨rfl, hJ3, hk3⟩ | ⟨rfl, hJx3⟩)
      · have HJ3 := Lib.hid hJ3
        have HK3 := Lib.hid hk3
        clear hJ3 hk3 hr he2
        gi_wp2
        have hi3 := HI2.out.walks HK3.out
        refine ⟨⟨left.eraseIdx i, pre ++ [⟨x, hx⟩], _, _, _, _, _, _, _, _, _, Lib.hid ⟨hi3, HJ3.out, ?_, fun p hp => HS.out.2.2.2 p (List.mem_of_mem_eraseIdx hp)⟩, rfl⟩, ?_⟩
        · have h1 := (perm_erase HP.out).map Prod.snd
          rw [List.map_append, List.append_assoc]
          exact (h1.append_left _).trans HS.out.2.2.1
        · have h2 := (List.getElem?_eq_some_iff.1 HP.out).1
          rw [hi3.left_eq, HS.out.1.left_eq, List.length_eraseIdx_of_lt h2]
          omega
      · have HJ3 := Lib.hid hJx3
        clear hJx3 hr he2
        gi_wp2
        refine bodyPost_ret (results_none rfl _ _ _) rfl ?_
        exact ⟨⟨_, rfl⟩, .inr ⟨_, trivial, HJ3.out⟩⟩
end Go.Proofs.YtahkjagjcogeiaaDoor
/- climb.first over the walks of a map: the first one by climb.before. -/
namespace Go.Proofs.YtahkjagjcogeiaaDoor
open Go.RowKit Go.Shelf
attribute [local go_sem] Oper.semAt_some
set_option linter.unusedVariables false

/-- The first one so far. -/
def BestOf (pre : List Wk) (v : Value) (f : Bool) : Prop := (pre = [] ∧ v = zeroWk ∧ f = false) ∨ ∃ x ∈ pre, v = x.val ∧ f = true ∧ ∀ y ∈ pre, cmpW x.cost x.links y.cost y.links ≤ 0
def FirstOut (w : World) (vs : List Wk) (e : Ending) (w' : World) : Prop := ∃ v f, e = .returned (.tuple #[v, .bool f]) ∧ BestOf vs v f ∧ Below w.heap.size w w'

theorem eqC_iff (x y : Cost) : eqC x y = true ↔ x = y := by
  obtain ⟨a, b, c, d⟩ := x
  obtain ⟨a', b', c', d'⟩ := y
  simp [eqC, and_assoc]
theorem cmpW_key (x : Cost) (l : List Int) (y : Cost) (m : List Int) : cmpW x l y m = cmpL (key x l) (key y m) := by
  unfold cmpW
  rw [cmp_key]
  by_cases h : eqC x y = true
  · rw [if_pos h]
    have := (eqC_iff x y).1 h
    subst this
    rw [if_pos (cmpL_refl _)]
  · rw [if_neg h, if_neg (fun h0 => h ((eqC_iff x y).2 (list_eq h0)))]
    rfl
theorem BestOf.perm {vs ws : List Wk} {v : Value} {f : Bool} (h : BestOf vs v f) (hp : vs.Perm ws) : BestOf ws v f := by
  rcases h with ⟨rfl, h⟩ | ⟨x, hx, h1, h2, h3⟩
  · exact .inl ⟨hp.symm.eq_nil, h⟩
  · exact .inr ⟨x, hp.mem_iff.1 hx, h1, h2, fun y hy => h3 y (hp.mem_iff.2 hy)⟩
theorem BestOf.keep {pre : List Wk} {x y : Wk} (hx : x ∈ pre) (h : ∀ z ∈ pre, cmpW x.cost x.links z.cost z.links ≤ 0) (hy : ¬ cmpW y.cost y.links x.cost x.links < 0) : BestOf (pre ++ [y]) x.val true := by
  refine .inr ⟨x, by simp [hx], rfl, rfl, fun z hz => ?_⟩
  rcases List.mem_append.1 hz with hz | hz
  · exact h z hz
  · rw [List.mem_singleton.1 hz]
    rw [cmpW_key] at hy ⊢
    have := cmpL_swap (key y.cost y.links) (key x.cost x.links)
    omega
theorem BestOf.take {pre : List Wk} {x y : Wk} (h : ∀ z ∈ pre, cmpW x.cost x.links z.cost z.links ≤ 0) (hy : cmpW y.cost y.links x.cost x.links < 0) : BestOf (pre ++ [y]) y.val true := by
  refine .inr ⟨y, by simp, rfl, rfl, fun z hz => ?_⟩
  rcases List.mem_append.1 hz with hz | hz
  · have h1 := h z hz
    rw [cmpW_key] at h1 hy ⊢
    exact cmpL_trans (by omega) h1
  · rw [List.mem_singleton.1 hz, cmpW_key, cmpL_refl]; omega
theorem BestOf.one (y : Wk) : BestOf [y] y.val true := .inr ⟨y, by simp, rfl, rfl, fun z hz => by rw [List.mem_singleton.1 hz, cmpW_key, cmpL_refl]; omega⟩

theorem walks_below {W W' : World} (h : Below W.heap.size W W') : KeepsWalks W W' := ⟨h.size, fun k o hk _ => (h.block k (Array.getElem?_eq_some_iff.1 hk).1).trans hk⟩
theorem Wk.at_.below {w w' : World} {B : Nat} {x : Wk} (h : x.at_ w B) (hb : Below B w w') (hB : B ≤ w'.heap.size) : x.at_ w' w'.heap.size := (IntsAt.below h hb).more hB

theorem Marks.drew {B : Nat} {w : World} {ds : List Deferred} (h : Marks B w ds) : Marks B w.drew ds := h.keep fun _ _ _ _ h0 => h0

structure FirstSt (w : World) (v : Value) (f : Bool) (S : Nat) (W : World) : Prop where
  bel : Below w.heap.size w W
  ord : Blk W w.heap.size 188 #[.func (.func 116) #[] #[]]
  res : Blk W (w.heap.size + 1) 111 #[.int .i64 0, .int .i64 0, .int .i64 0, .int .i64 0, .int .i64 0, .slice none 0 0]
  best : ∃ x : Wk, v = x.val ∧ Blk W (w.heap.size + 1 + 1) 111 #[.int .i64 x.to, .int .i64 x.cost.a, .int .i64 x.cost.b, .int .i64 x.cost.c, .int .i64 x.cost.d, .slice x.A x.n x.cap]
  fnd : Blk W (w.heap.size + 1 + 1 + 1) 4 #[.bool f]
  sz : S ≤ W.heap.size
section
variable {w W W' : World} {v : Value} {f : Bool} {S : Nat}
theorem FirstSt.below (h : FirstSt w v f S W) (hb : Below W.heap.size W W') : FirstSt w v f S W' :=
  ⟨h.bel.trans (hb.mono h.bel.size), h.ord.below hb h.ord.lt, h.res.below hb h.res.lt, by obtain ⟨x, e, hx⟩ := h.best; exact ⟨x, e, hx.below hb hx.lt⟩, h.fnd.below hb h.fnd.lt, Nat.le_trans h.sz hb.size⟩
theorem FirstSt.shut (h : FirstSt w v f S W) (hs : Shut S W W') (hS : w.heap.size ≤ S) : FirstSt w v f S W' :=
  ⟨h.bel.trans (hs.below.mono hS), hs.blk h.ord, hs.blk h.res, by obtain ⟨x, e, hx⟩ := h.best; exact ⟨x, e, hs.blk hx⟩, hs.blk h.fnd, Nat.le_trans h.sz hs.below.size⟩
theorem FirstSt.put (h : FirstSt w v f S W) (y : Wk) : FirstSt w y.val true S (((((((W.setCell ⟨w.heap.size + 1 + 1, 0, none⟩ (.int .i64 y.to)).setCell ⟨w.heap.size + 1 + 1, 1, none⟩ (.int .i64 y.cost.a)).setCell ⟨w.heap.size + 1 + 1, 2, none⟩ (.int .i64 y.cost.b)).setCell ⟨w.heap.size + 1 + 1, 3, none⟩ (.int .i64 y.cost.c)).setCell ⟨w.heap.size + 1 + 1, 4, none⟩ (.int .i64 y.cost.d)).setCell ⟨w.heap.size + 1 + 1, 5, none⟩ (.slice y.A y.n y.cap)).setCell ⟨w.heap.size + 1 + 1 + 1, 0, none⟩ (.bool true)) ∧ KeepsFrom S W (((((((W.setCell ⟨w.heap.size + 1 + 1, 0, none⟩ (.int .i64 y.to)).setCell ⟨w.heap.size + 1 + 1, 1, none⟩ (.int .i64 y.cost.a)).setCell ⟨w.heap.size + 1 + 1, 2, none⟩ (.int .i64 y.cost.b)).setCell ⟨w.heap.size + 1 + 1, 3, none⟩ (.int .i64 y.cost.c)).setCell ⟨w.heap.size + 1 + 1, 4, none⟩ (.int .i64 y.cost.d)).setCell ⟨w.heap.size + 1 + 1, 5, none⟩ (.slice y.A y.n y.cap)).setCell ⟨w.heap.size + 1 + 1 + 1, 0, none⟩ (.bool true)) ∧ KeepsWalks W (((((((W.setCell ⟨w.heap.size + 1 + 1, 0, none⟩ (.int .i64 y.to)).setCell ⟨w.heap.size + 1 + 1, 1, none⟩ (.int .i64 y.cost.a)).setCell ⟨w.heap.size + 1 + 1, 2, none⟩ (.int .i64 y.cost.b)).setCell ⟨w.heap.size + 1 + 1, 3, none⟩ (.int .i64 y.cost.c)).setCell ⟨w.heap.size + 1 + 1, 4, none⟩ (.int .i64 y.cost.d)).setCell ⟨w.heap.size + 1 + 1, 5, none⟩ (.slice y.A y.n y.cap)).setCell ⟨w.heap.size + 1 + 1 + 1, 0, none⟩ (.bool true)) := by
  obtain ⟨x, e, hx⟩ := h.best
  have fr : ∀ {g : Nat} {ty : TypeId} {cs : Array Value}, Blk W g ty cs → g ≠ w.heap.size + 1 + 1 → Blk ((((((W.setCell ⟨w.heap.size + 1 + 1, 0, none⟩ (.int .i64 y.to)).setCell ⟨w.heap.size + 1 + 1, 1, none⟩ (.int .i64 y.cost.a)).setCell ⟨w.heap.size + 1 + 1, 2, none⟩ (.int .i64 y.cost.b)).setCell ⟨w.heap.size + 1 + 1, 3, none⟩ (.int .i64 y.cost.c)).setCell ⟨w.heap.size + 1 + 1, 4, none⟩ (.int .i64 y.cost.d)).setCell ⟨w.heap.size + 1 + 1, 5, none⟩ (.slice y.A y.n y.cap)) g ty cs :=
    fun b hne => (((((b.far (p := ⟨w.heap.size + 1 + 1, 0, none⟩) hne _).far (p := ⟨w.heap.size + 1 + 1, 1, none⟩) hne _).far (p := ⟨w.heap.size + 1 + 1, 2, none⟩) hne _).far (p := ⟨w.heap.size + 1 + 1, 3, none⟩) hne _).far (p := ⟨w.heap.size + 1 + 1, 4, none⟩) hne _).far (p := ⟨w.heap.size + 1 + 1, 5, none⟩) hne _
  have far : ∀ {g : Nat} {ty : TypeId} {cs : Array Value}, Blk ((((((W.setCell ⟨w.heap.size + 1 + 1, 0, none⟩ (.int .i64 y.to)).setCell ⟨w.heap.size + 1 + 1, 1, none⟩ (.int .i64 y.cost.a)).setCell ⟨w.heap.size + 1 + 1, 2, none⟩ (.int .i64 y.cost.b)).setCell ⟨w.heap.size + 1 + 1, 3, none⟩ (.int .i64 y.cost.c)).setCell ⟨w.heap.size + 1 + 1, 4, none⟩ (.int .i64 y.cost.d)).setCell ⟨w.heap.size + 1 + 1, 5, none⟩ (.slice y.A y.n y.cap)) g ty cs → g ≠ w.heap.size + 1 + 1 + 1 → Blk (((((((W.setCell ⟨w.heap.size + 1 + 1, 0, none⟩ (.int .i64 y.to)).setCell ⟨w.heap.size + 1 + 1, 1, none⟩ (.int .i64 y.cost.a)).setCell ⟨w.heap.size + 1 + 1, 2, none⟩ (.int .i64 y.cost.b)).setCell ⟨w.heap.size + 1 + 1, 3, none⟩ (.int .i64 y.cost.c)).setCell ⟨w.heap.size + 1 + 1, 4, none⟩ (.int .i64 y.cost.d)).setCell ⟨w.heap.size + 1 + 1, 5, none⟩ (.slice y.A y.n y.cap)).setCell ⟨w.heap.size + 1 + 1 + 1, 0, none⟩ (.bool true)) g ty cs := fun b hne => b.far (p := ⟨w.heap.size + 1 + 1 + 1, 0, none⟩) hne _
  have ko : KeepsOthers W (((((((W.setCell ⟨w.heap.size + 1 + 1, 0, none⟩ (.int .i64 y.to)).setCell ⟨w.heap.size + 1 + 1, 1, none⟩ (.int .i64 y.cost.a)).setCell ⟨w.heap.size + 1 + 1, 2, none⟩ (.int .i64 y.cost.b)).setCell ⟨w.heap.size + 1 + 1, 3, none⟩ (.int .i64 y.cost.c)).setCell ⟨w.heap.size + 1 + 1, 4, none⟩ (.int .i64 y.cost.d)).setCell ⟨w.heap.size + 1 + 1, 5, none⟩ (.slice y.A y.n y.cap)).setCell ⟨w.heap.size + 1 + 1 + 1, 0, none⟩ (.bool true)) := (((((((KeepsOthers.setCell W _ _).trans (KeepsOthers.setCell _ _ _)).trans (KeepsOthers.setCell _ _ _)).trans (KeepsOthers.setCell _ _ _)).trans (KeepsOthers.setCell _ _ _)).trans (KeepsOthers.setCell _ _ _)).trans (KeepsOthers.setCell _ _ _))
  refine ⟨⟨((((((h.bel.setCell (p := ⟨w.heap.size + 1 + 1, 0, none⟩) (by simp; omega) _).setCell (p := ⟨w.heap.size + 1 + 1, 1, none⟩) (by simp; omega) _).setCell (p := ⟨w.heap.size + 1 + 1, 2, none⟩) (by simp; omega) _).setCell (p := ⟨w.heap.size + 1 + 1, 3, none⟩) (by simp; omega) _).setCell (p := ⟨w.heap.size + 1 + 1, 4, none⟩) (by simp; omega) _).setCell (p := ⟨w.heap.size + 1 + 1, 5, none⟩) (by simp; omega) _).setCell (p := ⟨w.heap.size + 1 + 1 + 1, 0, none⟩) (by simp; omega) _,
    far (fr h.ord (by omega)) (by omega), far (fr h.res (by omega)) (by omega), ⟨y, rfl, far ((((((hx.set_ 0 _).set_ 1 _).set_ 2 _).set_ 3 _).set_ 4 _).set_ 5 _) (by omega)⟩, (fr h.fnd (by omega)).set_ 0 _, Nat.le_trans h.sz ko.size⟩, ko.from S, ko.walks⟩
end

set_option maxRecDepth 100000 in
set_option maxHeartbeats 8000000 in
theorem first_in (g r : Nat) (m : List (Int × Wk)) (w : World) (hg : Blk w g 113 #[.map (some r)]) (hm : WkMap w r m) (hl : ∀ y ∈ m.map Prod.snd, y.at_ w w.heap.size ∧ y.n ≤ 1000) :
    CallsIn Fence.wide 9 Tryd.prog 114 #[.func (.func 115) #[] #[.pointer (some ⟨g, 0, none⟩)], .func (.func 116) #[] #[]] w (FirstOut w (m.map Prod.snd)) := by
  have HG := Lib.hid hg
  have HM := Lib.hid hm
  have HL := Lib.hid hl
  clear hg hm hl
  refine callsIn_of_wp_marks Tryd.func114 rfl trivial ?_ rfl
  simp only [Tryd.ntmps114, List.size_toArray, List.length_cons, List.length_nil, Nat.reduceAdd, Nat.reduceSub, Array.replicate_succ, Array.replicate_zero, List.push_toArray, List.append_toArray, List.nil_append, List.cons_append]
  gi_wp2
  have F0 : FirstSt w zeroWk false ((((w.alloc (.cells #[.func (.func 116) #[] #[]] 188)).alloc (.cells #[.int .i64 0, .int .i64 0, .int .i64 0, .int .i64 0, .int .i64 0, .slice none 0 0] 111)).alloc (.cells #[.int .i64 0, .int .i64 0, .int .i64 0, .int .i64 0, .int .i64 0, .slice none 0 0] 111)).alloc (.cells #[.bool false] 4)).heap.size ((((w.alloc (.cells #[.func (.func 116) #[] #[]] 188)).alloc (.cells #[.int .i64 0, .int .i64 0, .int .i64 0, .int .i64 0, .int .i64 0, .slice none 0 0] 111)).alloc (.cells #[.int .i64 0, .int .i64 0, .int .i64 0, .int .i64 0, .int .i64 0, .slice none 0 0] 111)).alloc (.cells #[.bool false] 4)) := by
    have Y := ((Blk.new (w.alloc (.cells #[.func (.func 116) #[] #[]] 188)) 111 #[.int .i64 0, .int .i64 0, .int .i64 0, .int .i64 0, .int .i64 0, .slice none 0 0]).alloc (.cells #[.int .i64 0, .int .i64 0, .int .i64 0, .int .i64 0, .int .i64 0, .slice none 0 0] 111)).alloc (.cells #[.bool false] 4)
    have V := (Blk.new ((w.alloc (.cells #[.func (.func 116) #[] #[]] 188)).alloc (.cells #[.int .i64 0, .int .i64 0, .int .i64 0, .int .i64 0, .int .i64 0, .slice none 0 0] 111)) 111 #[.int .i64 0, .int .i64 0, .int .i64 0, .int .i64 0, .int .i64 0, .slice none 0 0]).alloc (.cells #[.bool false] 4)
    have U := Blk.new (((w.alloc (.cells #[.func (.func 116) #[] #[]] 188)).alloc (.cells #[.int .i64 0, .int .i64 0, .int .i64 0, .int .i64 0, .int .i64 0, .slice none 0 0] 111)).alloc (.cells #[.int .i64 0, .int .i64 0, .int .i64 0, .int .i64 0, .int .i64 0, .slice none 0 0] 111)) 4 #[.bool false]
    rw [World.size_alloc] at Y
    rw [World.size_alloc, World.size_alloc] at V
    rw [World.size_alloc, World.size_alloc, World.size_alloc] at U
    exact ⟨((((Below.refl _ _).alloc (Nat.le_refl _) _).alloc (by simp) _).alloc (by simp; omega) _).alloc (by simp; omega) _, (((Blk.new w _ _).alloc _).alloc _).alloc _, Y, ⟨⟨0, ⟨0, 0, 0, 0⟩, [], none, 0, 0⟩, rfl, V⟩, U, Nat.le_refl _⟩
  generalize ((((w.alloc (.cells #[.func (.func 116) #[] #[]] 188)).alloc (.cells #[.int .i64 0, .int .i64 0, .int .i64 0, .int .i64 0, .int .i64 0, .slice none 0 0] 111)).alloc (.cells #[.int .i64 0, .int .i64 0, .int .i64 0, .int .i64 0, .int .i64 0, .slice none 0 0] 111)).alloc (.cells #[.bool false] 4)) = w0 at *
  have hws : w.heap.size ≤ w0.heap.size := F0.bel.size
  have hG := HG.out.below F0.bel HG.out.lt
  have hM := HM.out.below F0.bel HM.out.lt
  refine wpIn_rangeFunc_ownH rfl (by omega) (gf := 115) (lb := #[.pointer (some ⟨g, 0, none⟩)]) rfl trivial (enters_of Tryd.func115 (by kernel_rfl) rfl)
    (all1_stops 8 (by omega) g r m w0 hG hM) (fun h k => walksK_t h k) walksK_b (Below.refl _ _) (fun _ => rfl)
    (fun pre Wr => ∃ v f, FirstSt w v f w0.heap.size Wr ∧ BestOf (pre.map Subtype.val) v f)
    (fun cd pre Wr => False)
    (ownFrom_shut (fun s Wr h => by obtain ⟨v, f, h, _⟩ := h; exact h.sz) (fun s Wr Wr' h hs => by obtain ⟨v, f, h, h2⟩ := h; exact ⟨v, f, h.shut hs hws, h2⟩))
    (fun cd => ownFrom_shut (fun s Wr h => h.elim) (fun s Wr Wr' h hs => h))
    ⟨_, _, F0, .inl ⟨rfl, rfl, rfl⟩⟩
    (fun y a' Wr => ∃ Bx, w0.heap.size ≤ Bx ∧ Blk Wr Bx 111 #[.int .i64 y.1.to, .int .i64 y.1.cost.a, .int .i64 y.1.cost.b, .int .i64 y.1.cost.c, .int .i64 y.1.cost.d, .slice y.1.A y.1.n y.1.cap] ∧
      a' = { tmps := #[.func (.func 115) #[] #[.pointer (some ⟨g, 0, none⟩)], .func (.func 116) #[] #[], undef, .pointer (some ⟨w.heap.size, 0, none⟩), .pointer (some ⟨w.heap.size + 1, 0, none⟩), .bool false, .pointer (some ⟨w.heap.size + 1 + 1, 0, none⟩), .pointer (some ⟨w.heap.size + 1 + 1 + 1, 0, none⟩), .pointer (some ⟨Bx, 0, none⟩), .func (.func 115) #[] #[.pointer (some ⟨g, 0, none⟩)], y.1.val, undef, undef, undef, undef, undef, undef, undef, undef, undef, undef, undef, undef], defers := [] })
    (fun y a' => ownFrom_shut (fun _ Wr h => by obtain ⟨Bx, h1, h2, _⟩ := h; exact Nat.le_trans h1 (Nat.le_of_lt h2.lt)) (fun _ Wr Wr' h hs => by obtain ⟨Bx, h1, h2, h4⟩ := h; exact ⟨Bx, h1, hs.blk h2, h4⟩)) ?assign ?body ?done ?stop
  case assign =>
    rintro l' pre ⟨y, hy⟩ Wr K hI hK
    unfold WkOf.enc
    dsimp only
    gi_wp2
    obtain ⟨v, f, hI, hB⟩ := hI
    have hb : Below Wr.heap.size Wr (Wr.alloc (.cells #[.int .i64 y.to, .int .i64 y.cost.a, .int .i64 y.cost.b, .int .i64 y.cost.c, .int .i64 y.cost.d, .slice y.A y.n y.cap] 111)) := (Below.refl _ _).alloc (Nat.le_refl _) _
    exact hK _ _ (keepsFrom_below hb) (walks_below hb) ⟨v, f, hI.below hb, hB⟩ ⟨Wr.heap.size, hI.sz, Blk.new Wr _ _, rfl⟩
  case body =>
    rintro l' pre ⟨y, hy⟩ a' Wr hl ⟨rr, hrr⟩ ⟨v, f, hI, hB⟩ ⟨Bx, hBx, bX, rfl⟩ hlen
    dsimp only at bX ⊢
    have i0 := bX.cell 0
    have i1 := bX.cell 1
    have i2 := bX.cell 2
    have i3 := bX.cell 3
    have i4 := bX.cell 4
    have i5 := bX.cell 5
    have o0 := hI.ord.cell 0
    have f0 := hI.fnd.cell 0
    have f1 := hI.fnd.frozen 0
    obtain ⟨x, rfl, hbx⟩ := hI.best
    have x0 := hbx.cell 0
    have x1 := hbx.cell 1
    have x2 := hbx.cell 2
    have x3 := hbx.cell 3
    have x4 := hbx.cell 4
    have x5 := hbx.cell 5
    have z0 := hbx.frozen 0
    have z1 := hbx.frozen 1
    have z2 := hbx.frozen 2
    have z3 := hbx.frozen 3
    have z4 := hbx.frozen 4
    have z5 := hbx.frozen 5
    have HI := Lib.hid hI
    have HB := Lib.hid hB
    have HX := Lib.hid bX
    have HBX := Lib.hid hbx
    clear hI hB bX hbx hrr
    cases f
    · gi_wp2
      refine ⟨fun _ h => (by cases h), ?_⟩
      gi_wp2
      have hp := HI.out.put y
      refine ⟨hp.2.1, hp.2.2, _, _, hp.1, ?_⟩
      rcases HB.out with ⟨h0, _, _⟩ | ⟨_, _, _, h1, _⟩
      · rw [List.map_append, h0]; exact BestOf.one y
      · cases h1
    · have hxy : ∃ z ∈ pre.map Subtype.val, x.val = z.val ∧ ∀ u ∈ pre.map Subtype.val, cmpW z.cost z.links u.cost u.links ≤ 0 := by
        rcases HB.out with ⟨_, _, h1⟩ | ⟨z, hz, h0, _, h2⟩
        · cases h1
        · exact ⟨z, hz, h0, h2⟩
      obtain ⟨z, hz, hzx, hzb⟩ := hxy
      have hmz : z ∈ m.map Prod.snd := by obtain ⟨q, _, rfl⟩ := List.mem_map.1 hz; exact q.2
      have hbel : Below w.heap.size w Wr := HI.out.bel
      have hcall := before_any y z Wr ((HL.out y hy).1.below hbel hbel.size) ((HL.out z hmz).1.below hbel hbel.size) (Nat.le_trans (HL.out y hy).2 (by unfold maxLen; omega)) (Nat.le_trans (HL.out z hmz).2 (by unfold maxLen; omega))
      rw [← hzx] at hcall
      obtain ⟨cv, hcv⟩ : ∃ cv, cmpW y.cost y.links z.cost z.links = cv := ⟨_, rfl⟩
      rw [hcv] at hcall
      have HC := Lib.hid hcall
      have HCV := Lib.hid hcv
      have HZ := Lib.hid (And.intro hz (And.intro hzx hzb))
      clear hcall hcv hz hzx hzb hmz hbel
      gi_wp2
      refine ⟨trivial, (CallsIn.inRound l' (callsIn_wide.2 HC.out)).mono ?_⟩
      rintro e w1 ⟨rfl, hb1⟩
      have HI1 := Lib.hid (HI.out.below hb1)
      have HX1 := Lib.hid (HX.out.below hb1 HX.out.lt)
      have HB1 := Lib.hid hb1
      clear i0 i1 i2 i3 i4 i5 o0 f0 f1 x0 x1 x2 x3 x4 x5 z0 z1 z2 z3 z4 z5 hb1
      have i0 := HX1.out.cell 0
      have i1 := HX1.out.cell 1
      have i2 := HX1.out.cell 2
      have i3 := HX1.out.cell 3
      have i4 := HX1.out.cell 4
      have i5 := HX1.out.cell 5
      have f0 := HI1.out.fnd.cell 0
      have f1 := HI1.out.fnd.frozen 0
      obtain ⟨x', hx', hbx⟩ := HI1.out.best
      have x0 := hbx.cell 0
      have x1 := hbx.cell 1
      have x2 := hbx.cell 2
      have x3 := hbx.cell 3
      have x4 := hbx.cell 4
      have x5 := hbx.cell 5
      have z0 := hbx.frozen 0
      have z1 := hbx.frozen 1
      have z2 := hbx.frozen 2
      have z3 := hbx.frozen 3
      have z4 := hbx.frozen 4
      have z5 := hbx.frozen 5
      clear hbx hx'
      by_cases hlt : cv < 0
      · gi_wp2
        have hp := HI1.out.put y
        refine ⟨(keepsFrom_below HB1.out).trans hp.2.1, (walks_below HB1.out).trans hp.2.2, _, _, hp.1, ?_⟩
        rw [List.map_append]
        exact BestOf.take HZ.out.2.2 (by rw [HCV.out]; exact hlt)
      · gi_wp2
        refine ⟨keepsFrom_below HB1.out, walks_below HB1.out, _, _, HI1.out, ?_⟩
        rw [List.map_append, HZ.out.2.1]
        exact BestOf.keep HZ.out.1 HZ.out.2.2 (by rw [HCV.out]; omega)
  case done =>
    rintro D ys Wr hD hys ⟨v, f, hI, hB⟩ hK
    have f0 := hI.fnd.cell 0
    obtain ⟨x, rfl, hbx⟩ := hI.best
    have x0 := hbx.cell 0
    have x1 := hbx.cell 1
    have x2 := hbx.cell 2
    have x3 := hbx.cell 3
    have x4 := hbx.cell 4
    have x5 := hbx.cell 5
    have R := hI.res
    have z0 := R.frozen 0
    have z1 := R.frozen 1
    have z2 := R.frozen 2
    have z3 := R.frozen 3
    have z4 := R.frozen 4
    have z5 := R.frozen 5
    have r0 := R.cell 0
    have r1 := R.cell 1
    have r2 := R.cell 2
    have r3 := R.cell 3
    have r4 := R.cell 4
    have r5 := R.cell 5
    have hmk : Marks w.heap.size Wr [{ target := .collected D, args := #[] }] := ⟨⟨D, Nat.le_trans hws hD, rfl, hK, by simp⟩, trivial⟩
    have HR6 := Lib.hid (ret6 R hmk hI.bel (by omega) (.int .i64 x.to) (.int .i64 x.cost.a) (.int .i64 x.cost.b) (.int .i64 x.cost.c) (.int .i64 x.cost.d) (.slice x.A x.n x.cap))
    have HBB := Lib.hid (hB.perm hys)
    clear hI hbx R hK hmk hB hys
    gi_wp2
    gi_region
    all_goals
      gi_wp2
      refine leaves_marks _ _ (Marks.drew HR6.out.2.1) ?_
      intro w' hs
      have RW := hs.blk (Blk.drew HR6.out.1)
      have y0 := RW.cell 0
      have y1 := RW.cell 1
      have y2 := RW.cell 2
      have y3 := RW.cell 3
      have y4 := RW.cell 4
      have y5 := RW.cell 5
      refine ⟨.tuple #[x.val, .bool f], ?_, ⟨x.val, f, rfl, HBB.out, (below_drewN HR6.out.2.2 1).trans hs.below⟩⟩
      simp [results, Tryd.results114, go_sem, y0, y1, y2, y3, y4, y5]
  case stop =>
    rintro D cd pre Wr _ _ h _
    exact h.elim
end Go.Proofs.YtahkjagjcogeiaaDoor
