/- Part 6 of the texts of this claim, joined. -/
import Derived.Laws.MakeOwn
import Derived.Test.YtahkjagjcogeiaaDoorTi5
/- append inside a fence, whatever its source; the marks of a function shut: maps lie as they lay. -/
namespace Go.Proofs.YtahkjagjcogeiaaDoor
open Go.RowKit
set_option linter.unusedVariables false

theorem wpListIn_append_any {F : Fence} {nn : Nat} {P : Program} {w : World} {ops : Array Oper} {rest : List Oper} {o : Oper} {a : Act} {Q : Exit → Act → World → Prop} (hgd : o.guard = none) (s x : Operand) {t e : TypeId}
    (ho : o.op = .call { callee := .builtin .append, args := #[s, x], argTypes := #[t, t] })
    {z : Value} {size bytes : Nat} (EE : ElemAt P t e z size bytes) {base : Nat} {A : Option Addr} {n cap : Nat} {xs : List Value} (hs : a.eval s = .slice A n cap) (hown : Own w base e size A n cap xs)
    {A2 : Option Addr} {m c B : Nat} {news : List Value} (hx : a.eval x = .slice A2 m c) (hR : Reads w B size A2 m news) (h1 : ∀ u ∈ news, u.oneCell' = true) (h63 : n + m ≤ maxLen) (hbytes : (n + m) * bytes ≤ 140737488355328) (hbase : base ≤ w.heap.size)
    (h : ∀ A' cap' w', Own w' base e size A' (n + m) cap' (xs ++ news) → w.grownBy w' (A.map (·.block)) → (A' = A ∨ A' = some ⟨w.heap.size, 0, none⟩) → wpListIn F nn P ops Q rest (a.put o.dst (.slice A' (n + m) cap')) w') :
    wpListIn F nn P ops Q (o :: rest) a w := by
  refine wpListIn_plain hgd fun K hK => ?_
  obtain ⟨A', cap', w', hr, h2, h3, h4⟩ := run_append_any (P := P) w o.type EE hown hR (c := c) h1 h63 hbytes hbase
  unfold Oper.wpIn
  refine ⟨?_, ?_⟩
  · simp [Oper.about, ho, resolve, Target.leads, Sem.run_pure]
  · rw [Oper.semAt_plain F _ _ (by rw [ho]; intro c hc'; cases hc')]
    unfold execOp
    simp only [ho, resolve, invoke, builtin, Sem.run_bind, Sem.run_pure, Result.andThen_ok, List.map_toArray, List.map_cons, List.map_nil, hs, hx, hr]
    exact hK _ _ (h A' cap' w' h2 h3 h4)

/-- What shutting the marks leaves: all that is no block of deferred calls. -/
structure ShutD (B : Nat) (w w' : World) : Prop where
  below : Below B w w'
  others : ∀ (b : Nat) o, w.heap[b]? = some o → (∀ x, o ≠ .deferred x) → w'.heap[b]? = some o
theorem ShutD.refl (B : Nat) (w : World) : ShutD B w w := ⟨Below.refl _ _, fun _ _ h _ => h⟩
theorem ShutD.trans {B : Nat} {w w' w'' : World} (h : ShutD B w w') (k : ShutD B w' w'') : ShutD B w w'' := ⟨h.below.trans k.below, fun b o e hn => k.others b o (h.others b o e hn) hn⟩
theorem ShutD.blk {B g : Nat} {w w' : World} {t : TypeId} {cs : Array Value} (h : ShutD B w w') (b : Blk w g t cs) : Blk w' g t cs := h.others _ _ b (fun x e => by cases e)
theorem ShutD.own {B base n cap size : Nat} {w w' : World} {e : TypeId} {A : Option Addr} {xs : List Value} (h : ShutD B w w') (o : Own w base e size A n cap xs) : Own w' base e size A n cap xs := by
  refine ⟨o.1, ?_⟩
  rcases o.2 with h' | ⟨g, cap', cur, hv, hb, hg, hr⟩
  · exact .inl h'
  · exact .inr ⟨g, cap', cur, hv, hb, h.others g _ hg (fun x e => by cases e), hr⟩
theorem ShutD.reads {B B' size n : Nat} {w w' : World} {A : Option Addr} {xs : List Value} (h : ShutD B w w') (r : Reads w B' size A n xs) : Reads w' B' size A n xs := by
  rcases Nat.eq_zero_or_pos size with h0 | h0
  · refine ⟨r.1, fun hn => ?_⟩
    obtain ⟨ad, e, hb, hc⟩ := r.2 hn
    refine ⟨ad, e, hb, fun j u hu => ?_⟩
    have := (List.getElem?_eq_some_iff.1 hu).1
    rw [r.1, h0] at this
    omega
  · refine ⟨r.1, fun hn => ?_⟩
    obtain ⟨ad, e, hb, hc⟩ := r.2 hn
    refine ⟨ad, e, hb, fun j u hu => ?_⟩
    have h1 := hc j u hu
    obtain ⟨o, ho, hcell⟩ := cells_of_cell h1
    rw [← h1]
    refine World.cell?_of_block ?_
    rw [ho]
    exact h.others _ _ ho (fun x e => by subst e; simp [Obj.isCells] at hcell)

theorem shutD_put {B r : Nat} {w : World} (hB : B ≤ r) (h : w.heap[r]? = some (.deferred (some []))) : ShutD B w (w.putObj r (.deferred none)) := by
  have hlt := (Array.getElem?_eq_some_iff.1 h).1
  refine ⟨(Below.refl B w).grown (grownBy_putObj' w r (.deferred none)) (by omega) (fun k e => by cases e; exact hB), fun b o e hn => ?_⟩
  have hne : b ≠ r := by
    intro e'
    subst e'
    rw [h] at e
    cases e
    exact hn _ rfl
  exact (World.putObj_heap_other hne).trans e

theorem leaves_marksD {F : Fence} {n : Nat} {P : Program} {fn : Func} {tmps : Array Value} {R : Ending → World → Prop} {B : Nat} : ∀ (ds : List Deferred) (w : World), Marks B w ds →
    (∀ w', ShutD B w w' → LeavesIn F n P fn tmps R [] .returning w') → LeavesInM F n P fn tmps R ds .returning w
  | [], w, _, h => h w (ShutD.refl _ _)
  | d :: ds, w, ⟨⟨r, h1, h2, h3, h4⟩, h5⟩, h => by
    refine ⟨by simp, .inl ⟨r, _, h2, run_takeDeferred h3, ?_⟩⟩
    refine leaves_marksD ds _ (h5.keep fun d' hd r' hr h0 => ?_) (fun w' hs => h w' ((shutD_put h1 h3).trans hs))
    have hne : r' ≠ r := by
      intro e
      subst e
      exact h4 d' hd hr
    exact (World.putObj_heap_other hne).trans h0
end Go.Proofs.YtahkjagjcogeiaaDoor
/- climb.End: what a skin holds at the end of a walk. -/
namespace Go.Proofs.YtahkjagjcogeiaaDoor
open Go.RowKit Go.Shelf
set_option linter.unusedVariables false

def endE (t : Town) (s : Skin) (place : Int) (l : List Int) : Int := if or2 (askE t [place]) (dryE s) = 0 then betE t place l else or2 (askE t [place]) (dryE s)
def endV (t : Town) (s : Skin) (place : Int) (l : List Int) : Span := if endE t s place l = 0 then ⟨max 0 (s.drops - firstA t (lossP s.pace.hi s.step.hi) place l), max 0 (s.drops - firstA t (lossP s.pace.lo s.step.lo) place l)⟩ else ⟨0, 0⟩
def EndOut (w : World) (v : Span) (e : Int) (x : Ending) (w' : World) : Prop := x = .returned (.tuple #[.agg #[.int .i64 v.lo, .int .i64 v.hi], .int .i64 e]) ∧ Below w.heap.size w w'

set_option maxRecDepth 100000 in
set_option maxHeartbeats 16000000 in
theorem end_in (A : Option Addr) (n c : Nat) (A' : Option Addr) (m d : Nat) (t : Town) (s : Skin) (place : Int) (A2 : Option Addr) (k2 c2 : Nat) (l : List Int) (w : World)
    (hn : n ≤ 1000) (hm : m ≤ 1000) (hk2 : k2 ≤ 1000) (ht : TownAt w w.heap.size A n A' m t) (hr : IntsAt w w.heap.size A2 k2 l) (hL : Laid w) :
    CallsIn Fence.wide 9 Tryd.prog 11 #[.agg #[.slice A n c, .slice A' m d], .agg #[.int .i64 s.drops, .int .i64 s.pace.lo, .int .i64 s.pace.hi, .int .i64 s.step.lo, .int .i64 s.step.hi], .int .i64 place, .slice A2 k2 c2] w (EndOut w (endV t s place l) (endE t s place l)) := by
  have HT := Lib.hid ht
  have HR := Lib.hid hr
  have HL := Lib.hid hL
  have hl0 := hL.2.2.2
  clear ht hr hL
  refine callsIn_of_wp Tryd.func11 rfl trivial ?_ rfl
  simp only [Tryd.ntmps11, List.size_toArray, List.length_cons, List.length_nil, Nat.reduceAdd, Nat.reduceSub, Array.replicate_succ, Array.replicate_zero, List.push_toArray, List.append_toArray, List.nil_append, List.cons_append]
  gi_wp2
  have L0 := Lay.three w 25 #[.slice A n c, .slice A' m d] 29 #[.int .i64 s.drops, .int .i64 s.pace.lo, .int .i64 s.pace.hi, .int .i64 s.step.lo, .int .i64 s.step.hi] 27 #[.int .i64 0, .int .i64 0]
  have HLay := Lib.hid L0
  clear L0
  generalize (((w.alloc (.cells #[.slice A n c, .slice A' m d] 25)).alloc (.cells #[.int .i64 s.drops, .int .i64 s.pace.lo, .int .i64 s.pace.hi, .int .i64 s.step.lo, .int .i64 s.step.hi] 29)).alloc (.cells #[.int .i64 0, .int .i64 0] 27)) = w0 at *
  refine wpIn_flow_old [([true, true, false, false, true], 2), ([], 3), ([], 5), ([], 6), ([], 7)] [false, false, false, false, false, false, false, false, true] [] (by kernel_rfl) (by kernel_rfl) (by kernel_rfl) (below_drewN (Below.refl _ _) 1) ?_
  refine wpFlow_cons (A := ?AF1) rfl ?hq1 ?_
  case hq1 =>
    rintro σ hσ of hof hcl
    have HOF := Lib.hid hof
    clear hof hcl
    have t0 : ∀ z, (of z).cell? ⟨w.heap.size, 0, none⟩ = some (.slice A n c) := fun z => ((HLay.out.below (HOF.out z)).blk 0 rfl).cell 0
    have t1 : ∀ z, (of z).cell? ⟨w.heap.size, 1, none⟩ = some (.slice A' m d) := fun z => ((HLay.out.below (HOF.out z)).blk 0 rfl).cell 1
    have s0 : ∀ z, (of z).cell? ⟨w.heap.size + 1, 0, none⟩ = some (.int .i64 s.drops) := fun z => ((HLay.out.below (HOF.out z)).blk 1 rfl).cell 0
    have s1 : ∀ z, (of z).cell? ⟨w.heap.size + 1, 1, none⟩ = some (.int .i64 s.pace.lo) := fun z => ((HLay.out.below (HOF.out z)).blk 1 rfl).cell 1
    have s2 : ∀ z, (of z).cell? ⟨w.heap.size + 1, 2, none⟩ = some (.int .i64 s.pace.hi) := fun z => ((HLay.out.below (HOF.out z)).blk 1 rfl).cell 2
    have s3 : ∀ z, (of z).cell? ⟨w.heap.size + 1, 3, none⟩ = some (.int .i64 s.step.lo) := fun z => ((HLay.out.below (HOF.out z)).blk 1 rfl).cell 3
    have s4 : ∀ z, (of z).cell? ⟨w.heap.size + 1, 4, none⟩ = some (.int .i64 s.step.hi) := fun z => ((HLay.out.below (HOF.out z)).blk 1 rfl).cell 4
    have hfw : ∀ f, Fence.wide.fn f := fun _ => trivial
    simp only [pickB]
    repeat (gi_big_quiet_step (fail))
    refine wpQuietIn_nil ?_
    exact rfl
  intro W1 hW1
  gi_wp2
  refine ⟨trivial, (Below.refl _ _).alloc (Nat.le_refl _) _, ?_⟩
  have HLay1 := Lib.hid ((HLay.out.below hW1).below ((Below.refl _ _).alloc (Nat.le_refl _) (.cells #[.int .i64 place] 3)))
  have HPl : Hid (IntsAt (W1.alloc (.cells #[.int .i64 place] 3)) (W1.alloc (.cells #[.int .i64 place] 3)).heap.size (some ⟨W1.heap.size, 0, none⟩) 1 [place]) := Lib.hid (IntsAt.new W1 3 [place] _ (by simp))
  obtain ⟨P1, hP1⟩ : ∃ P1, W1.heap.size = P1 := ⟨_, rfl⟩
  rw [hP1] at HPl ⊢
  generalize (W1.alloc (.cells #[.int .i64 place] 3)) = V1 at *
  clear hW1
  refine wpFlow_cons rfl Quietly.none ?_
  intro W2 hW2
  have HLay2 := Lib.hid (HLay1.out.below hW2)
  have hlw := (HLay2.out.blk 1 rfl).lt
  gi_wp2
  refine ⟨trivial, (callsIn_wide.2 (asked_any A n c A' m d t (some ⟨P1, 0, none⟩) 1 1 [place] W2 (by unfold maxLen; omega) (by unfold maxLen; omega) (by decide) ((HT.out.below HLay2.out.1).more HLay2.out.1.size) ((HPl.out.below hW2).more hW2.size) (HL.out.below HLay2.out.1 hl0))).mono ?_⟩
  rintro e W3 ⟨rfl, hb3⟩
  gi_wp2
  refine ⟨trivial, hb3, ?_⟩
  have HLay3 := Lib.hid (HLay2.out.below hb3)
  clear hb3 hW2 HLay1 HLay2
  refine wpFlow_cons rfl Quietly.none ?_
  intro W4 hW4
  have HLay4 := Lib.hid (HLay3.out.below hW4)
  gi_wp2
  refine ⟨trivial, (callsIn_wide.2 (dry_any s W4)).mono ?_⟩
  rintro e W5 ⟨rfl, hb5⟩
  gi_wp2
  refine ⟨trivial, hb5, ?_⟩
  have HLay5 := Lib.hid (HLay4.out.below hb5)
  clear hb5 hW4 HLay3 HLay4
  refine wpFlow_cons rfl Quietly.none ?_
  intro W6 hW6
  gi_wp2
  refine ⟨trivial, (Below.refl _ _).alloc (Nat.le_refl _) _, ?_⟩
  have HLay6 := Lib.hid ((HLay5.out.below hW6).below ((Below.refl _ _).alloc (Nat.le_refl _) (.cells #[.int .i64 (askE t [place]), .int .i64 (dryE s)] 32)))
  have HOr := Lib.hid (Blk.new W6 32 #[.int .i64 (askE t [place]), .int .i64 (dryE s)])
  obtain ⟨P2, hP2⟩ : ∃ P2, W6.heap.size = P2 := ⟨_, rfl⟩
  rw [hP2] at HOr ⊢
  generalize (W6.alloc (.cells #[.int .i64 (askE t [place]), .int .i64 (dryE s)] 32)) = V6 at *
  clear hW6 HLay5
  refine wpFlow_cons rfl Quietly.none ?_
  intro W7 hW7
  gi_wp2
  refine ⟨trivial, (callsIn_wide.2 (or_any (askE t [place]) (dryE s) P2 W7 (HOr.out.below hW7 HOr.out.lt))).mono ?_⟩
  rintro e W8 ⟨rfl, rfl⟩
  gi_wp2
  refine ⟨trivial, Below.refl _ _, ?_⟩
  have HLay7 := Lib.hid (HLay6.out.below hW7)
  clear hW7 HLay6 HOr
  obtain ⟨ee, hee⟩ : ∃ ee, or2 (askE t [place]) (dryE s) = ee := ⟨_, rfl⟩
  rw [hee]
  have HEE := Lib.hid hee
  clear hee
  refine wpFlow_nil (A := ?AF9) ?hq9 ?_
  case hq9 =>
    rintro σ hσ of hof hcl
    simp only [pickB]
    repeat (gi_big_quiet_step (fail))
    refine wpQuietIn_nil ?_
    exact rfl
  intro W9 hW9
  simp only [pickB]
  refine wpT_nil ?_
  have HLay9 := Lib.hid (HLay7.out.below hW9)
  clear hW9 HLay7
  have r0 := (HLay9.out.blk 2 rfl).cell 0
  have r1 := (HLay9.out.blk 2 rfl).cell 1
  have z0 := (HLay9.out.blk 2 rfl).frozen 0
  have z1 := (HLay9.out.blk 2 rfl).frozen 1
  have hl2 := HLay9.out.lt 2 rfl
  by_cases h0 : ee = 0
  · subst h0
    have HOK := Lib.hid (or2_zero HEE.out)
    obtain ⟨htb, hhas⟩ := askE_zero HOK.out.1
    have HG := Lib.hid (goodT htb)
    have HGS := Lib.hid (goodS (dryE_zero HOK.out.2))
    have hm20 : m ≤ 20 := by have := HG.out.links; have := HT.out.links.len; omega
    clear htb hhas
    gi_wp2
    clear r0 r1 z0 z1 hl2 hlw HLay
    refine wpIn_flow_new [([true, true, true, true, true, true, true, true, true, false, true, true, true, true, true, true], 9), ([], 16), ([], 17)] [false, false, false, false, false, false, false, false, false, false, false, false, false, false, false, false, false, false, true, true, true, false, false, true] [false, false, false, false, false, false, false, false, false, false, false, false, false, false, false, false, false, false, false, false, false, false, true] 21 (fun b => .pointer (some ⟨b, 0, none⟩)) 27 #[.int .i64 0, .int .i64 0] (by kernel_rfl) (by kernel_rfl) (by kernel_rfl) (below_drewN (Below.refl _ _) 1) rfl rfl rfl (fun _ _ => rfl) (fun _ _ => rfl) ?_
    refine wpFlow_cons (A := ?AF2) rfl ?hq2 ?_
    case hq2 =>
      rintro σ hσ of hof hcl
      have HOF := Lib.hid hof
      clear hof hcl
      have t0 : ∀ z, (of z).cell? ⟨w.heap.size, 0, none⟩ = some (.slice A n c) := fun z => ((HLay9.out.below (HOF.out z)).blk 0 rfl).cell 0
      have t1 : ∀ z, (of z).cell? ⟨w.heap.size, 1, none⟩ = some (.slice A' m d) := fun z => ((HLay9.out.below (HOF.out z)).blk 0 rfl).cell 1
      have s1 : ∀ z, (of z).cell? ⟨w.heap.size + 1, 1, none⟩ = some (.int .i64 s.pace.lo) := fun z => ((HLay9.out.below (HOF.out z)).blk 1 rfl).cell 1
      have s2 : ∀ z, (of z).cell? ⟨w.heap.size + 1, 2, none⟩ = some (.int .i64 s.pace.hi) := fun z => ((HLay9.out.below (HOF.out z)).blk 1 rfl).cell 2
      have s3 : ∀ z, (of z).cell? ⟨w.heap.size + 1, 3, none⟩ = some (.int .i64 s.step.lo) := fun z => ((HLay9.out.below (HOF.out z)).blk 1 rfl).cell 3
      have s4 : ∀ z, (of z).cell? ⟨w.heap.size + 1, 4, none⟩ = some (.int .i64 s.step.hi) := fun z => ((HLay9.out.below (HOF.out z)).blk 1 rfl).cell 4
      have hfw : ∀ f, Fence.wide.fn f := fun _ => trivial
      simp only [pickB]
      repeat (gi_big_quiet_step (fail))
      refine wpQuietIn_nil ?_
      exact rfl
    intro W10 hW10
    gi_wp2
    refine ⟨trivial, (callsIn_wide.2 (drips_any s.pace.lo s.step.lo W10 (by have := HGS.out.pace; omega) (by have := HGS.out.step; omega))).mono ?_⟩
    rintro e W11 ⟨⟨b1, b2, rfl, hp1⟩, hb11⟩
    have HP1 := Lib.hid hp1
    have HLay11 := Lib.hid ((HLay9.out.below hW10).below hb11)
    gi_wp2
    refine ⟨trivial, hb11, ?_⟩
    clear hp1 hW10 hb11
    refine wpFlow_cons rfl Quietly.none ?_
    intro W12 hW12
    gi_wp2
    refine ⟨trivial, (callsIn_wide.2 (drips_any s.pace.hi s.step.hi W12 (by have := HGS.out.pace; omega) (by have := HGS.out.step; omega))).mono ?_⟩
    rintro e W13 ⟨⟨b3, b4, rfl, hp2⟩, hb13⟩
    have HP2 := Lib.hid hp2
    have HP13 := Lib.hid (HP1.out.below (hW12.trans (hb13.mono hW12.size)))
    have HLay13 := Lib.hid ((HLay11.out.below hW12).below hb13)
    gi_wp2
    refine ⟨trivial, hb13, ?_⟩
    clear hp2 hW12 hb13 HP1
    refine wpFlow_cons rfl Quietly.none ?_
    intro W14 hW14
    have HLay14 := Lib.hid (HLay13.out.below hW14)
    gi_wp2
    refine ⟨trivial, (callsIn_wide.2 (between_any A n c A' m d _ _ _ _ (lossP s.pace.lo s.step.lo) (lossP s.pace.hi s.step.hi) t place A2 k2 c2 l W14 hm20 hk2 ((HT.out.links.below HLay14.out.1).more HLay14.out.1.size) (HP13.out.below hW14) (HP2.out.below hW14) HG.out.fine (lossP_fair (by have := HGS.out.pace; omega) (by have := HGS.out.step; omega)) (lossP_fair (by have := HGS.out.pace; omega) (by have := HGS.out.step; omega)) ((HR.out.below HLay14.out.1).more HLay14.out.1.size))).mono ?_⟩
    rintro e W15 ⟨rfl, hb15⟩
    have HLay15 := Lib.hid (HLay14.out.below hb15)
    gi_wp2
    refine ⟨trivial, hb15, ?_⟩
    clear hW14 hb15 HP2 HP13 HLay11 HLay13 HLay14
    refine wpFlow_nil (A := ?AF3) ?hq3 ?_
    case hq3 =>
      rintro σ hσ of hof hcl
      simp only [pickB]
      repeat (gi_big_quiet_step (fail))
      refine wpQuietIn_nil ?_
      exact rfl
    intro b W16 hW16 hbg hbb _
    have HLay16 := Lib.hid ((HLay15.out.below hW16).add (Nat.le_trans HLay9.out.1.size hbg) hbb)
    have HBG := Lib.hid hbg
    have c0 := hbb.cell 0
    have c1 := hbb.cell 1
    have z0 := hbb.frozen 0
    have z1 := hbb.frozen 1
    have hbl := hbb.lt
    clear hW16 hbg hbb HLay15
    simp only [pickB]
    refine wpT_cons ?_
    gi_wp2
    refine wpT_nil ?_
    have HLay17 := Lib.hid ((HLay16.out.setLast (fun p hp e => by have := (HLay9.out.2 p hp).2.lt; have := HBG.out; omega) 0 (.int .i64 (firstA t (lossP s.pace.lo s.step.lo) place l))).setLast (fun p hp e => by have := (HLay9.out.2 p hp).2.lt; have := HBG.out; omega) 1 (.int .i64 (firstA t (lossP s.pace.hi s.step.hi) place l)))
    generalize ((W16.setCell ⟨b, 0, none⟩ (.int .i64 (firstA t (lossP s.pace.lo s.step.lo) place l))).setCell ⟨b, 1, none⟩ (.int .i64 (firstA t (lossP s.pace.hi s.step.hi) place l))) = W17 at *
    clear c0 c1 z0 z1 hbl HLay16
    have hb1 := firstA_bound HG.out.fine (lossP_fair (a := s.pace.lo) (b := s.step.lo) (by have := HGS.out.pace; omega) (by have := HGS.out.step; omega)) place l
    have hb2 := firstA_bound HG.out.fine (lossP_fair (a := s.pace.hi) (b := s.step.hi) (by have := HGS.out.pace; omega) (by have := HGS.out.step; omega)) place l
    have hv : ∀ e', betE t place l = e' → endE t s place l = e' := fun e' h => by unfold endE; rw [HEE.out, if_pos rfl, h]
    have HV := Lib.hid hv
    clear hv
    have HVV := Lib.hid (show endV t s place l = if endE t s place l = 0 then ⟨max 0 (s.drops - firstA t (lossP s.pace.hi s.step.hi) place l), max 0 (s.drops - firstA t (lossP s.pace.lo s.step.lo) place l)⟩ else ⟨0, 0⟩ from rfl)
    generalize firstA t (lossP s.pace.lo s.step.lo) place l = fa at *
    generalize firstA t (lossP s.pace.hi s.step.hi) place l = fb at *
    generalize betE t place l = eb at *
    obtain ⟨hd0, hd1⟩ := HGS.out.drops
    obtain ⟨hb10, hb11⟩ := hb1
    obtain ⟨hb20, hb21⟩ := hb2
    have r0 := (HLay17.out.blk 2 rfl).cell 0
    have r1 := (HLay17.out.blk 2 rfl).cell 1
    have z0 := (HLay17.out.blk 2 rfl).frozen 0
    have z1 := (HLay17.out.blk 2 rfl).frozen 1
    have s0 := (HLay17.out.blk 1 rfl).cell 0
    have q0 := (HLay17.out.blk 3 rfl).cell 0
    have q1 := (HLay17.out.blk 3 rfl).cell 1
    have hl1 := HLay17.out.lt 1 rfl
    have hl2 := HLay17.out.lt 2 rfl
    have hl3 := HLay17.out.lt 3 rfl
    by_cases he0 : eb = 0
    · subst he0
      gi_wp2
      all_goals
        have he := HV.out 0 rfl
        have hvv : endV t s place l = ⟨max 0 (s.drops - fb), max 0 (s.drops - fa)⟩ := by rw [HVV.out, he, if_pos rfl]
        clear r0 r1 z0 z1 s0 q0 q1
        first
        | (have R1 := ret2 (HLay17.out.blk 2 rfl) HLay17.out.1 (by omega) (.int .i64 (max 0 (s.drops - fb))) (.int .i64 (max 0 (s.drops - fa)))
           have y0 := R1.1.cell 0
           have y1 := R1.1.cell 1
           exact bodyPost_ret (v := .tuple #[.agg #[.int .i64 (max 0 (s.drops - fb)), .int .i64 (max 0 (s.drops - fa))], .int .i64 0]) (by simp [results, Tryd.results11, go_sem, y0, y1]) rfl ⟨by rw [he, hvv], R1.2⟩)
        | (have hx : max 0 (s.drops - fb) = 0 := by omega
           have hy : max 0 (s.drops - fa) = 0 := by omega
           have R1 := ret2 (HLay17.out.blk 2 rfl) HLay17.out.1 (by omega) (.int .i64 (0)) (.int .i64 (0))
           have y0 := R1.1.cell 0
           have y1 := R1.1.cell 1
           exact bodyPost_ret (v := .tuple #[.agg #[.int .i64 (0), .int .i64 (0)], .int .i64 0]) (by simp [results, Tryd.results11, go_sem, y0, y1]) rfl ⟨by rw [he, hvv, hx, hy], R1.2⟩)
        | (have hx : max 0 (s.drops - fb) = 0 := by omega
           have hy : max 0 (s.drops - fa) = s.drops - fa := by omega
           have R1 := ret2 (HLay17.out.blk 2 rfl) HLay17.out.1 (by omega) (.int .i64 (0)) (.int .i64 (s.drops - fa))
           have y0 := R1.1.cell 0
           have y1 := R1.1.cell 1
           exact bodyPost_ret (v := .tuple #[.agg #[.int .i64 (0), .int .i64 (s.drops - fa)], .int .i64 0]) (by simp [results, Tryd.results11, go_sem, y0, y1]) rfl ⟨by rw [he, hvv, hx, hy], R1.2⟩)
        | (have hx : max 0 (s.drops - fb) = s.drops - fb := by omega
           have hy : max 0 (s.drops - fa) = 0 := by omega
           have R1 := ret2 (HLay17.out.blk 2 rfl) HLay17.out.1 (by omega) (.int .i64 (s.drops - fb)) (.int .i64 (0))
           have y0 := R1.1.cell 0
           have y1 := R1.1.cell 1
           exact bodyPost_ret (v := .tuple #[.agg #[.int .i64 (s.drops - fb), .int .i64 (0)], .int .i64 0]) (by simp [results, Tryd.results11, go_sem, y0, y1]) rfl ⟨by rw [he, hvv, hx, hy], R1.2⟩)
        | (have hx : max 0 (s.drops - fb) = s.drops - fb := by omega
           have hy : max 0 (s.drops - fa) = s.drops - fa := by omega
           have R1 := ret2 (HLay17.out.blk 2 rfl) HLay17.out.1 (by omega) (.int .i64 (s.drops - fb)) (.int .i64 (s.drops - fa))
           have y0 := R1.1.cell 0
           have y1 := R1.1.cell 1
           exact bodyPost_ret (v := .tuple #[.agg #[.int .i64 (s.drops - fb), .int .i64 (s.drops - fa)], .int .i64 0]) (by simp [results, Tryd.results11, go_sem, y0, y1]) rfl ⟨by rw [he, hvv, hx, hy], R1.2⟩)
    · have h1 : (eb != 0) = true := by simpa using he0
      have HE0 := Lib.hid he0
      clear he0
      gi_wp2
      have R1 := ret2 (HLay17.out.blk 2 rfl) HLay17.out.1 (by omega) (.int .i64 0) (.int .i64 0)
      have y0 := R1.1.cell 0
      have y1 := R1.1.cell 1
      have he := HV.out eb rfl
      have hv : endV t s place l = ⟨0, 0⟩ := by rw [HVV.out, he, if_neg HE0.out]
      exact bodyPost_ret (v := .tuple #[.agg #[.int .i64 0, .int .i64 0], .int .i64 eb]) (by simp [results, Tryd.results11, go_sem, y0, y1]) rfl ⟨by rw [he, hv], R1.2⟩
  · have h1 : (ee != 0) = true := by simpa using h0
    have HE0 := Lib.hid h0
    clear h0
    gi_wp2
    have R1 := ret2 (HLay9.out.blk 2 rfl) HLay9.out.1 (by omega) (.int .i64 0) (.int .i64 0)
    have y0 := R1.1.cell 0
    have y1 := R1.1.cell 1
    have he : endE t s place l = ee := by unfold endE; rw [HEE.out, if_neg HE0.out]
    have hv : endV t s place l = ⟨0, 0⟩ := by unfold endV; rw [he, if_neg HE0.out]
    exact bodyPost_ret (v := .tuple #[.agg #[.int .i64 0, .int .i64 0], .int .i64 ee]) (by simp [results, Tryd.results11, go_sem, y0, y1]) rfl ⟨by rw [he, hv], R1.2⟩

theorem end_any (A : Option Addr) (n c : Nat) (A' : Option Addr) (m d : Nat) (t : Town) (s : Skin) (place : Int) (A2 : Option Addr) (k2 c2 : Nat) (l : List Int) (w : World)
    (hn : n ≤ 1000) (hm : m ≤ 1000) (hk2 : k2 ≤ 1000) (ht : TownAt w w.heap.size A n A' m t) (hr : IntsAt w w.heap.size A2 k2 l) (hL : Laid w) :
    Calls Tryd.prog 11 #[.agg #[.slice A n c, .slice A' m d], .agg #[.int .i64 s.drops, .int .i64 s.pace.lo, .int .i64 s.pace.hi, .int .i64 s.step.lo, .int .i64 s.step.hi], .int .i64 place, .slice A2 k2 c2] w (EndOut w (endV t s place l) (endE t s place l)) :=
  callsIn_wide.1 (end_in A n c A' m d t s place A2 k2 c2 l w hn hm hk2 ht hr hL)
end Go.Proofs.YtahkjagjcogeiaaDoor
/- climb.Seconds: how long a walk takes. -/
namespace Go.Proofs.YtahkjagjcogeiaaDoor
open Go.RowKit Go.Shelf
set_option linter.unusedVariables false

def secE (t : Town) (s : Gait) (place : Int) (l : List Int) : Int := if or2 (askE t [place]) (slowE s) = 0 then betE t place l else or2 (askE t [place]) (slowE s)
def secV (t : Town) (s : Gait) (place : Int) (l : List Int) : Span := if or2 (askE t [place]) (slowE s) = 0 then ⟨firstA t (timeP s.pace.lo s.step.lo) place l, firstA t (timeP s.pace.hi s.step.hi) place l⟩ else ⟨0, 0⟩

set_option maxRecDepth 100000 in
set_option maxHeartbeats 16000000 in
theorem seconds_in (A : Option Addr) (n c : Nat) (A' : Option Addr) (m d : Nat) (t : Town) (s : Gait) (place : Int) (A2 : Option Addr) (k2 c2 : Nat) (l : List Int) (w : World)
    (hn : n ≤ 1000) (hm : m ≤ 1000) (hk2 : k2 ≤ 1000) (ht : TownAt w w.heap.size A n A' m t) (hr : IntsAt w w.heap.size A2 k2 l) (hL : Laid w) :
    CallsIn Fence.wide 9 Tryd.prog 27 #[.agg #[.slice A n c, .slice A' m d], .agg #[.int .i64 s.pace.lo, .int .i64 s.pace.hi, .int .i64 s.step.lo, .int .i64 s.step.hi], .int .i64 place, .slice A2 k2 c2] w (EndOut w (secV t s place l) (secE t s place l)) := by
  have HT := Lib.hid ht
  have HL := Lib.hid hL
  have hl0 := hL.2.2.2
  clear ht hL
  have HR := Lib.hid hr
  clear hr
  refine callsIn_of_wp Tryd.func27 rfl trivial ?_ rfl
  simp only [Tryd.ntmps27, List.size_toArray, List.length_cons, List.length_nil, Nat.reduceAdd, Nat.reduceSub, Array.replicate_succ, Array.replicate_zero, List.push_toArray, List.append_toArray, List.nil_append, List.cons_append]
  gi_wp2
  have HLay := Lib.hid (Lay.three w 25 #[.slice A n c, .slice A' m d] 66 #[.int .i64 s.pace.lo, .int .i64 s.pace.hi, .int .i64 s.step.lo, .int .i64 s.step.hi] 27 #[.int .i64 0, .int .i64 0])
  generalize (((w.alloc (.cells #[.slice A n c, .slice A' m d] 25)).alloc (.cells #[.int .i64 s.pace.lo, .int .i64 s.pace.hi, .int .i64 s.step.lo, .int .i64 s.step.hi] 66)).alloc (.cells #[.int .i64 0, .int .i64 0] 27)) = w0 at *
  refine wpIn_flow_old [([true, true, false, false, true], 2), ([], 3), ([], 5), ([], 6), ([], 7)] [false, false, false, false, false, false, false, false, true] [] (by kernel_rfl) (by kernel_rfl) (by kernel_rfl) (below_drewN (Below.refl _ _) 1) ?_
  refine wpFlow_cons (A := ?AF1) rfl ?hq1 ?_
  case hq1 =>
    rintro σ hσ of hof hcl
    have HOF := Lib.hid hof
    have HCL := Lib.hid hcl
    clear hof hcl
    have c0_ : ∀ z, (of z).cell? ⟨w.heap.size, 0, none⟩ = some (.slice A n c) := fun z => ((HLay.out.below (HOF.out z)).blk 0 rfl).cell 0
    have c1_ : ∀ z, (of z).cell? ⟨w.heap.size, 1, none⟩ = some (.slice A' m d) := fun z => ((HLay.out.below (HOF.out z)).blk 0 rfl).cell 1
    have c2_ : ∀ z, (of z).cell? ⟨w.heap.size + 1, 0, none⟩ = some (.int .i64 s.pace.lo) := fun z => ((HLay.out.below (HOF.out z)).blk 1 rfl).cell 0
    have c3_ : ∀ z, (of z).cell? ⟨w.heap.size + 1, 1, none⟩ = some (.int .i64 s.pace.hi) := fun z => ((HLay.out.below (HOF.out z)).blk 1 rfl).cell 1
    have c4_ : ∀ z, (of z).cell? ⟨w.heap.size + 1, 2, none⟩ = some (.int .i64 s.step.lo) := fun z => ((HLay.out.below (HOF.out z)).blk 1 rfl).cell 2
    have c5_ : ∀ z, (of z).cell? ⟨w.heap.size + 1, 3, none⟩ = some (.int .i64 s.step.hi) := fun z => ((HLay.out.below (HOF.out z)).blk 1 rfl).cell 3
    have hfw : ∀ f, Fence.wide.fn f := fun _ => trivial
    simp only [pickB]
    repeat (gi_big_quiet_step (fail))
    refine wpQuietIn_nil ?_
    exact rfl
  intro W1 hW
  replace HLay := Lib.hid (HLay.out.below hW)
  clear hW
  gi_wp2
  refine ⟨trivial, (Below.refl _ _).alloc (Nat.le_refl _) _, ?_⟩
  have hb : Below W1.heap.size W1 (W1.alloc (.cells #[.int .i64 place] 3)) := (Below.refl _ _).alloc (Nat.le_refl _) _
  replace HLay := Lib.hid (HLay.out.below hb)
  have HPl := Lib.hid (show IntsAt (W1.alloc (.cells #[.int .i64 place] 3)) (W1.alloc (.cells #[.int .i64 place] 3)).heap.size (some ⟨W1.heap.size, 0, none⟩) 1 [place] from IntsAt.new W1 3 [place] _ (by simp))
  obtain ⟨P3, hP⟩ : ∃ P, W1.heap.size = P := ⟨_, rfl⟩
  rw [hP] at HPl ⊢
  generalize (W1.alloc (.cells #[.int .i64 place] 3)) = V2 at *
  clear hb hP
  refine wpFlow_cons rfl Quietly.none ?_
  intro W4 hW
  replace HLay := Lib.hid (HLay.out.below hW)
  replace HPl := Lib.hid ((HPl.out.below hW).more hW.size)
  clear hW
  have hlw := (HLay.out.blk 1 rfl).lt
  gi_wp2
  refine ⟨trivial, (callsIn_wide.2 (asked_any A n c A' m d t (some ⟨P3, 0, none⟩) 1 1 [place] W4 (by unfold maxLen; omega) (by unfold maxLen; omega) (by decide) ((HT.out.below HLay.out.1).more HLay.out.1.size) HPl.out (HL.out.below HLay.out.1 hl0))).mono ?_⟩
  rintro e W5 ⟨rfl, hb⟩
  replace HLay := Lib.hid (HLay.out.below hb)
  replace HPl := Lib.hid ((HPl.out.below hb).more hb.size)
  gi_wp2
  refine ⟨trivial, hb, ?_⟩
  clear hb
  clear HPl
  refine wpFlow_cons rfl Quietly.none ?_
  intro W6 hW
  replace HLay := Lib.hid (HLay.out.below hW)
  clear hW
  have hlw := (HLay.out.blk 1 rfl).lt
  gi_wp2
  refine ⟨trivial, (callsIn_wide.2 (slow_any s W6)).mono ?_⟩
  rintro e W7 ⟨rfl, hb⟩
  replace HLay := Lib.hid (HLay.out.below hb)
  gi_wp2
  refine ⟨trivial, hb, ?_⟩
  clear hb
  refine wpFlow_cons rfl Quietly.none ?_
  intro W8 hW
  replace HLay := Lib.hid (HLay.out.below hW)
  clear hW
  gi_wp2
  refine ⟨trivial, (Below.refl _ _).alloc (Nat.le_refl _) _, ?_⟩
  have hb : Below W8.heap.size W8 (W8.alloc (.cells #[.int .i64 (askE t [place]), .int .i64 (slowE s)] 32)) := (Below.refl _ _).alloc (Nat.le_refl _) _
  replace HLay := Lib.hid (HLay.out.below hb)
  have HOr := Lib.hid (Blk.new W8 32 #[.int .i64 (askE t [place]), .int .i64 (slowE s)])
  obtain ⟨P10, hP⟩ : ∃ P, W8.heap.size = P := ⟨_, rfl⟩
  rw [hP] at HOr ⊢
  generalize (W8.alloc (.cells #[.int .i64 (askE t [place]), .int .i64 (slowE s)] 32)) = V9 at *
  clear hb hP
  refine wpFlow_cons rfl Quietly.none ?_
  intro W11 hW
  replace HLay := Lib.hid (HLay.out.below hW)
  replace HOr := Lib.hid (HOr.out.below hW HOr.out.lt)
  clear hW
  gi_wp2
  refine ⟨trivial, (callsIn_wide.2 (or_any (askE t [place]) (slowE s) P10 W11 HOr.out)).mono ?_⟩
  rintro e W12 ⟨rfl, rfl⟩
  gi_wp2
  refine ⟨trivial, Below.refl _ _, ?_⟩
  clear HOr
  obtain ⟨ee, hee⟩ : ∃ ee, or2 (askE t [place]) (slowE s) = ee := ⟨_, rfl⟩
  rw [hee]
  have HEE := Lib.hid hee
  clear hee
  refine wpFlow_nil (A := ?AF2) ?hq2 ?_
  case hq2 =>
    rintro σ hσ of hof hcl
    have HOF := Lib.hid hof
    have HCL := Lib.hid hcl
    clear hof hcl
    have c0_ : ∀ z, (of z).cell? ⟨w.heap.size, 0, none⟩ = some (.slice A n c) := fun z => ((HLay.out.below (HOF.out z)).blk 0 rfl).cell 0
    have c1_ : ∀ z, (of z).cell? ⟨w.heap.size, 1, none⟩ = some (.slice A' m d) := fun z => ((HLay.out.below (HOF.out z)).blk 0 rfl).cell 1
    have c2_ : ∀ z, (of z).cell? ⟨w.heap.size + 1, 0, none⟩ = some (.int .i64 s.pace.lo) := fun z => ((HLay.out.below (HOF.out z)).blk 1 rfl).cell 0
    have c3_ : ∀ z, (of z).cell? ⟨w.heap.size + 1, 1, none⟩ = some (.int .i64 s.pace.hi) := fun z => ((HLay.out.below (HOF.out z)).blk 1 rfl).cell 1
    have c4_ : ∀ z, (of z).cell? ⟨w.heap.size + 1, 2, none⟩ = some (.int .i64 s.step.lo) := fun z => ((HLay.out.below (HOF.out z)).blk 1 rfl).cell 2
    have c5_ : ∀ z, (of z).cell? ⟨w.heap.size + 1, 3, none⟩ = some (.int .i64 s.step.hi) := fun z => ((HLay.out.below (HOF.out z)).blk 1 rfl).cell 3
    have hfw : ∀ f, Fence.wide.fn f := fun _ => trivial
    simp only [pickB]
    repeat (gi_big_quiet_step (fail))
    refine wpQuietIn_nil ?_
    exact rfl
  intro W13 hW
  replace HLay := Lib.hid (HLay.out.below hW)
  clear hW
  simp only [pickB]
  refine wpT_nil ?_
  have x2_0 := (HLay.out.blk 2 rfl).cell 0
  have z2_0 := (HLay.out.blk 2 rfl).frozen 0
  have x2_1 := (HLay.out.blk 2 rfl).cell 1
  have z2_1 := (HLay.out.blk 2 rfl).frozen 1
  have l2_ := HLay.out.lt 2 rfl
  by_cases h0 : ee = 0
  · subst h0
    have HOK := Lib.hid (or2_zero HEE.out)
    obtain ⟨htb, hhas⟩ := askE_zero HOK.out.1
    have HG := Lib.hid (goodT htb)
    have HGS := Lib.hid (goodG (slowE_zero HOK.out.2))
    have hm20 : m ≤ 20 := by have := HG.out.links; have := HT.out.links.len; omega
    clear htb hhas
    gi_wp2
    clear x2_0 z2_0 x2_1 z2_1 l2_
    clear hlw
    refine wpIn_flow_old [([true, true, true, true, true, true, true, true, true, false, true, true, true, true, true, true], 9), ([], 16), ([], 17)] [false, false, false, false, false, false, false, false, false, false, false, false, false, false, false, false, false, false, true, true, false, true] [false, false, false, false, false, false, false, false, false, false, false, false, false, false, false, false, false, false, false, false, true] (by kernel_rfl) (by kernel_rfl) (by kernel_rfl) (below_drewN (Below.refl _ _) 1) ?_
    refine wpFlow_cons (A := ?AF3) rfl ?hq3 ?_
    case hq3 =>
      rintro σ hσ of hof hcl
      have HOF := Lib.hid hof
      have HCL := Lib.hid hcl
      clear hof hcl
      have c0_ : ∀ z, (of z).cell? ⟨w.heap.size, 0, none⟩ = some (.slice A n c) := fun z => ((HLay.out.below (HOF.out z)).blk 0 rfl).cell 0
      have c1_ : ∀ z, (of z).cell? ⟨w.heap.size, 1, none⟩ = some (.slice A' m d) := fun z => ((HLay.out.below (HOF.out z)).blk 0 rfl).cell 1
      have c2_ : ∀ z, (of z).cell? ⟨w.heap.size + 1, 0, none⟩ = some (.int .i64 s.pace.lo) := fun z => ((HLay.out.below (HOF.out z)).blk 1 rfl).cell 0
      have c3_ : ∀ z, (of z).cell? ⟨w.heap.size + 1, 1, none⟩ = some (.int .i64 s.pace.hi) := fun z => ((HLay.out.below (HOF.out z)).blk 1 rfl).cell 1
      have c4_ : ∀ z, (of z).cell? ⟨w.heap.size + 1, 2, none⟩ = some (.int .i64 s.step.lo) := fun z => ((HLay.out.below (HOF.out z)).blk 1 rfl).cell 2
      have c5_ : ∀ z, (of z).cell? ⟨w.heap.size + 1, 3, none⟩ = some (.int .i64 s.step.hi) := fun z => ((HLay.out.below (HOF.out z)).blk 1 rfl).cell 3
      have hfw : ∀ f, Fence.wide.fn f := fun _ => trivial
      simp only [pickB]
      repeat (gi_big_quiet_step (fail))
      refine wpQuietIn_nil ?_
      exact rfl
    intro W14 hW
    replace HLay := Lib.hid (HLay.out.below hW)
    clear hW
    gi_wp2
    refine ⟨trivial, (callsIn_wide.2 (takes_any s.pace.lo s.step.lo W14 (by have := HGS.out.pace; omega) (by have := HGS.out.step; omega))).mono ?_⟩
    rintro e W15 ⟨⟨b1, b2, rfl, hp1⟩, hb⟩
    replace HLay := Lib.hid (HLay.out.below hb)
    have HP1 := Lib.hid hp1
    clear hp1
    gi_wp2
    refine ⟨trivial, hb, ?_⟩
    clear hb
    refine wpFlow_cons rfl Quietly.none ?_
    intro W16 hW
    replace HLay := Lib.hid (HLay.out.below hW)
    replace HP1 := Lib.hid (HP1.out.below hW)
    clear hW
    gi_wp2
    refine ⟨trivial, (callsIn_wide.2 (takes_any s.pace.hi s.step.hi W16 (by have := HGS.out.pace; omega) (by have := HGS.out.step; omega))).mono ?_⟩
    rintro e W17 ⟨⟨b3, b4, rfl, hp2⟩, hb⟩
    replace HLay := Lib.hid (HLay.out.below hb)
    replace HP1 := Lib.hid (HP1.out.below hb)
    have HP2 := Lib.hid hp2
    clear hp2
    gi_wp2
    refine ⟨trivial, hb, ?_⟩
    clear hb
    refine wpFlow_cons rfl Quietly.none ?_
    intro W18 hW
    replace HLay := Lib.hid (HLay.out.below hW)
    replace HP1 := Lib.hid (HP1.out.below hW)
    replace HP2 := Lib.hid (HP2.out.below hW)
    clear hW
    gi_wp2
    refine ⟨trivial, (callsIn_wide.2 (between_any A n c A' m d _ _ _ _ (timeP s.pace.lo s.step.lo) (timeP s.pace.hi s.step.hi) t place A2 k2 c2 l W18 hm20 hk2 ((HT.out.links.below HLay.out.1).more HLay.out.1.size) HP1.out HP2.out HG.out.fine (timeP_fair (a := s.pace.lo) (b := s.step.lo) (by have := HGS.out.pace; omega) (by have := HGS.out.step; omega)) (timeP_fair (a := s.pace.hi) (b := s.step.hi) (by have := HGS.out.pace; omega) (by have := HGS.out.step; omega)) ((HR.out.below HLay.out.1).more HLay.out.1.size))).mono ?_⟩
    rintro e W19 ⟨rfl, hb⟩
    replace HLay := Lib.hid (HLay.out.below hb)
    replace HP1 := Lib.hid (HP1.out.below hb)
    replace HP2 := Lib.hid (HP2.out.below hb)
    gi_wp2
    refine ⟨trivial, hb, ?_⟩
    clear hb
    clear HP1 HP2
    refine wpFlow_nil (A := ?AF4) ?hq4 ?_
    case hq4 =>
      rintro σ hσ of hof hcl
      have HOF := Lib.hid hof
      have HCL := Lib.hid hcl
      clear hof hcl
      have c0_ : ∀ z, (of z).cell? ⟨w.heap.size, 0, none⟩ = some (.slice A n c) := fun z => ((HLay.out.below (HOF.out z)).blk 0 rfl).cell 0
      have c1_ : ∀ z, (of z).cell? ⟨w.heap.size, 1, none⟩ = some (.slice A' m d) := fun z => ((HLay.out.below (HOF.out z)).blk 0 rfl).cell 1
      have c2_ : ∀ z, (of z).cell? ⟨w.heap.size + 1, 0, none⟩ = some (.int .i64 s.pace.lo) := fun z => ((HLay.out.below (HOF.out z)).blk 1 rfl).cell 0
      have c3_ : ∀ z, (of z).cell? ⟨w.heap.size + 1, 1, none⟩ = some (.int .i64 s.pace.hi) := fun z => ((HLay.out.below (HOF.out z)).blk 1 rfl).cell 1
      have c4_ : ∀ z, (of z).cell? ⟨w.heap.size + 1, 2, none⟩ = some (.int .i64 s.step.lo) := fun z => ((HLay.out.below (HOF.out z)).blk 1 rfl).cell 2
      have c5_ : ∀ z, (of z).cell? ⟨w.heap.size + 1, 3, none⟩ = some (.int .i64 s.step.hi) := fun z => ((HLay.out.below (HOF.out z)).blk 1 rfl).cell 3
      have hfw : ∀ f, Fence.wide.fn f := fun _ => trivial
      simp only [pickB]
      repeat (gi_big_quiet_step (fail))
      refine wpQuietIn_nil ?_
      exact rfl
    intro W20 hW
    replace HLay := Lib.hid (HLay.out.below hW)
    clear hW
    simp only [pickB]
    have x2_0 := (HLay.out.blk 2 rfl).cell 0
    have z2_0 := (HLay.out.blk 2 rfl).frozen 0
    have x2_1 := (HLay.out.blk 2 rfl).cell 1
    have z2_1 := (HLay.out.blk 2 rfl).frozen 1
    have l2_ := HLay.out.lt 2 rfl
    refine wpT_cons ?_
    gi_wp2
    refine wpT_nil ?_
    clear x2_0 z2_0 x2_1 z2_1 l2_
    have R1 := ret2 (HLay.out.blk 2 rfl) HLay.out.1 (by omega) (.int .i64 (firstA t (timeP s.pace.lo s.step.lo) place l)) (.int .i64 (firstA t (timeP s.pace.hi s.step.hi) place l))
    have y0 := R1.1.cell 0
    have y1 := R1.1.cell 1
    have he : secE t s place l = betE t place l := by unfold secE; rw [if_pos HEE.out]
    have hv : secV t s place l = ⟨firstA t (timeP s.pace.lo s.step.lo) place l, firstA t (timeP s.pace.hi s.step.hi) place l⟩ := by unfold secV; rw [if_pos HEE.out]
    gi_wp2
    exact bodyPost_ret (v := .tuple #[.agg #[.int .i64 (firstA t (timeP s.pace.lo s.step.lo) place l), .int .i64 (firstA t (timeP s.pace.hi s.step.hi) place l)], .int .i64 (betE t place l)]) (by simp [results, Tryd.results27, go_sem, y0, y1]) rfl ⟨by rw [he, hv], R1.2⟩
  · have h1 : (ee != 0) = true := by simpa using h0
    have HE0 := Lib.hid h0
    clear h0
    gi_wp2
    have R1 := ret2 (HLay.out.blk 2 rfl) HLay.out.1 (by omega) (.int .i64 (0)) (.int .i64 (0))
    have y0 := R1.1.cell 0
    have y1 := R1.1.cell 1
    have he : secE t s place l = ee := by unfold secE; rw [HEE.out, if_neg HE0.out]
    have hv : secV t s place l = ⟨0, 0⟩ := by unfold secV; rw [HEE.out, if_neg HE0.out]
    exact bodyPost_ret (v := .tuple #[.agg #[.int .i64 (0), .int .i64 (0)], .int .i64 (ee)]) (by simp [results, Tryd.results27, go_sem, y0, y1]) rfl ⟨by rw [he, hv], R1.2⟩

theorem seconds_any (A : Option Addr) (n c : Nat) (A' : Option Addr) (m d : Nat) (t : Town) (s : Gait) (place : Int) (A2 : Option Addr) (k2 c2 : Nat) (l : List Int) (w : World)
    (hn : n ≤ 1000) (hm : m ≤ 1000) (hk2 : k2 ≤ 1000) (ht : TownAt w w.heap.size A n A' m t) (hr : IntsAt w w.heap.size A2 k2 l) (hL : Laid w) :
    Calls Tryd.prog 27 #[.agg #[.slice A n c, .slice A' m d], .agg #[.int .i64 s.pace.lo, .int .i64 s.pace.hi, .int .i64 s.step.lo, .int .i64 s.step.hi], .int .i64 place, .slice A2 k2 c2] w (EndOut w (secV t s place l) (secE t s place l)) :=
  callsIn_wide.1 (seconds_in A n c A' m d t s place A2 k2 c2 l w hn hm hk2 ht hr hL)
end Go.Proofs.YtahkjagjcogeiaaDoor
/- The answer's walked: a list of links followed. -/
namespace Go.Proofs.YtahkjagjcogeiaaDoor
open Go.RowKit Go.Shelf
set_option linter.unusedVariables false

theorem linkI_cases (l : List Link) (id : Int) : (linkI l id = -1 ∧ ∀ x ∈ l, x.id ≠ id) ∨ ∃ (j : Nat) (x : Link), linkI l id = j ∧ l[j]? = some x ∧ x.id = id := by
  unfold linkI idxL
  by_cases h : l.any (fun y => y.id == id) = true
  · right
    rw [if_pos h]
    have hlt : l.findIdx (fun y => y.id == id) < l.length := List.findIdx_lt_length.2 (by simpa using h)
    exact ⟨_, _, rfl, List.getElem?_eq_getElem hlt, by simpa using List.findIdx_getElem (w := hlt)⟩
  · left
    rw [if_neg h]
    refine ⟨rfl, fun x hx e => h (List.any_eq_true.2 ⟨x, hx, by simpa using e⟩)⟩

/-- What is spent up to where a list is no walk. -/
def partC (t : Town) (p : Price) : Int × Cost → List Int → Cost
  | s, [] => s.2
  | s, i :: r => match stepF t p s.1 i with
    | none => s.2
    | some (m, c) => partC t p (m, addC s.2 c) r
def partF (t : Town) (p : Price) (u : Int) (l : List Int) : Cost := if 40 < l.length then zeroC else partC t p (u, zeroC) l
def pairW (t : Town) (p : Price) (s : Int × Cost) (l : List Int) : Option (Int × Cost) × Cost := (walkS t p s l, partC t p s l)
def RWalkedOut (w : World) (r : Option (Int × Cost) × Cost) (e : Ending) (w' : World) : Prop :=
  ∃ (x : Int) (co : Cost), e = .returned (.tuple #[.int .i64 x, costV co, .bool r.1.isSome]) ∧ (∀ q, r.1 = some q → q = (x, co)) ∧ Below w.heap.size w w' ∧ co = r.2 ∧ (r.1 = none → x = 0)

structure RWSt (w : World) (T : Array Value) (p : Price) (co : Cost) (W : World) : Prop where
  bel : Below w.heap.size w W
  tb : Blk W w.heap.size 25 T
  pb : Blk W (w.heap.size + 1) 107 #[.int .i64 p.pace, .int .i64 p.up, .int .i64 p.step]
  rb : Blk W (w.heap.size + 1 + 1) 103 #[.int .i64 0, .int .i64 0, .int .i64 0, .int .i64 0]
  sb : Blk W (w.heap.size + 1 + 1 + 1) 103 #[.int .i64 co.a, .int .i64 co.b, .int .i64 co.c, .int .i64 co.d]
theorem RWSt.below {w W W' : World} {T : Array Value} {p : Price} {co : Cost} (h : RWSt w T p co W) (hb : Below W.heap.size W W') : RWSt w T p co W' :=
  ⟨h.bel.trans (hb.mono h.bel.size), h.tb.below hb h.tb.lt, h.pb.below hb h.pb.lt, h.rb.below hb h.rb.lt, h.sb.below hb h.sb.lt⟩

theorem drop_at' {α : Type} {l : List α} {k : Nat} {x : α} (h : l[k]? = some x) : l.drop k = x :: l.drop (k + 1) := by
  obtain ⟨hk, e⟩ := List.getElem?_eq_some_iff.1 h
  rw [List.drop_eq_getElem_cons hk, e]
/-- A block of four cells written anew. -/
theorem ret4 {w W : World} {B g : Nat} {t : TypeId} {z0 z1 z2 z3 : Value} (R : Blk W g t #[z0, z1, z2, z3]) (L : Below B w W) (hg : B ≤ g) (v0 v1 v2 v3 : Value) :
    Blk ((((W.setCell ⟨g, 0, none⟩ v0).setCell ⟨g, 1, none⟩ v1).setCell ⟨g, 2, none⟩ v2).setCell ⟨g, 3, none⟩ v3) g t #[v0, v1, v2, v3] ∧ Below B w ((((W.setCell ⟨g, 0, none⟩ v0).setCell ⟨g, 1, none⟩ v1).setCell ⟨g, 2, none⟩ v2).setCell ⟨g, 3, none⟩ v3) :=
  ⟨(((R.set_ 0 v0).set_ 1 v1).set_ 2 v2).set_ 3 v3, (((L.setCell (p := ⟨g, 0, none⟩) hg _).setCell (p := ⟨g, 1, none⟩) hg _).setCell (p := ⟨g, 2, none⟩) hg _).setCell (p := ⟨g, 3, none⟩) hg _⟩

theorem RWSt.put {w W : World} {T : Array Value} {p : Price} {co : Cost} (h : RWSt w T p co W) (d : Cost) : RWSt w T p d ((((W.setCell ⟨w.heap.size + 1 + 1 + 1, 0, none⟩ (.int .i64 d.a)).setCell ⟨w.heap.size + 1 + 1 + 1, 1, none⟩ (.int .i64 d.b)).setCell ⟨w.heap.size + 1 + 1 + 1, 2, none⟩ (.int .i64 d.c)).setCell ⟨w.heap.size + 1 + 1 + 1, 3, none⟩ (.int .i64 d.d)) := by
  have X := ret4 (w := W) (B := w.heap.size + 1 + 1 + 1) h.sb (Below.refl _ _) (Nat.le_refl _) (.int .i64 d.a) (.int .i64 d.b) (.int .i64 d.c) (.int .i64 d.d)
  have Y := (ret4 h.sb h.bel (by omega) (.int .i64 d.a) (.int .i64 d.b) (.int .i64 d.c) (.int .i64 d.d)).2
  exact ⟨Y, h.tb.below X.2 (by omega), h.pb.below X.2 (by omega), h.rb.below X.2 (by omega), X.1⟩
theorem rleads_none {W : World} {n : Nat} (x : Link) (v : Int) (p : Price) (hr : leads false p x v = none) (hx : Fit x) (hp : Cheap p) {σ : Type} {of : σ → World} (h1 : ∀ z, Below W.heap.size W (of z)) (h2 : ∀ z W', Below (of z).heap.size (of z) W' → Cls of W') (z : σ) :
    CallsIn Fence.wide n Tryd.prog 112 #[.agg #[.int .i64 x.id, .int .i64 x.fr, .int .i64 x.to, .int .i64 x.steps, .int .i64 x.paces], .int .i64 v, .bool false, .agg #[.int .i64 p.pace, .int .i64 p.up, .int .i64 p.step]] (of z) fun e w'' => e = .returned (.tuple #[.int .i64 0, .agg #[.int .i64 0, .int .i64 0, .int .i64 0, .int .i64 0], .bool false]) ∧ Cls of w'' :=
  (callsIn_wide.2 (leads_any x v false p (of z) hx hp)).mono fun e w'' ⟨he, hb⟩ => ⟨by rw [he, hr]; rfl, h2 z _ hb⟩
theorem rleads_some {W : World} {n : Nat} (x : Link) (v : Int) (p : Price) (v' : Int) (cx : Cost) (hr : leads false p x v = some (v', cx)) (hx : Fit x) (hp : Cheap p) {σ : Type} {of : σ → World} (h1 : ∀ z, Below W.heap.size W (of z)) (h2 : ∀ z W', Below (of z).heap.size (of z) W' → Cls of W') (z : σ) :
    CallsIn Fence.wide n Tryd.prog 112 #[.agg #[.int .i64 x.id, .int .i64 x.fr, .int .i64 x.to, .int .i64 x.steps, .int .i64 x.paces], .int .i64 v, .bool false, .agg #[.int .i64 p.pace, .int .i64 p.up, .int .i64 p.step]] (of z) fun e w'' => e = .returned (.tuple #[.int .i64 v', .agg #[.int .i64 cx.a, .int .i64 cx.b, .int .i64 cx.c, .int .i64 cx.d], .bool true]) ∧ Cls of w'' :=
  (callsIn_wide.2 (leads_any x v false p (of z) hx hp)).mono fun e w'' ⟨he, hb⟩ => ⟨by rw [he, hr]; rfl, h2 z _ hb⟩

set_option maxRecDepth 100000 in
set_option maxHeartbeats 8000000 in
theorem rwalked_in (A : Option Addr) (n c : Nat) (A' : Option Addr) (m d : Nat) (p : Price) (t : Town) (place : Int) (A2 : Option Addr) (k2 c2 : Nat) (l : List Int) (w : World)
    (hm : m ≤ 1000) (hk2 : k2 ≤ 1000) (ht : LinksAt w w.heap.size A' m t.links) (hp : Cheap p) (hfine : Fine t) (hfair : Fair p) (hr : IntsAt w w.heap.size A2 k2 l) :
    CallsIn Fence.wide 9 Tryd.prog 54 #[.agg #[.slice A n c, .slice A' m d], .int .i64 place, .slice A2 k2 c2, .agg #[.int .i64 p.pace, .int .i64 p.up, .int .i64 p.step]] w (RWalkedOut w (walkedF t p place l, partF t p place l)) := by
  have HT := Lib.hid ht
  have HP := Lib.hid hp
  have HR := Lib.hid hr
  have HLl := Lib.hid hr.len
  have HFI := Lib.hid hfine
  have HFA := Lib.hid hfair
  have HLm := Lib.hid ht.len
  have hmx : m ≤ maxLen := by unfold maxLen; omega
  clear ht hp hr hfine hfair
  refine callsIn_of_wp Tryd.func54 rfl trivial ?_ rfl
  simp only [Tryd.ntmps54, List.size_toArray, List.length_cons, List.length_nil, Nat.reduceAdd, Nat.reduceSub, Array.replicate_succ, Array.replicate_zero, List.push_toArray, List.append_toArray, List.nil_append, List.cons_append]
  have S0 : RWSt w #[.slice A n c, .slice A' m d] p zeroC ((((w.alloc (.cells #[.slice A n c, .slice A' m d] 25)).alloc (.cells #[.int .i64 p.pace, .int .i64 p.up, .int .i64 p.step] 107)).alloc (.cells #[.int .i64 0, .int .i64 0, .int .i64 0, .int .i64 0] 103)).alloc (.cells #[.int .i64 0, .int .i64 0, .int .i64 0, .int .i64 0] 103)) := by
    have b := ((((Below.refl w.heap.size w).alloc (Nat.le_refl _) (.cells #[.slice A n c, .slice A' m d] 25)).alloc (by simp) (.cells #[.int .i64 p.pace, .int .i64 p.up, .int .i64 p.step] 107)).alloc (by simp; omega) (.cells #[.int .i64 0, .int .i64 0, .int .i64 0, .int .i64 0] 103)).alloc (by simp; omega) (.cells #[.int .i64 0, .int .i64 0, .int .i64 0, .int .i64 0] 103)
    have X := (((Blk.new w 25 #[.slice A n c, .slice A' m d]).alloc (.cells #[.int .i64 p.pace, .int .i64 p.up, .int .i64 p.step] 107)).alloc (.cells #[.int .i64 0, .int .i64 0, .int .i64 0, .int .i64 0] 103)).alloc (.cells #[.int .i64 0, .int .i64 0, .int .i64 0, .int .i64 0] 103)
    have Y := ((Blk.new (w.alloc (.cells #[.slice A n c, .slice A' m d] 25)) 107 #[.int .i64 p.pace, .int .i64 p.up, .int .i64 p.step]).alloc (.cells #[.int .i64 0, .int .i64 0, .int .i64 0, .int .i64 0] 103)).alloc (.cells #[.int .i64 0, .int .i64 0, .int .i64 0, .int .i64 0] 103)
    have U := (Blk.new ((w.alloc (.cells #[.slice A n c, .slice A' m d] 25)).alloc (.cells #[.int .i64 p.pace, .int .i64 p.up, .int .i64 p.step] 107)) 103 #[.int .i64 0, .int .i64 0, .int .i64 0, .int .i64 0]).alloc (.cells #[.int .i64 0, .int .i64 0, .int .i64 0, .int .i64 0] 103)
    have V := Blk.new (((w.alloc (.cells #[.slice A n c, .slice A' m d] 25)).alloc (.cells #[.int .i64 p.pace, .int .i64 p.up, .int .i64 p.step] 107)).alloc (.cells #[.int .i64 0, .int .i64 0, .int .i64 0, .int .i64 0] 103)) 103 #[.int .i64 0, .int .i64 0, .int .i64 0, .int .i64 0]
    rw [World.size_alloc] at Y
    rw [World.size_alloc, World.size_alloc] at U
    rw [World.size_alloc, World.size_alloc, World.size_alloc] at V
    exact ⟨b, X, Y, U, V⟩
  by_cases h40 : (40 : Int) < (k2 : Int)
  · have HN : Hid ((walkedF t p place l, partF t p place l) = (none, zeroC)) := Lib.hid (by unfold walkedF partF; rw [if_pos (by rw [HLl.out]; omega), if_pos (by rw [HLl.out]; omega)])
    have HS0 := Lib.hid S0
    clear S0
    gi_wp2
    gi_region
    all_goals
      gi_wp2
      refine bodyPost_ret (v := .tuple #[.int .i64 0, costV zeroC, .bool false]) (by simp [results, Tryd.results54, go_sem, zeroC]) rfl ?_
      rw [HN.out]
      exact ⟨0, zeroC, rfl, (fun q hq => by cases hq), below_drewN HS0.out.bel 1, rfl, fun _ => rfl⟩
  · have h40' : decide ((40 : Int) < (k2 : Int)) = false := by simp; omega
    have HWF : Hid ((walkedF t p place l, partF t p place l) = pairW t p (place, zeroC) l) := Lib.hid (by unfold walkedF partF pairW; rw [if_neg (by rw [HLl.out]; omega), if_neg (by rw [HLl.out]; omega)])
    have HS0 := Lib.hid S0
    clear S0 h40
    gi_wp2
    generalize ((((w.alloc (.cells #[.slice A n c, .slice A' m d] 25)).alloc (.cells #[.int .i64 p.pace, .int .i64 p.up, .int .i64 p.step] 107)).alloc (.cells #[.int .i64 0, .int .i64 0, .int .i64 0, .int .i64 0] 103)).alloc (.cells #[.int .i64 0, .int .i64 0, .int .i64 0, .int .i64 0] 103)) = w0 at *
    gi_loopw [1, 24] (fun vf vi wr => ∃ (k : Nat) (at_ : Int) (co : Cost), k ≤ k2 ∧ vi = .int .i64 k ∧ vf = .int .i64 at_ ∧ Hid (RWSt w #[.slice A n c, .slice A' m d] p co wr ∧ Walk t false p place at_ co (l.take k) ∧ pairW t p (at_, co) (l.drop k) = pairW t p (place, zeroC) l)) (fun _ vi _ => k2 - (intOf vi).toNat)
    case atStart => exact ⟨0, place, zeroC, Nat.zero_le _, rfl, rfl, Lib.hid ⟨HS0.out, .nil _, rfl⟩⟩
    case round =>
      obtain ⟨k, at_, co, hk, rfl, rfl, HS⟩ := hrel
      have s0 := HS.out.1.sb.cell 0
      have s1 := HS.out.1.sb.cell 1
      have s2 := HS.out.1.sb.cell 2
      have s3 := HS.out.1.sb.cell 3
      have r0 := HS.out.1.rb.cell 0
      have r1 := HS.out.1.rb.cell 1
      have r2 := HS.out.1.rb.cell 2
      have r3 := HS.out.1.rb.cell 3
      have z0 := HS.out.1.rb.frozen 0
      have z1 := HS.out.1.rb.frozen 1
      have z2 := HS.out.1.rb.frozen 2
      have z3 := HS.out.1.rb.frozen 3
      by_cases hlt : k < k2
      · obtain ⟨b, off, id, rfl, hb, hid, hcell⟩ := (HR.out.below HS.out.1.bel).cell hlt
        have hbl : b < wr.heap.size := Nat.lt_of_lt_of_le hb HS.out.1.bel.size
        have t0 := HS.out.1.tb.cell 0
        have t1 := HS.out.1.tb.cell 1
        have HID := Lib.hid hid
        clear hid hb
        gi_wp2
        rcases linkI_cases t.links id with ⟨hli, hno⟩ | ⟨jj, x, hli, hx, hxi⟩
        · have H := link_any A n c A' m d t id wr hmx ((HT.out.below HS.out.1.bel).more HS.out.1.bel.size)
          rw [hli] at H
          have HH := Lib.hid H
          have HNO : Hid (pairW t p (place, zeroC) l = (none, co)) := Lib.hid (by
            rw [← HS.out.2.2, drop_at' HID.out]
            simp only [pairW, walkS, partC]
            rw [show stepF t p at_ id = none by
              unfold stepF
              rw [List.findSome?_eq_none_iff]
              intro y hy
              rw [if_neg (hno y hy)]])
          clear H hli hno
          refine ⟨trivial, (callsIn_wide.2 HH.out).mono ?_⟩
          rintro e w1 ⟨rfl, hb1⟩
          have HS1 := Lib.hid (HS.out.1.below hb1)
          clear hb1 s0 s1 s2 s3 r0 r1 r2 r3 z0 z1 z2 z3 t0 t1
          have s0 := HS1.out.sb.cell 0
          have s1 := HS1.out.sb.cell 1
          have s2 := HS1.out.sb.cell 2
          have s3 := HS1.out.sb.cell 3
          have r0 := HS1.out.rb.cell 0
          have r1 := HS1.out.rb.cell 1
          have r2 := HS1.out.rb.cell 2
          have r3 := HS1.out.rb.cell 3
          have z0 := HS1.out.rb.frozen 0
          have z1 := HS1.out.rb.frozen 1
          have z2 := HS1.out.rb.frozen 2
          have z3 := HS1.out.rb.frozen 3
          gi_wp2
          gi_region
          all_goals
            gi_wp2
            have R4 := ret4 (w := w) HS1.out.rb (HS1.out.bel) (by omega) (.int .i64 co.a) (.int .i64 co.b) (.int .i64 co.c) (.int .i64 co.d)
            have y0 := R4.1.cell 0
            have y1 := R4.1.cell 1
            have y2 := R4.1.cell 2
            have y3 := R4.1.cell 3
            refine bodyPost_ret (v := .tuple #[.int .i64 0, costV co, .bool false]) (by simp [results, Tryd.results54, go_sem, y0, y1, y2, y3]) rfl ?_
            rw [HWF.out, HNO.out]
            exact ⟨0, co, rfl, (fun q hq => by first | cases hq; rfl | cases hq), below_drewN R4.2 1, rfl, fun _ => rfl⟩
        · have H := link_any A n c A' m d t id wr hmx ((HT.out.below HS.out.1.bel).more HS.out.1.bel.size)
          rw [hli] at H
          have HH := Lib.hid H
          have hjm : jj < m := by have := (List.getElem?_eq_some_iff.1 hx).1; have := HLm.out; omega
          have HX := Lib.hid hx
          have HXI := Lib.hid hxi
          clear H hli hx hxi
          refine ⟨trivial, (callsIn_wide.2 HH.out).mono ?_⟩
          rintro e w1 ⟨rfl, hb1⟩
          have HS1 := Lib.hid (HS.out.1.below hb1)
          clear hb1 s0 s1 s2 s3 r0 r1 r2 r3 z0 z1 z2 z3 t0 t1
          have HXM : Hid (x ∈ t.links) := Lib.hid (List.mem_of_getElem? HX.out)
          have HFit : Hid (Fit x) := Lib.hid ⟨HFI.out.steps x HXM.out, HFI.out.paces x HXM.out⟩
          have HLT := Lib.hid (HT.out.below HS1.out.bel)
          obtain ⟨b2, off2, x', hA', hb2, hx', _⟩ := HLT.out.cell hjm
          subst hA'
          obtain rfl : x' = x := Option.some.inj (hx'.symm.trans HX.out)
          have hb2l : b2 < w1.heap.size := Nat.lt_of_lt_of_le hb2 HS1.out.bel.size
          clear hx' hb2
          have hjI : (0 : Int) ≤ (jj : Int) ∧ (jj : Int) < (m : Int) := by omega
          have hcells : Hid (∀ W, Below w1.heap.size w1 W → W.cell? ⟨b2, off2 + jj * 5, none⟩ = some (.int .i64 x'.id) ∧ W.cell? ⟨b2, off2 + jj * 5 + 1, none⟩ = some (.int .i64 x'.fr) ∧ W.cell? ⟨b2, off2 + jj * 5 + 2, none⟩ = some (.int .i64 x'.to) ∧ W.cell? ⟨b2, off2 + jj * 5 + 3, none⟩ = some (.int .i64 x'.steps) ∧ W.cell? ⟨b2, off2 + jj * 5 + 4, none⟩ = some (.int .i64 x'.paces)) := Lib.hid (fun W hb => by
            obtain ⟨b3, o3, y, e, _, hy, h⟩ := ((HLT.out.more HS1.out.bel.size).below hb).cell hjm
            cases e
            obtain rfl : y = x' := Option.some.inj (hy.symm.trans HX.out)
            exact h)
          have HDR : Hid (pairW t p (place, zeroC) l = (match leads false p x' at_ with | none => (none, co) | some y => pairW t p (y.1, addC co y.2) (l.drop (k + 1)))) := Lib.hid (by
            rw [← HS.out.2.2, drop_at' HID.out]
            simp only [pairW, walkS, partC]
            rw [← HXI.out, stepF_leads HFI.out.ids HXM.out]
            rcases leads false p x' at_ with _ | ⟨a1, a2⟩ <;> rfl)
          gi_wp2
          rcases hld : leads false p x' at_ with _ | ⟨v, cx⟩
          · have HLD := Lib.hid hld
            clear hld
            refine wpIn_region_new (AF := ?AF) (fun b => .pointer (some ⟨b, 0, none⟩)) 103 #[.int .i64 0, .int .i64 0, .int .i64 0, .int .i64 0] [0, 1, 2, 3, 4, 5, 6, 7, 8, 9, 10, 11, 13, 15] [14] 12 [true, true, true, true, true, true, true, true, true, true, true, true, false, true, false, true] [false, false, false, false, false, false, false, false, false, false, false, false, false, false, true, false] (by kernel_rfl) (by kernel_rfl) (by kernel_rfl) (by kernel_rfl) (by kernel_rfl) (below_drewN (Below.refl _ _) 1) rfl rfl rfl ?hq ?hf ?ht
            case hq =>
              rintro σ hσ of hof hcl
              have HOF := Lib.hid hof
              have HCL := Lib.hid hcl
              clear hof hcl
              have l0 : ∀ z, (of z).cell? ⟨b2, off2 + jj * 5, none⟩ = some (.int .i64 x'.id) := fun z => (hcells.out _ (HOF.out z)).1
              have l1 : ∀ z, (of z).cell? ⟨b2, off2 + jj * 5 + 1, none⟩ = some (.int .i64 x'.fr) := fun z => (hcells.out _ (HOF.out z)).2.1
              have l2 : ∀ z, (of z).cell? ⟨b2, off2 + jj * 5 + 2, none⟩ = some (.int .i64 x'.to) := fun z => (hcells.out _ (HOF.out z)).2.2.1
              have l3 : ∀ z, (of z).cell? ⟨b2, off2 + jj * 5 + 3, none⟩ = some (.int .i64 x'.steps) := fun z => (hcells.out _ (HOF.out z)).2.2.2.1
              have l4 : ∀ z, (of z).cell? ⟨b2, off2 + jj * 5 + 4, none⟩ = some (.int .i64 x'.paces) := fun z => (hcells.out _ (HOF.out z)).2.2.2.2
              have t0 : ∀ z, (of z).cell? ⟨w.heap.size, 0, none⟩ = some (.slice A n c) := fun z => (HS1.out.tb.below (HOF.out z) HS1.out.tb.lt).cell 0
              have t1 : ∀ z, (of z).cell? ⟨w.heap.size, 1, none⟩ = some (.slice (some ⟨b2, off2, none⟩) m d) := fun z => (HS1.out.tb.below (HOF.out z) HS1.out.tb.lt).cell 1
              have p0 : ∀ z, (of z).cell? ⟨w.heap.size + 1, 0, none⟩ = some (.int .i64 p.pace) := fun z => (HS1.out.pb.below (HOF.out z) HS1.out.pb.lt).cell 0
              have p1 : ∀ z, (of z).cell? ⟨w.heap.size + 1, 1, none⟩ = some (.int .i64 p.up) := fun z => (HS1.out.pb.below (HOF.out z) HS1.out.pb.lt).cell 1
              have p2 : ∀ z, (of z).cell? ⟨w.heap.size + 1, 2, none⟩ = some (.int .i64 p.step) := fun z => (HS1.out.pb.below (HOF.out z) HS1.out.pb.lt).cell 2
              have hfw : ∀ f, Fence.wide.fn f := fun _ => trivial
              simp only [pickB]
              repeat (gi_big_quiet_step (exact rleads_none x' at_ p HLD.out HFit.out HP.out HOF.out HCL.out _))
              refine wpQuietIn_nil ?_
              exact rfl
            case hf =>
              intro W hb
              exact ⟨fun f hf => trivial, rfl⟩
            case ht =>
              intro b W hb hbb hR
              have HB := Lib.hid hb
              have HBB := Lib.hid hbb
              have HR4 := Lib.hid hR
              have hbl1 := hR.lt
              have c0 := hR.cell 0
              have c1 := hR.cell 1
              have c2 := hR.cell 2
              have c3 := hR.cell 3
              have d0 := hR.frozen 0
              have d1 := hR.frozen 1
              have d2 := hR.frozen 2
              have d3 := hR.frozen 3
              clear hb hbb hR
              simp only [pickB]
              refine wpE_cons ?_
              gi_wp2
              have R5 := Lib.hid (ret4 HR4.out HB.out HBB.out (.int .i64 0) (.int .i64 0) (.int .i64 0) (.int .i64 0))
              refine ⟨R5.out.2, wpE_nil ?_⟩
              have HW5 := Lib.hid (HS1.out.below R5.out.2)
              generalize (((W.setCell ⟨b, 0, none⟩ (.int .i64 0)).setCell ⟨b, 1, none⟩ (.int .i64 0)).setCell ⟨b, 2, none⟩ (.int .i64 0)).setCell ⟨b, 3, none⟩ (.int .i64 0) = W5 at *
              clear c0 c1 c2 c3 d0 d1 d2 d3
              have hbl5 := R5.out.1.lt
              have s0 := HW5.out.sb.cell 0
              have s1 := HW5.out.sb.cell 1
              have s2 := HW5.out.sb.cell 2
              have s3 := HW5.out.sb.cell 3
              have r0 := HW5.out.rb.cell 0
              have r1 := HW5.out.rb.cell 1
              have r2 := HW5.out.rb.cell 2
              have r3 := HW5.out.rb.cell 3
              have z0 := HW5.out.rb.frozen 0
              have z1 := HW5.out.rb.frozen 1
              have z2 := HW5.out.rb.frozen 2
              have z3 := HW5.out.rb.frozen 3
              gi_wp2
              gi_region
              all_goals
                gi_wp2
                have R4 := ret4 (w := w) HW5.out.rb (HW5.out.bel) (by omega) (.int .i64 co.a) (.int .i64 co.b) (.int .i64 co.c) (.int .i64 co.d)
                have y0 := R4.1.cell 0
                have y1 := R4.1.cell 1
                have y2 := R4.1.cell 2
                have y3 := R4.1.cell 3
                refine bodyPost_ret (v := .tuple #[.int .i64 0, costV co, .bool false]) (by simp [results, Tryd.results54, go_sem, y0, y1, y2, y3]) rfl ?_
                rw [HWF.out, HDR.out, HLD.out]
                exact ⟨0, co, rfl, (fun q hq => by cases hq), below_drewN R4.2 1, rfl, fun _ => rfl⟩
          · have HLD := Lib.hid hld
            clear hld
            refine wpIn_region_new (AF := ?AF2) (fun b => .pointer (some ⟨b, 0, none⟩)) 103 #[.int .i64 0, .int .i64 0, .int .i64 0, .int .i64 0] [0, 1, 2, 3, 4, 5, 6, 7, 8, 9, 10, 11, 13, 15] [14] 12 [true, true, true, true, true, true, true, true, true, true, true, true, false, true, false, true] [false, false, false, false, false, false, false, false, false, false, false, false, false, false, true, false] (by kernel_rfl) (by kernel_rfl) (by kernel_rfl) (by kernel_rfl) (by kernel_rfl) (below_drewN (Below.refl _ _) 1) rfl rfl rfl ?hq2 ?hf2 ?ht2
            case hq2 =>
              rintro σ hσ of hof hcl
              have HOF := Lib.hid hof
              have HCL := Lib.hid hcl
              clear hof hcl
              have l0 : ∀ z, (of z).cell? ⟨b2, off2 + jj * 5, none⟩ = some (.int .i64 x'.id) := fun z => (hcells.out _ (HOF.out z)).1
              have l1 : ∀ z, (of z).cell? ⟨b2, off2 + jj * 5 + 1, none⟩ = some (.int .i64 x'.fr) := fun z => (hcells.out _ (HOF.out z)).2.1
              have l2 : ∀ z, (of z).cell? ⟨b2, off2 + jj * 5 + 2, none⟩ = some (.int .i64 x'.to) := fun z => (hcells.out _ (HOF.out z)).2.2.1
              have l3 : ∀ z, (of z).cell? ⟨b2, off2 + jj * 5 + 3, none⟩ = some (.int .i64 x'.steps) := fun z => (hcells.out _ (HOF.out z)).2.2.2.1
              have l4 : ∀ z, (of z).cell? ⟨b2, off2 + jj * 5 + 4, none⟩ = some (.int .i64 x'.paces) := fun z => (hcells.out _ (HOF.out z)).2.2.2.2
              have t0 : ∀ z, (of z).cell? ⟨w.heap.size, 0, none⟩ = some (.slice A n c) := fun z => (HS1.out.tb.below (HOF.out z) HS1.out.tb.lt).cell 0
              have t1 : ∀ z, (of z).cell? ⟨w.heap.size, 1, none⟩ = some (.slice (some ⟨b2, off2, none⟩) m d) := fun z => (HS1.out.tb.below (HOF.out z) HS1.out.tb.lt).cell 1
              have p0 : ∀ z, (of z).cell? ⟨w.heap.size + 1, 0, none⟩ = some (.int .i64 p.pace) := fun z => (HS1.out.pb.below (HOF.out z) HS1.out.pb.lt).cell 0
              have p1 : ∀ z, (of z).cell? ⟨w.heap.size + 1, 1, none⟩ = some (.int .i64 p.up) := fun z => (HS1.out.pb.below (HOF.out z) HS1.out.pb.lt).cell 1
              have p2 : ∀ z, (of z).cell? ⟨w.heap.size + 1, 2, none⟩ = some (.int .i64 p.step) := fun z => (HS1.out.pb.below (HOF.out z) HS1.out.pb.lt).cell 2
              have hfw : ∀ f, Fence.wide.fn f := fun _ => trivial
              simp only [pickB]
              repeat (gi_big_quiet_step (exact rleads_some x' at_ p v cx HLD.out HFit.out HP.out HOF.out HCL.out _))
              refine wpQuietIn_nil ?_
              exact rfl
            case hf2 =>
              intro W hb
              exact ⟨fun f hf => trivial, rfl⟩
            case ht2 =>
              intro b W hb hbb hR
              have HB := Lib.hid hb
              have HBB := Lib.hid hbb
              have HR4 := Lib.hid hR
              have hbl1 := hR.lt
              have c0 := hR.cell 0
              have c1 := hR.cell 1
              have c2 := hR.cell 2
              have c3 := hR.cell 3
              have d0 := hR.frozen 0
              have d1 := hR.frozen 1
              have d2 := hR.frozen 2
              have d3 := hR.frozen 3
              clear hb hbb hR
              simp only [pickB]
              refine wpE_cons ?_
              gi_wp2
              have R5 := Lib.hid (ret4 HR4.out HB.out HBB.out (.int .i64 cx.a) (.int .i64 cx.b) (.int .i64 cx.c) (.int .i64 cx.d))
              refine ⟨R5.out.2, wpE_nil ?_⟩
              have HW5 := Lib.hid (HS1.out.below R5.out.2)
              generalize (((W.setCell ⟨b, 0, none⟩ (.int .i64 cx.a)).setCell ⟨b, 1, none⟩ (.int .i64 cx.b)).setCell ⟨b, 2, none⟩ (.int .i64 cx.c)).setCell ⟨b, 3, none⟩ (.int .i64 cx.d) = W5 at *
              clear c0 c1 c2 c3 d0 d1 d2 d3
              have hbl5 := R5.out.1.lt
              have s0 := HW5.out.sb.cell 0
              have s1 := HW5.out.sb.cell 1
              have s2 := HW5.out.sb.cell 2
              have s3 := HW5.out.sb.cell 3
              have r0 := HW5.out.rb.cell 0
              have r1 := HW5.out.rb.cell 1
              have r2 := HW5.out.rb.cell 2
              have r3 := HW5.out.rb.cell 3
              have z0 := HW5.out.rb.frozen 0
              have z1 := HW5.out.rb.frozen 1
              have z2 := HW5.out.rb.frozen 2
              have z3 := HW5.out.rb.frozen 3
              have HLC := Lib.hid (leads_cost HXM.out HFI.out HFA.out HLD.out)
              have HSM : Hid (Small co ∧ Small cx) := Lib.hid ⟨by
                have h1 := HS.out.2.1.bound HFI.out HFA.out
                have h2 : (l.take k).length ≤ 40 := by
                  rw [List.length_take]
                  have := of_decide_eq_false h40'
                  omega
                exact ⟨by omega, by omega, by omega, by omega⟩, by
                have h1 := HLC.out
                exact ⟨by omega, by omega, by omega, by omega⟩⟩
              have b0 := R5.out.1.cell 0
              have b1 := R5.out.1.cell 1
              have b2 := R5.out.1.cell 2
              have b3 := R5.out.1.cell 3
              gi_wp2
              refine ⟨trivial, (callsIn_wide.2 (rplus_any co cx _ HSM.out.1 HSM.out.2)).mono ?_⟩
              rintro e w6 ⟨rfl, hb6⟩
              clear s0 s1 s2 s3 r0 r1 r2 r3 z0 z1 z2 z3 b0 b1 b2 b3
              have HW6 := Lib.hid (HW5.out.below hb6)
              clear hb6
              have s0 := HW6.out.sb.cell 0
              have s1 := HW6.out.sb.cell 1
              have s2 := HW6.out.sb.cell 2
              have s3 := HW6.out.sb.cell 3
              have z0 := HW6.out.sb.frozen 0
              have z1 := HW6.out.sb.frozen 1
              have z2 := HW6.out.sb.frozen 2
              have z3 := HW6.out.sb.frozen 3
              unfold costV
              gi_wp2
              have e1 : ((k + 1 : Nat) : Int) = (k : Int) + 1 := by omega
              have hkl : k < l.length := by rw [HLl.out]; exact hlt
              refine ⟨⟨k + 1, v, addC co cx, by omega, by rw [e1], rfl, Lib.hid ⟨HW6.out.put (addC co cx), ?_, ?_⟩⟩, ?_⟩
              · have h := HS.out.2.1.snoc HXM.out HLD.out
                rw [List.take_add_one, HID.out, ← HXI.out]
                exact h
              · rw [HDR.out, HLD.out]
              · simp [intOf]; omega
      · obtain rfl : k = k2 := by omega
        have HNO : Hid (pairW t p (place, zeroC) l = (some (at_, co), co)) := Lib.hid (by
          rw [← HS.out.2.2, List.drop_of_length_le (by rw [HLl.out]; exact Nat.le_refl _)]
          rfl)
        gi_wp2
        gi_region
        all_goals
          gi_wp2
          have R4 := ret4 (w := w) HS.out.1.rb (HS.out.1.bel) (by omega) (.int .i64 co.a) (.int .i64 co.b) (.int .i64 co.c) (.int .i64 co.d)
          have y0 := R4.1.cell 0
          have y1 := R4.1.cell 1
          have y2 := R4.1.cell 2
          have y3 := R4.1.cell 3
          refine bodyPost_ret (v := .tuple #[.int .i64 at_, costV co, .bool true]) (by simp [results, Tryd.results54, go_sem, y0, y1, y2, y3]) rfl ?_
          rw [HWF.out, HNO.out]
          exact ⟨at_, co, rfl, (fun q hq => by first | cases hq; rfl | cases hq), below_drewN R4.2 1, rfl, fun h => by cases h⟩

theorem rwalked_any (A : Option Addr) (n c : Nat) (A' : Option Addr) (m d : Nat) (p : Price) (t : Town) (place : Int) (A2 : Option Addr) (k2 c2 : Nat) (l : List Int) (w : World)
    (hm : m ≤ 1000) (hk2 : k2 ≤ 1000) (ht : LinksAt w w.heap.size A' m t.links) (hp : Cheap p) (hfine : Fine t) (hfair : Fair p) (hr : IntsAt w w.heap.size A2 k2 l) :
    Calls Tryd.prog 54 #[.agg #[.slice A n c, .slice A' m d], .int .i64 place, .slice A2 k2 c2, .agg #[.int .i64 p.pace, .int .i64 p.up, .int .i64 p.step]] w (RWalkedOut w (walkedF t p place l, partF t p place l)) :=
  callsIn_wide.1 (rwalked_in A n c A' m d p t place A2 k2 c2 l w hm hk2 ht hp hfine hfair hr)
end Go.Proofs.YtahkjagjcogeiaaDoor
/- The answer's timed. -/
namespace Go.Proofs.YtahkjagjcogeiaaDoor
open Go.RowKit Go.Shelf
set_option linter.unusedVariables false

theorem partC_some {t : Town} {p : Price} : ∀ (l : List Int) (s q : Int × Cost), walkS t p s l = some q → partC t p s l = q.2
  | [], s, q, h => by simp only [walkS, Option.some.injEq] at h; subst h; rfl
  | i :: r, s, q, h => by
    unfold walkS at h
    unfold partC
    cases hs : stepF t p s.1 i with
    | none => simp only [hs] at h; cases h
    | some x =>
      obtain ⟨m, c⟩ := x
      simp only [hs] at h ⊢
      exact partC_some r _ _ h
theorem partF_some {t : Town} {p : Price} {u : Int} {l : List Int} (h : (walkedF t p u l).isSome = true) : (partF t p u l).a = firstA t p u l := by
  obtain ⟨q, hq⟩ := Option.isSome_iff_exists.1 h
  unfold firstA
  rw [hq]
  unfold walkedF at hq
  unfold partF
  split at hq
  · cases hq
  · rename_i h40
    rw [if_neg h40, partC_some l _ _ hq]
def TimedOut (w : World) (a b : Int) (is : Bool) (x : Ending) (w' : World) : Prop := x = .returned (.tuple #[.agg #[.int .i64 a, .int .i64 b], .bool is]) ∧ Below w.heap.size w w'

set_option maxRecDepth 100000 in
set_option maxHeartbeats 16000000 in
theorem timed_in (A : Option Addr) (n c : Nat) (A' : Option Addr) (m d : Nat) (t : Town) (s : Gait) (place : Int) (A2 : Option Addr) (k2 c2 : Nat) (l : List Int) (w : World)
    (hm : m ≤ 1000) (hk2 : k2 ≤ 1000) (ht : LinksAt w w.heap.size A' m t.links) (hfine : Fine t) (hgs : GoodG s) (hr : IntsAt w w.heap.size A2 k2 l) :
    CallsIn Fence.wide 9 Tryd.prog 86 #[.agg #[.slice A n c, .slice A' m d], .agg #[.int .i64 s.pace.lo, .int .i64 s.pace.hi, .int .i64 s.step.lo, .int .i64 s.step.hi], .int .i64 place, .slice A2 k2 c2] w (TimedOut w (partF t (timeP s.pace.lo s.step.lo) place l).a (partF t (timeP s.pace.hi s.step.hi) place l).a (walkedF t (timeP s.pace.lo s.step.lo) place l).isSome) := by
  have HT := Lib.hid ht
  have HR := Lib.hid hr
  have HFI := Lib.hid hfine
  have HGS := Lib.hid hgs
  clear ht hr hfine hgs
  have HF1 := Lib.hid (timeP_fair (a := s.pace.lo) (b := s.step.lo) (by have := HGS.out.pace; omega) (by have := HGS.out.step; omega))
  have HF2 := Lib.hid (timeP_fair (a := s.pace.hi) (b := s.step.hi) (by have := HGS.out.pace; omega) (by have := HGS.out.step; omega))
  have HC1 := Lib.hid (timeP_cheap (a := s.pace.lo) (b := s.step.lo) (by have := HGS.out.pace; omega) (by have := HGS.out.step; omega))
  have HC2 := Lib.hid (timeP_cheap (a := s.pace.hi) (b := s.step.hi) (by have := HGS.out.pace; omega) (by have := HGS.out.step; omega))
  refine callsIn_of_wp Tryd.func86 rfl trivial ?_ rfl
  simp only [Tryd.ntmps86, List.size_toArray, List.length_cons, List.length_nil, Nat.reduceAdd, Nat.reduceSub, Array.replicate_succ, Array.replicate_zero, List.push_toArray, List.append_toArray, List.nil_append, List.cons_append]
  gi_wp2
  have HLay := Lib.hid (Lay.three w 25 #[.slice A n c, .slice A' m d] 66 #[.int .i64 s.pace.lo, .int .i64 s.pace.hi, .int .i64 s.step.lo, .int .i64 s.step.hi] 27 #[.int .i64 0, .int .i64 0])
  generalize (((w.alloc (.cells #[.slice A n c, .slice A' m d] 25)).alloc (.cells #[.int .i64 s.pace.lo, .int .i64 s.pace.hi, .int .i64 s.step.lo, .int .i64 s.step.hi] 66)).alloc (.cells #[.int .i64 0, .int .i64 0] 27)) = w0 at *
  refine ⟨trivial, (callsIn_wide.2 (rwalked_any A n c A' m d (timeP s.pace.lo s.step.lo) t place A2 k2 c2 l w0 hm hk2 ((HT.out.below HLay.out.1).more HLay.out.1.size) HC1.out HFI.out HF1.out ((HR.out.below HLay.out.1).more HLay.out.1.size))).mono ?_⟩
  rintro e W1 ⟨x1, co1, rfl, hq1, hb, hco1, _⟩
  replace HLay := Lib.hid (HLay.out.below hb)
  clear hb
  simp only at hco1
  have HCO1 := Lib.hid hco1
  clear hq1 hco1
  obtain ⟨is1, his1⟩ : ∃ b, (walkedF t (timeP s.pace.lo s.step.lo) place l).isSome = b := ⟨_, rfl⟩
  have hisx : (walkedF t (timeP s.pace.lo s.step.lo) place l, partF t (timeP s.pace.lo s.step.lo) place l).1.isSome = is1 := his1
  rw [hisx]
  have HIS1 := Lib.hid his1
  clear his1 hisx
  have x0_0 := (HLay.out.blk 0 rfl).cell 0
  have x0_1 := (HLay.out.blk 0 rfl).cell 1
  have l0_ := HLay.out.lt 0 rfl
  have x1_0 := (HLay.out.blk 1 rfl).cell 0
  have x1_1 := (HLay.out.blk 1 rfl).cell 1
  have x1_2 := (HLay.out.blk 1 rfl).cell 2
  have x1_3 := (HLay.out.blk 1 rfl).cell 3
  have l1_ := HLay.out.lt 1 rfl
  have x2_0 := (HLay.out.blk 2 rfl).cell 0
  have z2_0 := (HLay.out.blk 2 rfl).frozen 0
  have x2_1 := (HLay.out.blk 2 rfl).cell 1
  have z2_1 := (HLay.out.blk 2 rfl).frozen 1
  have l2_ := HLay.out.lt 2 rfl
  gi_wp2
  clear x0_0 x0_1 l0_ x1_0 x1_1 x1_2 x1_3 l1_ x2_0 z2_0 x2_1 z2_1 l2_
  have hb : Below W1.heap.size W1 (W1.alloc (.cells #[.int .i64 co1.a, .int .i64 co1.b, .int .i64 co1.c, .int .i64 co1.d] 103)) := (Below.refl _ _).alloc (Nat.le_refl _) _
  have hnew := Blk.new W1 103 #[.int .i64 co1.a, .int .i64 co1.b, .int .i64 co1.c, .int .i64 co1.d]
  have hge := HLay.out.bel.size
  replace HLay := Lib.hid (HLay.out.below hb)
  replace HLay := Lib.hid (HLay.out.add hge hnew)
  clear hnew hge hb
  obtain ⟨G3, hG⟩ : ∃ g, W1.heap.size = g := ⟨_, rfl⟩
  rw [hG] at HLay ⊢
  generalize (W1.alloc (.cells #[.int .i64 co1.a, .int .i64 co1.b, .int .i64 co1.c, .int .i64 co1.d] 103)) = V2 at *
  clear hG
  replace HLay := Lib.hid (show Lay w V2 [(w.heap.size, 25, #[.slice A n c, .slice A' m d]), (w.heap.size + 1, 66, #[.int .i64 s.pace.lo, .int .i64 s.pace.hi, .int .i64 s.step.lo, .int .i64 s.step.hi]), (w.heap.size + 1 + 1, 27, #[.int .i64 0, .int .i64 0]), (G3, 103, #[.int .i64 co1.a, .int .i64 co1.b, .int .i64 co1.c, .int .i64 co1.d])] from HLay.out)
  refine ⟨trivial, (callsIn_wide.2 (rwalked_any A n c A' m d (timeP s.pace.hi s.step.hi) t place A2 k2 c2 l V2 hm hk2 ((HT.out.below HLay.out.1).more HLay.out.1.size) HC2.out HFI.out HF2.out ((HR.out.below HLay.out.1).more HLay.out.1.size))).mono ?_⟩
  rintro e W4 ⟨x2, co2, rfl, hq2, hb, hco2, _⟩
  replace HLay := Lib.hid (HLay.out.below hb)
  clear hb
  simp only at hco2
  have HCO2 := Lib.hid hco2
  clear hq2 hco2
  obtain ⟨is2, his2⟩ : ∃ b, (walkedF t (timeP s.pace.hi s.step.hi) place l).isSome = b := ⟨_, rfl⟩
  have hisx : (walkedF t (timeP s.pace.hi s.step.hi) place l, partF t (timeP s.pace.hi s.step.hi) place l).1.isSome = is2 := his2
  rw [hisx]
  have HIS2 := Lib.hid his2
  clear his2 hisx
  have x0_0 := (HLay.out.blk 0 rfl).cell 0
  have x0_1 := (HLay.out.blk 0 rfl).cell 1
  have l0_ := HLay.out.lt 0 rfl
  have x1_0 := (HLay.out.blk 1 rfl).cell 0
  have x1_1 := (HLay.out.blk 1 rfl).cell 1
  have x1_2 := (HLay.out.blk 1 rfl).cell 2
  have x1_3 := (HLay.out.blk 1 rfl).cell 3
  have l1_ := HLay.out.lt 1 rfl
  have x2_0 := (HLay.out.blk 2 rfl).cell 0
  have z2_0 := (HLay.out.blk 2 rfl).frozen 0
  have x2_1 := (HLay.out.blk 2 rfl).cell 1
  have z2_1 := (HLay.out.blk 2 rfl).frozen 1
  have l2_ := HLay.out.lt 2 rfl
  have x3_0 := (HLay.out.blk 3 rfl).cell 0
  have x3_1 := (HLay.out.blk 3 rfl).cell 1
  have x3_2 := (HLay.out.blk 3 rfl).cell 2
  have x3_3 := (HLay.out.blk 3 rfl).cell 3
  have l3_ := HLay.out.lt 3 rfl
  gi_wp2
  have R1 := ret2 (HLay.out.blk 2 rfl) HLay.out.1 (by omega) (.int .i64 co1.a) (.int .i64 co2.a)
  have R2 := R1.1.alloc (.cells #[.int .i64 co2.a, .int .i64 co2.b, .int .i64 co2.c, .int .i64 co2.d] 103)
  have y0 := R2.cell 0
  have y1 := R2.cell 1
  exact bodyPost_ret (v := .tuple #[.agg #[.int .i64 co1.a, .int .i64 co2.a], .bool is1]) (by simp [results, Tryd.results86, go_sem, y0, y1]) rfl ⟨by rw [HCO1.out, HCO2.out, ← HIS1.out], R1.2.alloc R1.2.size _⟩

theorem timed_any (A : Option Addr) (n c : Nat) (A' : Option Addr) (m d : Nat) (t : Town) (s : Gait) (place : Int) (A2 : Option Addr) (k2 c2 : Nat) (l : List Int) (w : World)
    (hm : m ≤ 1000) (hk2 : k2 ≤ 1000) (ht : LinksAt w w.heap.size A' m t.links) (hfine : Fine t) (hgs : GoodG s) (hr : IntsAt w w.heap.size A2 k2 l) :
    Calls Tryd.prog 86 #[.agg #[.slice A n c, .slice A' m d], .agg #[.int .i64 s.pace.lo, .int .i64 s.pace.hi, .int .i64 s.step.lo, .int .i64 s.step.hi], .int .i64 place, .slice A2 k2 c2] w (TimedOut w (partF t (timeP s.pace.lo s.step.lo) place l).a (partF t (timeP s.pace.hi s.step.hi) place l).a (walkedF t (timeP s.pace.lo s.step.lo) place l).isSome) :=
  callsIn_wide.1 (timed_in A n c A' m d t s place A2 k2 c2 l w hm hk2 ht hfine hgs hr)
end Go.Proofs.YtahkjagjcogeiaaDoor
/- The answer's spans, skins and gaits. -/
namespace Go.Proofs.YtahkjagjcogeiaaDoor
open Go.RowKit
set_option linter.unusedVariables false

theorem inB_span (most : Int) (x : Span) : (inB 0 most [x.hi] && inB 0 x.hi [x.lo]) = spanB most x := by
  unfold spanB inB
  simp only [List.any_cons, List.any_nil, Bool.or_false]
  by_cases h1 : x.hi < 0 <;> by_cases h2 : most < x.hi <;> by_cases h3 : x.lo < 0 <;> by_cases h4 : x.hi < x.lo <;> simp [h1, h2, h3, h4] <;> omega

set_option maxRecDepth 100000 in
set_option maxHeartbeats 2000000 in
theorem rspanned_any (x : Span) (most : Int) (w : World) :
    Calls Tryd.prog 111 #[.agg #[.int .i64 x.lo, .int .i64 x.hi], .int .i64 most] w fun e w' => e = .returned (.bool (spanB most x)) ∧ Below w.heap.size w w' := by
  have HS := Lib.hid (inB_span most x)
  have B0 : Below w.heap.size w (w.alloc (.cells #[.int .i64 x.lo, .int .i64 x.hi] 27)) := (Below.refl _ _).alloc (Nat.le_refl _) _
  go_enter Tryd.func111, Tryd.ntmps111
  go_wp2_with fail
  refine (within_any x.hi 0 most _).mono ?_
  rintro e w1 ⟨rfl, rfl⟩
  cases hi : inB 0 most [x.hi] with
  | false =>
    have HI := Lib.hid hi
    clear hi
    go_wp2_with fail
    go_ret
    exact ⟨ret_bool (by rw [← HS.out, HI.out]; rfl), B0⟩
  | true =>
    have HI := Lib.hid hi
    clear hi
    go_wp2_with fail
    refine (within_any x.lo 0 x.hi _).mono ?_
    rintro e w1 ⟨rfl, rfl⟩
    go_wp2_with fail
    go_ret
    exact ⟨ret_bool (by rw [← HS.out, HI.out]; rfl), B0⟩

set_option maxRecDepth 100000 in
set_option maxHeartbeats 2000000 in
theorem rskin_any (s : Skin) (w : World) :
    Calls Tryd.prog 53 #[.agg #[.int .i64 s.drops, .int .i64 s.pace.lo, .int .i64 s.pace.hi, .int .i64 s.step.lo, .int .i64 s.step.hi]] w fun e w' => e = .returned (.bool (skinB s)) ∧ Below w.heap.size w w' := by
  have hs : skinB s = (inB 0 100000 [s.drops] && (spanB 50 s.pace && spanB 50 s.step)) := by
    unfold skinB spansB
    simp [Bool.not_or]
  have HS := Lib.hid hs
  clear hs
  go_enter Tryd.func53, Tryd.ntmps53
  go_wp2_with fail
  refine (within_any s.drops 0 100000 _).mono ?_
  rintro e w1 ⟨rfl, rfl⟩
  have B0 : Below w.heap.size w (w.alloc (.cells #[.int .i64 s.drops, .int .i64 s.pace.lo, .int .i64 s.pace.hi, .int .i64 s.step.lo, .int .i64 s.step.hi] 29)) := (Below.refl _ _).alloc (Nat.le_refl _) _
  have X0 := Blk.new w 29 #[.int .i64 s.drops, .int .i64 s.pace.lo, .int .i64 s.pace.hi, .int .i64 s.step.lo, .int .i64 s.step.hi]
  cases hi : inB 0 100000 [s.drops] with
  | false =>
    have HI := Lib.hid hi
    clear hi
    go_wp2_with fail
    go_ret
    exact ⟨ret_bool (by rw [HS.out, HI.out]; rfl), B0⟩
  | true =>
    have HI := Lib.hid hi
    clear hi
    go_wp2_with fail
    refine (rspanned_any s.pace 50 _).mono ?_
    rintro e w1 ⟨rfl, hb1⟩
    have X1 := X0.below hb1 X0.lt
    have B1 := B0.trans (hb1.mono B0.size)
    have x3 := X1.cell 3
    have x4 := X1.cell 4
    clear X0 hb1 B0 X1
    cases hj : spanB 50 s.pace with
    | false =>
      have HJ := Lib.hid hj
      clear hj
      go_wp2_with fail
      go_ret
      exact ⟨ret_bool (by rw [HS.out, HI.out, HJ.out]; rfl), B1⟩
    | true =>
      have HJ := Lib.hid hj
      clear hj
      go_wp2_with fail
      refine (rspanned_any s.step 50 _).mono ?_
      rintro e w2 ⟨rfl, hb2⟩
      have B2 := B1.trans (hb2.mono B1.size)
      clear hb2
      go_wp2_with fail
      go_ret
      exact ⟨ret_bool (by rw [HS.out, HI.out, HJ.out]; rfl), B2⟩

set_option maxRecDepth 100000 in
set_option maxHeartbeats 2000000 in
theorem rgait_any (s : Gait) (w : World) :
    Calls Tryd.prog 85 #[.agg #[.int .i64 s.pace.lo, .int .i64 s.pace.hi, .int .i64 s.step.lo, .int .i64 s.step.hi]] w fun e w' => e = .returned (.bool (gaitB s)) ∧ Below w.heap.size w w' := by
  have hs : gaitB s = (spanB 20 s.pace && spanB 20 s.step) := by
    unfold gaitB spansB
    simp [Bool.not_or]
  have HS := Lib.hid hs
  clear hs
  go_enter Tryd.func85, Tryd.ntmps85
  go_wp2_with fail
  have B0 : Below w.heap.size w (w.alloc (.cells #[.int .i64 s.pace.lo, .int .i64 s.pace.hi, .int .i64 s.step.lo, .int .i64 s.step.hi] 66)) := (Below.refl _ _).alloc (Nat.le_refl _) _
  have X0 := Blk.new w 66 #[.int .i64 s.pace.lo, .int .i64 s.pace.hi, .int .i64 s.step.lo, .int .i64 s.step.hi]
  refine (rspanned_any s.pace 20 _).mono ?_
  rintro e w1 ⟨rfl, hb1⟩
  have X1 := X0.below hb1 X0.lt
  have B1 := B0.trans (hb1.mono B0.size)
  have x2 := X1.cell 2
  have x3 := X1.cell 3
  clear X0 hb1 B0 X1
  cases hj : spanB 20 s.pace with
  | false =>
    have HJ := Lib.hid hj
    clear hj
    go_wp2_with fail
    go_ret
    exact ⟨ret_bool (by rw [HS.out, HJ.out]; rfl), B1⟩
  | true =>
    have HJ := Lib.hid hj
    clear hj
    go_wp2_with fail
    refine (rspanned_any s.step 20 _).mono ?_
    rintro e w2 ⟨rfl, hb2⟩
    have B2 := B1.trans (hb2.mono B1.size)
    clear hb2
    go_wp2_with fail
    go_ret
    exact ⟨ret_bool (by rw [HS.out, HJ.out]; rfl), B2⟩

set_option maxRecDepth 100000 in
set_option maxHeartbeats 2000000 in
theorem lost_any (pace step : Int) (w : World) :
    Calls Tryd.prog 55 #[.int .i64 pace, .int .i64 step] w fun e w' => e = .returned (.agg #[.int .i64 pace, .int .i64 0, .int .i64 step]) ∧ Below w.heap.size w w' := by
  go_enter Tryd.func55, Tryd.ntmps55
  go_wp2_with fail
  exact bodyPost_ret (v := .agg #[.int .i64 pace, .int .i64 0, .int .i64 step]) (by simp [results, Tryd.results55, go_sem]) rfl ⟨rfl, (Below.refl _ _).alloc (Nat.le_refl _) _⟩
end Go.Proofs.YtahkjagjcogeiaaDoor
/- The answer's asked. -/
namespace Go.Proofs.YtahkjagjcogeiaaDoor
open Go.RowKit
set_option linter.unusedVariables false

theorem hasB_two (t : Town) (x y : Int) : hasB t [x, y] = (memI t.places x && memI t.places y) := by
  unfold hasB
  simp [Bool.not_or]

set_option maxRecDepth 100000 in
set_option maxHeartbeats 2000000 in
theorem rasked_any (A : Option Addr) (n c : Nat) (A' : Option Addr) (m d : Nat) (t : Town) (x y : Int) (w : World) (hn : n ≤ 1000) (hm : m ≤ 1000) (ht : TownAt w w.heap.size A n A' m t) :
    Calls Tryd.prog 52 #[.agg #[.slice A n c, .slice A' m d], .int .i64 x, .int .i64 y] w fun e w' => e = .returned (.int .i64 (askE t [x, y])) ∧ Below w.heap.size w w' := by
  have HT := Lib.hid ht
  have HXY := Lib.hid (hasB_two t x y)
  have hn' : n ≤ maxLen := by unfold maxLen; omega
  clear ht
  go_enter Tryd.func52, Tryd.ntmps52
  go_wp2_with fail
  have X0 := Blk.new w 25 #[.slice A n c, .slice A' m d]
  have B0 : Below w.heap.size w (w.alloc (.cells #[.slice A n c, .slice A' m d] 25)) := (Below.refl _ _).alloc (Nat.le_refl _) _
  generalize (w.alloc (.cells #[.slice A n c, .slice A' m d] 25)) = w0 at *
  refine (rtown_any A n c A' m d t w0 hn hm ((HT.out.below B0).more B0.size)).mono ?_
  rintro e w1 ⟨rfl, hb1⟩
  have X1 := X0.below hb1 X0.lt
  have B1 := B0.trans (hb1.mono B0.size)
  have x0 := X1.cell 0
  have x1 := X1.cell 1
  have HX1 := Lib.hid X1
  clear X0 B0 hb1 X1
  cases ht : townB t with
  | false =>
    have HTB := Lib.hid ht
    clear ht
    go_wp2_with fail
    go_ret
    exact ⟨ret_int (by unfold askE; rw [HTB.out]; rfl), B1⟩
  | true =>
    have HTB := Lib.hid ht
    clear ht
    go_wp2_with fail
    refine (place_any A n c A' m d t x w1 hn' ((HT.out.below B1).more B1.size).places).mono ?_
    rintro e w2 ⟨rfl, hb2⟩
    have B2 := B1.trans (hb2.mono B1.size)
    have X2 := HX1.out.below hb2 HX1.out.lt
    have y0 := X2.cell 0
    have y1 := X2.cell 1
    clear X2 hb2 x0 x1
    cases hmx : memI t.places x with
    | false =>
      have hlt := placeI_no hmx
      have HM := Lib.hid hmx
      clear hmx
      go_wp2_with fail
      go_ret
      exact ⟨ret_int (by unfold askE; rw [HTB.out, HXY.out, HM.out]; rfl), B2⟩
    | true =>
      have hge := placeI_yes hmx
      have HM := Lib.hid hmx
      clear hmx
      go_wp2_with fail
      refine (place_any A n c A' m d t y w2 hn' ((HT.out.below B2).more B2.size).places).mono ?_
      rintro e w3 ⟨rfl, hb3⟩
      have B3 := B2.trans (hb3.mono B2.size)
      clear hb3 y0 y1
      cases hmy : memI t.places y with
      | false =>
        have hlt := placeI_no hmy
        have HMY := Lib.hid hmy
        clear hmy
        go_wp2_with fail
        go_ret
        exact ⟨ret_int (by unfold askE; rw [HTB.out, HXY.out, HM.out, HMY.out]; rfl), B3⟩
      | true =>
        have hge2 := placeI_yes hmy
        have HMY := Lib.hid hmy
        clear hmy
        go_wp2_with fail
        go_ret
        exact ⟨ret_int (by unfold askE; rw [HTB.out, HXY.out, HM.out, HMY.out]; rfl), B3⟩
end Go.Proofs.YtahkjagjcogeiaaDoor
/- The answer's End: what a skin holds at the end of a walk. -/
namespace Go.Proofs.YtahkjagjcogeiaaDoor
open Go.RowKit Go.Shelf
set_option linter.unusedVariables false

theorem askE_same (t : Town) (x : Int) : askE t [x, x] = askE t [x] := by
  unfold askE hasB
  simp

set_option maxRecDepth 100000 in
set_option maxHeartbeats 16000000 in
theorem rend_in (A : Option Addr) (n c : Nat) (A' : Option Addr) (m d : Nat) (t : Town) (s : Skin) (place : Int) (A2 : Option Addr) (k2 c2 : Nat) (l : List Int) (w : World)
    (hn : n ≤ 1000) (hm : m ≤ 1000) (hk2 : k2 ≤ 1000) (ht : TownAt w w.heap.size A n A' m t) (hr : IntsAt w w.heap.size A2 k2 l) :
    CallsIn Fence.wide 9 Tryd.prog 12 #[.agg #[.slice A n c, .slice A' m d], .agg #[.int .i64 s.drops, .int .i64 s.pace.lo, .int .i64 s.pace.hi, .int .i64 s.step.lo, .int .i64 s.step.hi], .int .i64 place, .slice A2 k2 c2] w (EndOut w (endV t s place l) (endE t s place l)) := by
  have HT := Lib.hid ht
  have HR := Lib.hid hr
  have HA2 := Lib.hid (askE_same t place)
  clear ht hr
  refine callsIn_of_wp Tryd.func12 rfl trivial ?_ rfl
  simp only [Tryd.ntmps12, List.size_toArray, List.length_cons, List.length_nil, Nat.reduceAdd, Nat.reduceSub, Array.replicate_succ, Array.replicate_zero, List.push_toArray, List.append_toArray, List.nil_append, List.cons_append]
  gi_wp2
  have HLay := Lib.hid (Lay.three w 25 #[.slice A n c, .slice A' m d] 29 #[.int .i64 s.drops, .int .i64 s.pace.lo, .int .i64 s.pace.hi, .int .i64 s.step.lo, .int .i64 s.step.hi] 27 #[.int .i64 0, .int .i64 0])
  generalize (((w.alloc (.cells #[.slice A n c, .slice A' m d] 25)).alloc (.cells #[.int .i64 s.drops, .int .i64 s.pace.lo, .int .i64 s.pace.hi, .int .i64 s.step.lo, .int .i64 s.step.hi] 29)).alloc (.cells #[.int .i64 0, .int .i64 0] 27)) = w0 at *
  refine ⟨trivial, (callsIn_wide.2 (rasked_any A n c A' m d t place place w0 hn hm ((HT.out.below HLay.out.1).more HLay.out.1.size))).mono ?_⟩
  rintro e W1 ⟨rfl, hb⟩
  replace HLay := Lib.hid (HLay.out.below hb)
  clear hb
  rw [HA2.out]
  obtain ⟨ea, hea⟩ : ∃ ea, askE t [place] = ea := ⟨_, rfl⟩
  rw [hea]
  have HEA := Lib.hid hea
  clear hea
  have x0_0 := (HLay.out.blk 0 rfl).cell 0
  have x0_1 := (HLay.out.blk 0 rfl).cell 1
  have l0_ := HLay.out.lt 0 rfl
  have x1_0 := (HLay.out.blk 1 rfl).cell 0
  have x1_1 := (HLay.out.blk 1 rfl).cell 1
  have x1_2 := (HLay.out.blk 1 rfl).cell 2
  have x1_3 := (HLay.out.blk 1 rfl).cell 3
  have x1_4 := (HLay.out.blk 1 rfl).cell 4
  have l1_ := HLay.out.lt 1 rfl
  have x2_0 := (HLay.out.blk 2 rfl).cell 0
  have z2_0 := (HLay.out.blk 2 rfl).frozen 0
  have x2_1 := (HLay.out.blk 2 rfl).cell 1
  have z2_1 := (HLay.out.blk 2 rfl).frozen 1
  have l2_ := HLay.out.lt 2 rfl
  by_cases h0 : ea = 0
  · subst h0
    obtain ⟨htb, hhas⟩ := askE_zero HEA.out
    have HG := Lib.hid (goodT htb)
    have hm20 : m ≤ 20 := by have := HG.out.links; have := HT.out.links.len; omega
    clear htb hhas
    gi_wp2
    refine ⟨trivial, (callsIn_wide.2 (rskin_any s W1)).mono ?_⟩
    rintro e W2 ⟨rfl, hb⟩
    replace HLay := Lib.hid (HLay.out.below hb)
    clear hb
    clear x0_0 x0_1 l0_ x1_0 x1_1 x1_2 x1_3 x1_4 l1_ x2_0 z2_0 x2_1 z2_1 l2_
    have x0_0 := (HLay.out.blk 0 rfl).cell 0
    have x0_1 := (HLay.out.blk 0 rfl).cell 1
    have l0_ := HLay.out.lt 0 rfl
    have x1_0 := (HLay.out.blk 1 rfl).cell 0
    have x1_1 := (HLay.out.blk 1 rfl).cell 1
    have x1_2 := (HLay.out.blk 1 rfl).cell 2
    have x1_3 := (HLay.out.blk 1 rfl).cell 3
    have x1_4 := (HLay.out.blk 1 rfl).cell 4
    have l1_ := HLay.out.lt 1 rfl
    have x2_0 := (HLay.out.blk 2 rfl).cell 0
    have z2_0 := (HLay.out.blk 2 rfl).frozen 0
    have x2_1 := (HLay.out.blk 2 rfl).cell 1
    have z2_1 := (HLay.out.blk 2 rfl).frozen 1
    have l2_ := HLay.out.lt 2 rfl
    cases hs : skinB s with
    | false =>
      have HS := Lib.hid hs
      clear hs
      gi_wp2
      have R1 := ret2 (HLay.out.blk 2 rfl) HLay.out.1 (by omega) (.int .i64 0) (.int .i64 0)
      have y0 := R1.1.cell 0
      have y1 := R1.1.cell 1
      have he : endE t s place l = 36 := by unfold endE dryE or2; rw [HEA.out, HS.out]; rfl
      have hv : endV t s place l = ⟨0, 0⟩ := by unfold endV; rw [he]; rfl
      exact bodyPost_ret (v := .tuple #[.agg #[.int .i64 0, .int .i64 0], .int .i64 36]) (by simp [results, Tryd.results12, go_sem, y0, y1]) rfl ⟨by rw [he, hv], R1.2⟩
    | true =>
      have HGS := Lib.hid (goodS hs)
      have HSK := Lib.hid (show dryE s = 0 by unfold dryE; rw [hs]; rfl)
      clear hs
      gi_wp2
      have HF1 := Lib.hid (lossP_fair (a := s.pace.lo) (b := s.step.lo) HGS.out.pace.1 HGS.out.step.1)
      have HF2 := Lib.hid (lossP_fair (a := s.pace.hi) (b := s.step.hi) HGS.out.pace.2.1 HGS.out.step.2.1)
      have HC1 := Lib.hid (lossP_cheap (a := s.pace.lo) (b := s.step.lo) HGS.out.pace.1 HGS.out.step.1)
      have HC2 := Lib.hid (lossP_cheap (a := s.pace.hi) (b := s.step.hi) HGS.out.pace.2.1 HGS.out.step.2.1)
      have HS1 := Lib.hid (walkedF_isSome t (lossP s.pace.lo s.step.lo) ⟨0, 0, 0⟩ place l)
      have HS2 := Lib.hid (walkedF_isSome t (lossP s.pace.hi s.step.hi) ⟨0, 0, 0⟩ place l)
      clear x0_0 x0_1 l0_ x1_0 x1_1 x1_2 x1_3 x1_4 l1_ x2_0 z2_0 x2_1 z2_1 l2_
      have HLay1 := Lib.hid HLay.out
      refine wpIn_flow_new [([true, true, true, true, true, true, true, true, true], 9), ([], 10)] [false, false, false, false, false, false, false, false, false, false, false, true, true, true, true, false, true, false, true] [false, false, false, false, false, false, false, false, false, false, false, false, false, false, false, false, false, true] 15 (fun b => .pointer (some ⟨b, 0, none⟩)) 103 #[.int .i64 0, .int .i64 0, .int .i64 0, .int .i64 0] (by kernel_rfl) (by kernel_rfl) (by kernel_rfl) (below_drewN (Below.refl _ _) 1) rfl rfl rfl (fun _ _ => rfl) (fun _ _ => rfl) ?_
      refine wpFlow_cons (A := ?AF1) rfl ?hq1 ?_
      case hq1 =>
        rintro σ hσ of hof hcl
        have HOF := Lib.hid hof
        have HCL := Lib.hid hcl
        clear hof hcl
        have c0_ : ∀ z, (of z).cell? ⟨w.heap.size, 0, none⟩ = some (.slice A n c) := fun z => ((HLay.out.below (HOF.out z)).blk 0 rfl).cell 0
        have c1_ : ∀ z, (of z).cell? ⟨w.heap.size, 1, none⟩ = some (.slice A' m d) := fun z => ((HLay.out.below (HOF.out z)).blk 0 rfl).cell 1
        have c2_ : ∀ z, (of z).cell? ⟨w.heap.size + 1, 0, none⟩ = some (.int .i64 s.drops) := fun z => ((HLay.out.below (HOF.out z)).blk 1 rfl).cell 0
        have c3_ : ∀ z, (of z).cell? ⟨w.heap.size + 1, 1, none⟩ = some (.int .i64 s.pace.lo) := fun z => ((HLay.out.below (HOF.out z)).blk 1 rfl).cell 1
        have c4_ : ∀ z, (of z).cell? ⟨w.heap.size + 1, 2, none⟩ = some (.int .i64 s.pace.hi) := fun z => ((HLay.out.below (HOF.out z)).blk 1 rfl).cell 2
        have c5_ : ∀ z, (of z).cell? ⟨w.heap.size + 1, 3, none⟩ = some (.int .i64 s.step.lo) := fun z => ((HLay.out.below (HOF.out z)).blk 1 rfl).cell 3
        have c6_ : ∀ z, (of z).cell? ⟨w.heap.size + 1, 4, none⟩ = some (.int .i64 s.step.hi) := fun z => ((HLay.out.below (HOF.out z)).blk 1 rfl).cell 4
        have hfw : ∀ f, Fence.wide.fn f := fun _ => trivial
        simp only [pickB]
        repeat (gi_big_quiet_step (fail))
        refine wpQuietIn_nil ?_
        exact rfl
      intro W3 hW
      replace HLay := Lib.hid (HLay.out.below hW)
      clear hW
      gi_wp2
      refine ⟨trivial, (callsIn_wide.2 (lost_any s.pace.lo s.step.lo W3)).mono ?_⟩
      rintro e W4 ⟨rfl, hb⟩
      replace HLay := Lib.hid (HLay.out.below hb)
      gi_wp2
      refine ⟨trivial, hb, ?_⟩
      clear hb
      refine wpFlow_cons rfl Quietly.none ?_
      intro W5 hW
      replace HLay := Lib.hid (HLay.out.below hW)
      clear hW
      gi_wp2
      refine ⟨trivial, (callsIn_wide.2 (rwalked_any A n c A' m d (lossP s.pace.lo s.step.lo) t place A2 k2 c2 l W5 hm hk2 ((HT.out.links.below HLay.out.1).more HLay.out.1.size) HC1.out HG.out.fine HF1.out ((HR.out.below HLay.out.1).more HLay.out.1.size))).mono ?_⟩
      rintro e W6 ⟨x1, co1, rfl, hq1, hb, hco1, _⟩
      replace HLay := Lib.hid (HLay.out.below hb)
      have HQ1 := Lib.hid hq1
      clear hq1 hco1
      gi_wp2
      refine ⟨trivial, hb, ?_⟩
      clear hb
      obtain ⟨is1, his1⟩ : ∃ b, (walkedF t (lossP s.pace.lo s.step.lo) place l).isSome = b := ⟨_, rfl⟩
      have hisx : (walkedF t (lossP s.pace.lo s.step.lo) place l, partF t (lossP s.pace.lo s.step.lo) place l).1.isSome = is1 := his1
      rw [hisx]
      have HIS1 := Lib.hid his1
      clear his1 hisx
      refine wpFlow_nil (A := ?AF2) ?hq2 ?_
      case hq2 =>
        rintro σ hσ of hof hcl
        have HOF := Lib.hid hof
        have HCL := Lib.hid hcl
        clear hof hcl
        have c0_ : ∀ z, (of z).cell? ⟨w.heap.size, 0, none⟩ = some (.slice A n c) := fun z => ((HLay.out.below (HOF.out z)).blk 0 rfl).cell 0
        have c1_ : ∀ z, (of z).cell? ⟨w.heap.size, 1, none⟩ = some (.slice A' m d) := fun z => ((HLay.out.below (HOF.out z)).blk 0 rfl).cell 1
        have c2_ : ∀ z, (of z).cell? ⟨w.heap.size + 1, 0, none⟩ = some (.int .i64 s.drops) := fun z => ((HLay.out.below (HOF.out z)).blk 1 rfl).cell 0
        have c3_ : ∀ z, (of z).cell? ⟨w.heap.size + 1, 1, none⟩ = some (.int .i64 s.pace.lo) := fun z => ((HLay.out.below (HOF.out z)).blk 1 rfl).cell 1
        have c4_ : ∀ z, (of z).cell? ⟨w.heap.size + 1, 2, none⟩ = some (.int .i64 s.pace.hi) := fun z => ((HLay.out.below (HOF.out z)).blk 1 rfl).cell 2
        have c5_ : ∀ z, (of z).cell? ⟨w.heap.size + 1, 3, none⟩ = some (.int .i64 s.step.lo) := fun z => ((HLay.out.below (HOF.out z)).blk 1 rfl).cell 3
        have c6_ : ∀ z, (of z).cell? ⟨w.heap.size + 1, 4, none⟩ = some (.int .i64 s.step.hi) := fun z => ((HLay.out.below (HOF.out z)).blk 1 rfl).cell 4
        have hfw : ∀ f, Fence.wide.fn f := fun _ => trivial
        simp only [pickB]
        repeat (gi_big_quiet_step (fail))
        refine wpQuietIn_nil ?_
        exact rfl
      intro G1 W7 hW hbg hbb hbi
      replace HLay := Lib.hid (HLay.out.below hW)
      have c0 := hbb.cell 0
      have z0 := hbb.frozen 0
      have c1 := hbb.cell 1
      have z1 := hbb.frozen 1
      have c2 := hbb.cell 2
      have z2 := hbb.frozen 2
      have c3 := hbb.cell 3
      have z3 := hbb.frozen 3
      have hbl := hbb.lt
      have hbw : w.heap.size ≤ G1 := Nat.le_trans HLay1.out.1.size hbg
      simp only [pickB]
      refine wpT_cons ?_
      gi_wp2
      refine wpT_nil ?_
      have R4 := ret4 hbb (Below.refl G1 W7) (Nat.le_refl _) (.int .i64 co1.a) (.int .i64 co1.b) (.int .i64 co1.c) (.int .i64 co1.d)
      replace HLay := Lib.hid (Lay.add (w := w) (bs := [(w.heap.size, 25, #[.slice A n c, .slice A' m d]), (w.heap.size + 1, 29, #[.int .i64 s.drops, .int .i64 s.pace.lo, .int .i64 s.pace.hi, .int .i64 s.step.lo, .int .i64 s.step.hi]), (w.heap.size + 1 + 1, 27, #[.int .i64 0, .int .i64 0])]) ⟨HLay.out.1.trans (R4.2.mono hbw), fun p hp => ⟨(HLay.out.2 p hp).1, (HLay.out.2 p hp).2.below R4.2 (by have := (HLay1.out.2 p hp).2.lt; omega)⟩⟩ hbw R4.1)
      generalize ((((W7.setCell ⟨G1, 0, none⟩ (.int .i64 co1.a)).setCell ⟨G1, 1, none⟩ (.int .i64 co1.b)).setCell ⟨G1, 2, none⟩ (.int .i64 co1.c)).setCell ⟨G1, 3, none⟩ (.int .i64 co1.d)) = W8 at *
      clear c0 z0 c1 z1 c2 z2 c3 z3 hbl hbb hW hbg R4 hbw hbi HLay1
      have x0_0 := (HLay.out.blk 0 rfl).cell 0
      have x0_1 := (HLay.out.blk 0 rfl).cell 1
      have l0_ := HLay.out.lt 0 rfl
      have x1_0 := (HLay.out.blk 1 rfl).cell 0
      have x1_1 := (HLay.out.blk 1 rfl).cell 1
      have x1_2 := (HLay.out.blk 1 rfl).cell 2
      have x1_3 := (HLay.out.blk 1 rfl).cell 3
      have x1_4 := (HLay.out.blk 1 rfl).cell 4
      have l1_ := HLay.out.lt 1 rfl
      have x2_0 := (HLay.out.blk 2 rfl).cell 0
      have z2_0 := (HLay.out.blk 2 rfl).frozen 0
      have x2_1 := (HLay.out.blk 2 rfl).cell 1
      have z2_1 := (HLay.out.blk 2 rfl).frozen 1
      have l2_ := HLay.out.lt 2 rfl
      have x3_0 := (HLay.out.blk 3 rfl).cell 0
      have x3_1 := (HLay.out.blk 3 rfl).cell 1
      have x3_2 := (HLay.out.blk 3 rfl).cell 2
      have x3_3 := (HLay.out.blk 3 rfl).cell 3
      have l3_ := HLay.out.lt 3 rfl
      cases is1 with
      | false =>
        gi_wp2
        have R1 := ret2 (HLay.out.blk 2 rfl) HLay.out.1 (by omega) (.int .i64 0) (.int .i64 0)
        have y0 := R1.1.cell 0
        have y1 := R1.1.cell 1
        have he : endE t s place l = 32 := by unfold endE betE or2; rw [HEA.out, HSK.out, ← HS1.out, HIS1.out]; rfl
        have hv : endV t s place l = ⟨0, 0⟩ := by unfold endV; rw [he]; rfl
        exact bodyPost_ret (v := .tuple #[.agg #[.int .i64 0, .int .i64 0], .int .i64 32]) (by simp [results, Tryd.results12, go_sem, y0, y1]) rfl ⟨by rw [he, hv], R1.2⟩
      | true =>
        gi_wp2
        clear x0_0 x0_1 l0_ x1_0 x1_1 x1_2 x1_3 x1_4 l1_ x2_0 z2_0 x2_1 z2_1 l2_ x3_0 x3_1 x3_2 x3_3 l3_
        have HLay2 := Lib.hid HLay.out
        refine wpIn_flow_new [([true, true, true, true, true, true, true, true, true], 9), ([], 10)] [false, false, false, false, false, false, false, false, false, false, false, true, true, true, true, false, true, false, true] [false, false, false, false, false, false, false, false, false, false, false, false, false, false, false, false, false, true] 15 (fun b => .pointer (some ⟨b, 0, none⟩)) 103 #[.int .i64 0, .int .i64 0, .int .i64 0, .int .i64 0] (by kernel_rfl) (by kernel_rfl) (by kernel_rfl) (below_drewN (Below.refl _ _) 1) rfl rfl rfl (fun _ _ => rfl) (fun _ _ => rfl) ?_
        refine wpFlow_cons (A := ?AF3) rfl ?hq3 ?_
        case hq3 =>
          rintro σ hσ of hof hcl
          have HOF := Lib.hid hof
          have HCL := Lib.hid hcl
          clear hof hcl
          have c0_ : ∀ z, (of z).cell? ⟨w.heap.size, 0, none⟩ = some (.slice A n c) := fun z => ((HLay.out.below (HOF.out z)).blk 0 rfl).cell 0
          have c1_ : ∀ z, (of z).cell? ⟨w.heap.size, 1, none⟩ = some (.slice A' m d) := fun z => ((HLay.out.below (HOF.out z)).blk 0 rfl).cell 1
          have c2_ : ∀ z, (of z).cell? ⟨w.heap.size + 1, 0, none⟩ = some (.int .i64 s.drops) := fun z => ((HLay.out.below (HOF.out z)).blk 1 rfl).cell 0
          have c3_ : ∀ z, (of z).cell? ⟨w.heap.size + 1, 1, none⟩ = some (.int .i64 s.pace.lo) := fun z => ((HLay.out.below (HOF.out z)).blk 1 rfl).cell 1
          have c4_ : ∀ z, (of z).cell? ⟨w.heap.size + 1, 2, none⟩ = some (.int .i64 s.pace.hi) := fun z => ((HLay.out.below (HOF.out z)).blk 1 rfl).cell 2
          have c5_ : ∀ z, (of z).cell? ⟨w.heap.size + 1, 3, none⟩ = some (.int .i64 s.step.lo) := fun z => ((HLay.out.below (HOF.out z)).blk 1 rfl).cell 3
          have c6_ : ∀ z, (of z).cell? ⟨w.heap.size + 1, 4, none⟩ = some (.int .i64 s.step.hi) := fun z => ((HLay.out.below (HOF.out z)).blk 1 rfl).cell 4
          have hfw : ∀ f, Fence.wide.fn f := fun _ => trivial
          simp only [pickB]
          repeat (gi_big_quiet_step (fail))
          refine wpQuietIn_nil ?_
          exact rfl
        intro W9 hW
        replace HLay := Lib.hid (HLay.out.below hW)
        clear hW
        gi_wp2
        refine ⟨trivial, (callsIn_wide.2 (lost_any s.pace.hi s.step.hi W9)).mono ?_⟩
        rintro e W10 ⟨rfl, hb⟩
        replace HLay := Lib.hid (HLay.out.below hb)
        gi_wp2
        refine ⟨trivial, hb, ?_⟩
        clear hb
        refine wpFlow_cons rfl Quietly.none ?_
        intro W11 hW
        replace HLay := Lib.hid (HLay.out.below hW)
        clear hW
        gi_wp2
        refine ⟨trivial, (callsIn_wide.2 (rwalked_any A n c A' m d (lossP s.pace.hi s.step.hi) t place A2 k2 c2 l W11 hm hk2 ((HT.out.links.below HLay.out.1).more HLay.out.1.size) HC2.out HG.out.fine HF2.out ((HR.out.below HLay.out.1).more HLay.out.1.size))).mono ?_⟩
        rintro e W12 ⟨x2, co2, rfl, hq2, hb, hco2, _⟩
        replace HLay := Lib.hid (HLay.out.below hb)
        have HQ2 := Lib.hid hq2
        clear hq2 hco2
        gi_wp2
        refine ⟨trivial, hb, ?_⟩
        clear hb
        obtain ⟨is2, his2⟩ : ∃ b, (walkedF t (lossP s.pace.hi s.step.hi) place l).isSome = b := ⟨_, rfl⟩
        have hisx : (walkedF t (lossP s.pace.hi s.step.hi) place l, partF t (lossP s.pace.hi s.step.hi) place l).1.isSome = is2 := his2
        rw [hisx]
        have HIS2 := Lib.hid his2
        clear his2 hisx
        refine wpFlow_nil (A := ?AF4) ?hq4 ?_
        case hq4 =>
          rintro σ hσ of hof hcl
          have HOF := Lib.hid hof
          have HCL := Lib.hid hcl
          clear hof hcl
          have c0_ : ∀ z, (of z).cell? ⟨w.heap.size, 0, none⟩ = some (.slice A n c) := fun z => ((HLay.out.below (HOF.out z)).blk 0 rfl).cell 0
          have c1_ : ∀ z, (of z).cell? ⟨w.heap.size, 1, none⟩ = some (.slice A' m d) := fun z => ((HLay.out.below (HOF.out z)).blk 0 rfl).cell 1
          have c2_ : ∀ z, (of z).cell? ⟨w.heap.size + 1, 0, none⟩ = some (.int .i64 s.drops) := fun z => ((HLay.out.below (HOF.out z)).blk 1 rfl).cell 0
          have c3_ : ∀ z, (of z).cell? ⟨w.heap.size + 1, 1, none⟩ = some (.int .i64 s.pace.lo) := fun z => ((HLay.out.below (HOF.out z)).blk 1 rfl).cell 1
          have c4_ : ∀ z, (of z).cell? ⟨w.heap.size + 1, 2, none⟩ = some (.int .i64 s.pace.hi) := fun z => ((HLay.out.below (HOF.out z)).blk 1 rfl).cell 2
          have c5_ : ∀ z, (of z).cell? ⟨w.heap.size + 1, 3, none⟩ = some (.int .i64 s.step.lo) := fun z => ((HLay.out.below (HOF.out z)).blk 1 rfl).cell 3
          have c6_ : ∀ z, (of z).cell? ⟨w.heap.size + 1, 4, none⟩ = some (.int .i64 s.step.hi) := fun z => ((HLay.out.below (HOF.out z)).blk 1 rfl).cell 4
          have hfw : ∀ f, Fence.wide.fn f := fun _ => trivial
          simp only [pickB]
          repeat (gi_big_quiet_step (fail))
          refine wpQuietIn_nil ?_
          exact rfl
        intro G2 W13 hW hbg hbb hbi
        replace HLay := Lib.hid (HLay.out.below hW)
        have c0 := hbb.cell 0
        have z0 := hbb.frozen 0
        have c1 := hbb.cell 1
        have z1 := hbb.frozen 1
        have c2 := hbb.cell 2
        have z2 := hbb.frozen 2
        have c3 := hbb.cell 3
        have z3 := hbb.frozen 3
        have hbl := hbb.lt
        have hbw : w.heap.size ≤ G2 := Nat.le_trans HLay2.out.1.size hbg
        simp only [pickB]
        refine wpT_cons ?_
        gi_wp2
        refine wpT_nil ?_
        have R4 := ret4 hbb (Below.refl G2 W13) (Nat.le_refl _) (.int .i64 co2.a) (.int .i64 co2.b) (.int .i64 co2.c) (.int .i64 co2.d)
        replace HLay := Lib.hid (Lay.add (w := w) (bs := [(w.heap.size, 25, #[.slice A n c, .slice A' m d]), (w.heap.size + 1, 29, #[.int .i64 s.drops, .int .i64 s.pace.lo, .int .i64 s.pace.hi, .int .i64 s.step.lo, .int .i64 s.step.hi]), (w.heap.size + 1 + 1, 27, #[.int .i64 0, .int .i64 0]), (G1, 103, #[.int .i64 co1.a, .int .i64 co1.b, .int .i64 co1.c, .int .i64 co1.d])]) ⟨HLay.out.1.trans (R4.2.mono hbw), fun p hp => ⟨(HLay.out.2 p hp).1, (HLay.out.2 p hp).2.below R4.2 (by have := (HLay2.out.2 p hp).2.lt; omega)⟩⟩ hbw R4.1)
        generalize ((((W13.setCell ⟨G2, 0, none⟩ (.int .i64 co2.a)).setCell ⟨G2, 1, none⟩ (.int .i64 co2.b)).setCell ⟨G2, 2, none⟩ (.int .i64 co2.c)).setCell ⟨G2, 3, none⟩ (.int .i64 co2.d)) = W14 at *
        clear c0 z0 c1 z1 c2 z2 c3 z3 hbl hbb hW hbg R4 hbw hbi HLay2
        have hfa1 : firstA t (lossP s.pace.lo s.step.lo) place l = co1.a := by
          obtain ⟨q, e1⟩ := Option.isSome_iff_exists.1 HIS1.out
          unfold firstA
          rw [e1, HQ1.out q e1]
        have hi2 : (walkedF t (lossP s.pace.hi s.step.hi) place l).isSome = true := HS2.out.trans (HS1.out.symm.trans HIS1.out)
        have hfa2 : firstA t (lossP s.pace.hi s.step.hi) place l = co2.a := by
          obtain ⟨q, e1⟩ := Option.isSome_iff_exists.1 hi2
          unfold firstA
          rw [e1, HQ2.out q e1]
        have hb1 := firstA_bound HG.out.fine HF1.out place l
        have hb2 := firstA_bound HG.out.fine HF2.out place l
        have he : endE t s place l = 0 := by unfold endE betE or2; rw [HEA.out, HSK.out, ← HS1.out, HIS1.out]; rfl
        have hv : endV t s place l = ⟨max 0 (s.drops - co2.a), max 0 (s.drops - co1.a)⟩ := by unfold endV; rw [he, if_pos rfl, hfa1, hfa2]
        rw [hfa1] at hb1
        rw [hfa2] at hb2
        obtain ⟨b10, b11⟩ := hb1
        obtain ⟨b20, b21⟩ := hb2
        obtain ⟨hd0, hd1⟩ := HGS.out.drops
        have HE := Lib.hid he
        have HV := Lib.hid hv
        clear hfa1 hfa2 hi2 he hv
        have x0_0 := (HLay.out.blk 0 rfl).cell 0
        have x0_1 := (HLay.out.blk 0 rfl).cell 1
        have l0_ := HLay.out.lt 0 rfl
        have x1_0 := (HLay.out.blk 1 rfl).cell 0
        have x1_1 := (HLay.out.blk 1 rfl).cell 1
        have x1_2 := (HLay.out.blk 1 rfl).cell 2
        have x1_3 := (HLay.out.blk 1 rfl).cell 3
        have x1_4 := (HLay.out.blk 1 rfl).cell 4
        have l1_ := HLay.out.lt 1 rfl
        have x2_0 := (HLay.out.blk 2 rfl).cell 0
        have z2_0 := (HLay.out.blk 2 rfl).frozen 0
        have x2_1 := (HLay.out.blk 2 rfl).cell 1
        have z2_1 := (HLay.out.blk 2 rfl).frozen 1
        have l2_ := HLay.out.lt 2 rfl
        have x3_0 := (HLay.out.blk 3 rfl).cell 0
        have x3_1 := (HLay.out.blk 3 rfl).cell 1
        have x3_2 := (HLay.out.blk 3 rfl).cell 2
        have x3_3 := (HLay.out.blk 3 rfl).cell 3
        have l3_ := HLay.out.lt 3 rfl
        have x4_0 := (HLay.out.blk 4 rfl).cell 0
        have x4_1 := (HLay.out.blk 4 rfl).cell 1
        have x4_2 := (HLay.out.blk 4 rfl).cell 2
        have x4_3 := (HLay.out.blk 4 rfl).cell 3
        have l4_ := HLay.out.lt 4 rfl
        gi_wp2
        all_goals
          first
            | (have R1 := ret2 (HLay.out.blk 2 rfl) HLay.out.1 (by omega) (.int .i64 (max 0 (s.drops - co2.a))) (.int .i64 (max 0 (s.drops - co1.a)))
               have y0 := R1.1.cell 0
               have y1 := R1.1.cell 1
               exact bodyPost_ret (v := .tuple #[.agg #[.int .i64 (max 0 (s.drops - co2.a)), .int .i64 (max 0 (s.drops - co1.a))], .int .i64 0]) (by simp [results, Tryd.results12, go_sem, y0, y1]) rfl ⟨by rw [HE.out, HV.out], R1.2⟩)
            | (have hx : max 0 (s.drops - co2.a) = 0 := by omega
               have hy : max 0 (s.drops - co1.a) = 0 := by omega
               have R1 := ret2 (HLay.out.blk 2 rfl) HLay.out.1 (by omega) (.int .i64 (0)) (.int .i64 (0))
               have y0 := R1.1.cell 0
               have y1 := R1.1.cell 1
               exact bodyPost_ret (v := .tuple #[.agg #[.int .i64 (0), .int .i64 (0)], .int .i64 0]) (by simp [results, Tryd.results12, go_sem, y0, y1]) rfl ⟨by rw [HE.out, HV.out, hx, hy], R1.2⟩)
            | (have hx : max 0 (s.drops - co2.a) = 0 := by omega
               have hy : max 0 (s.drops - co1.a) = s.drops - co1.a := by omega
               have R1 := ret2 (HLay.out.blk 2 rfl) HLay.out.1 (by omega) (.int .i64 (0)) (.int .i64 (s.drops - co1.a))
               have y0 := R1.1.cell 0
               have y1 := R1.1.cell 1
               exact bodyPost_ret (v := .tuple #[.agg #[.int .i64 (0), .int .i64 (s.drops - co1.a)], .int .i64 0]) (by simp [results, Tryd.results12, go_sem, y0, y1]) rfl ⟨by rw [HE.out, HV.out, hx, hy], R1.2⟩)
            | (have hx : max 0 (s.drops - co2.a) = s.drops - co2.a := by omega
               have hy : max 0 (s.drops - co1.a) = 0 := by omega
               have R1 := ret2 (HLay.out.blk 2 rfl) HLay.out.1 (by omega) (.int .i64 (s.drops - co2.a)) (.int .i64 (0))
               have y0 := R1.1.cell 0
               have y1 := R1.1.cell 1
               exact bodyPost_ret (v := .tuple #[.agg #[.int .i64 (s.drops - co2.a), .int .i64 (0)], .int .i64 0]) (by simp [results, Tryd.results12, go_sem, y0, y1]) rfl ⟨by rw [HE.out, HV.out, hx, hy], R1.2⟩)
            | (have hx : max 0 (s.drops - co2.a) = s.drops - co2.a := by omega
               have hy : max 0 (s.drops - co1.a) = s.drops - co1.a := by omega
               have R1 := ret2 (HLay.out.blk 2 rfl) HLay.out.1 (by omega) (.int .i64 (s.drops - co2.a)) (.int .i64 (s.drops - co1.a))
               have y0 := R1.1.cell 0
               have y1 := R1.1.cell 1
               exact bodyPost_ret (v := .tuple #[.agg #[.int .i64 (s.drops - co2.a), .int .i64 (s.drops - co1.a)], .int .i64 0]) (by simp [results, Tryd.results12, go_sem, y0, y1]) rfl ⟨by rw [HE.out, HV.out, hx, hy], R1.2⟩)
  · have h1 : (ea != 0) = true := by simpa using h0
    have HE0 := Lib.hid h0
    clear h0
    gi_wp2
    have R1 := ret2 (HLay.out.blk 2 rfl) HLay.out.1 (by omega) (.int .i64 0) (.int .i64 0)
    have y0 := R1.1.cell 0
    have y1 := R1.1.cell 1
    have he : endE t s place l = ea := by unfold endE or2; rw [HEA.out, if_neg HE0.out, if_neg HE0.out]
    have hv : endV t s place l = ⟨0, 0⟩ := by unfold endV; rw [he, if_neg HE0.out]
    exact bodyPost_ret (v := .tuple #[.agg #[.int .i64 0, .int .i64 0], .int .i64 ea]) (by simp [results, Tryd.results12, go_sem, y0, y1]) rfl ⟨by rw [he, hv], R1.2⟩

theorem rend_any (A : Option Addr) (n c : Nat) (A' : Option Addr) (m d : Nat) (t : Town) (s : Skin) (place : Int) (A2 : Option Addr) (k2 c2 : Nat) (l : List Int) (w : World)
    (hn : n ≤ 1000) (hm : m ≤ 1000) (hk2 : k2 ≤ 1000) (ht : TownAt w w.heap.size A n A' m t) (hr : IntsAt w w.heap.size A2 k2 l) :
    Calls Tryd.prog 12 #[.agg #[.slice A n c, .slice A' m d], .agg #[.int .i64 s.drops, .int .i64 s.pace.lo, .int .i64 s.pace.hi, .int .i64 s.step.lo, .int .i64 s.step.hi], .int .i64 place, .slice A2 k2 c2] w (EndOut w (endV t s place l) (endE t s place l)) :=
  callsIn_wide.1 (rend_in A n c A' m d t s place A2 k2 c2 l w hn hm hk2 ht hr)
end Go.Proofs.YtahkjagjcogeiaaDoor
/- The answer's Seconds. -/
namespace Go.Proofs.YtahkjagjcogeiaaDoor
open Go.RowKit Go.Shelf
set_option linter.unusedVariables false

set_option maxRecDepth 100000 in
set_option maxHeartbeats 16000000 in
theorem rseconds_in (A : Option Addr) (n c : Nat) (A' : Option Addr) (m d : Nat) (t : Town) (s : Gait) (place : Int) (A2 : Option Addr) (k2 c2 : Nat) (l : List Int) (w : World)
    (hn : n ≤ 1000) (hm : m ≤ 1000) (hk2 : k2 ≤ 1000) (ht : TownAt w w.heap.size A n A' m t) (hr : IntsAt w w.heap.size A2 k2 l) :
    CallsIn Fence.wide 9 Tryd.prog 28 #[.agg #[.slice A n c, .slice A' m d], .agg #[.int .i64 s.pace.lo, .int .i64 s.pace.hi, .int .i64 s.step.lo, .int .i64 s.step.hi], .int .i64 place, .slice A2 k2 c2] w (EndOut w (secV t s place l) (secE t s place l)) := by
  have HT := Lib.hid ht
  have HR := Lib.hid hr
  clear ht hr
  refine callsIn_of_wp Tryd.func28 rfl trivial ?_ rfl
  simp only [Tryd.ntmps28, List.size_toArray, List.length_cons, List.length_nil, Nat.reduceAdd, Nat.reduceSub, Array.replicate_succ, Array.replicate_zero, List.push_toArray, List.append_toArray, List.nil_append, List.cons_append]
  gi_wp2
  have HLay := Lib.hid (Lay.three w 25 #[.slice A n c, .slice A' m d] 66 #[.int .i64 s.pace.lo, .int .i64 s.pace.hi, .int .i64 s.step.lo, .int .i64 s.step.hi] 27 #[.int .i64 0, .int .i64 0])
  generalize (((w.alloc (.cells #[.slice A n c, .slice A' m d] 25)).alloc (.cells #[.int .i64 s.pace.lo, .int .i64 s.pace.hi, .int .i64 s.step.lo, .int .i64 s.step.hi] 66)).alloc (.cells #[.int .i64 0, .int .i64 0] 27)) = w0 at *
  refine ⟨trivial, (callsIn_wide.2 (rasked_any A n c A' m d t place place w0 hn hm ((HT.out.below HLay.out.1).more HLay.out.1.size))).mono ?_⟩
  rintro e W1 ⟨rfl, hb⟩
  replace HLay := Lib.hid (HLay.out.below hb)
  clear hb
  rw [askE_same]
  obtain ⟨ea, hea⟩ : ∃ ea, askE t [place] = ea := ⟨_, rfl⟩
  rw [hea]
  have HEA := Lib.hid hea
  clear hea
  have x0_0 := (HLay.out.blk 0 rfl).cell 0
  have x0_1 := (HLay.out.blk 0 rfl).cell 1
  have l0_ := HLay.out.lt 0 rfl
  have x1_0 := (HLay.out.blk 1 rfl).cell 0
  have x1_1 := (HLay.out.blk 1 rfl).cell 1
  have x1_2 := (HLay.out.blk 1 rfl).cell 2
  have x1_3 := (HLay.out.blk 1 rfl).cell 3
  have l1_ := HLay.out.lt 1 rfl
  have x2_0 := (HLay.out.blk 2 rfl).cell 0
  have z2_0 := (HLay.out.blk 2 rfl).frozen 0
  have x2_1 := (HLay.out.blk 2 rfl).cell 1
  have z2_1 := (HLay.out.blk 2 rfl).frozen 1
  have l2_ := HLay.out.lt 2 rfl
  by_cases h0 : ea = 0
  · subst h0
    obtain ⟨htb, hhas⟩ := askE_zero HEA.out
    have HG := Lib.hid (goodT htb)
    have HUV := Lib.hid (hasB_mem hhas)
    have hm20 : m ≤ 20 := by have := HG.out.links; have := HT.out.links.len; omega
    clear htb hhas
    gi_wp2
    refine ⟨trivial, (callsIn_wide.2 (rgait_any s W1)).mono ?_⟩
    rintro e W2 ⟨rfl, hb⟩
    replace HLay := Lib.hid (HLay.out.below hb)
    clear hb
    clear x0_0 x0_1 l0_ x1_0 x1_1 x1_2 x1_3 l1_ x2_0 z2_0 x2_1 z2_1 l2_
    have x0_0 := (HLay.out.blk 0 rfl).cell 0
    have x0_1 := (HLay.out.blk 0 rfl).cell 1
    have l0_ := HLay.out.lt 0 rfl
    have x1_0 := (HLay.out.blk 1 rfl).cell 0
    have x1_1 := (HLay.out.blk 1 rfl).cell 1
    have x1_2 := (HLay.out.blk 1 rfl).cell 2
    have x1_3 := (HLay.out.blk 1 rfl).cell 3
    have l1_ := HLay.out.lt 1 rfl
    have x2_0 := (HLay.out.blk 2 rfl).cell 0
    have z2_0 := (HLay.out.blk 2 rfl).frozen 0
    have x2_1 := (HLay.out.blk 2 rfl).cell 1
    have z2_1 := (HLay.out.blk 2 rfl).frozen 1
    have l2_ := HLay.out.lt 2 rfl
    cases hs : gaitB s with
    | false =>
      have HS := Lib.hid hs
      clear hs
      gi_wp2
      have R1 := ret2 (HLay.out.blk 2 rfl) HLay.out.1 (by omega) (.int .i64 (0)) (.int .i64 (0))
      have y0 := R1.1.cell 0
      have y1 := R1.1.cell 1
      have he : secE t s place l = 35 := by unfold secE or2 slowE; rw [HEA.out, HS.out]; rfl
      have hv : secV t s place l = ⟨0, 0⟩ := by unfold secV or2 slowE; rw [HEA.out, HS.out]; rfl
      exact bodyPost_ret (v := .tuple #[.agg #[.int .i64 (0), .int .i64 (0)], .int .i64 (35)]) (by simp [results, Tryd.results28, go_sem, y0, y1]) rfl ⟨by rw [he, hv], R1.2⟩
    | true =>
      have HGS := Lib.hid (goodG hs)
      have HSL := Lib.hid (show slowE s = 0 by unfold slowE; rw [hs]; rfl)
      clear hs
      have HO := Lib.hid (show or2 (askE t [place]) (slowE s) = 0 by unfold or2; rw [HEA.out, HSL.out]; rfl)
      have HF1 := Lib.hid (timeP_fair (a := s.pace.lo) (b := s.step.lo) (by have := HGS.out.pace; omega) (by have := HGS.out.step; omega))
      have HF2 := Lib.hid (timeP_fair (a := s.pace.hi) (b := s.step.hi) (by have := HGS.out.pace; omega) (by have := HGS.out.step; omega))
      have HC1 := Lib.hid (timeP_cheap (a := s.pace.lo) (b := s.step.lo) (by have := HGS.out.pace; omega) (by have := HGS.out.step; omega))
      have HC2 := Lib.hid (timeP_cheap (a := s.pace.hi) (b := s.step.hi) (by have := HGS.out.pace; omega) (by have := HGS.out.step; omega))
      gi_wp2
      clear x0_0 x0_1 l0_ x1_0 x1_1 x1_2 x1_3 l1_ x2_0 z2_0 x2_1 z2_1 l2_
      refine ⟨trivial, (callsIn_wide.2 (timed_any A n c A' m d t s place A2 k2 c2 l W2 hm hk2 ((HT.out.links.below HLay.out.1).more HLay.out.1.size) HG.out.fine HGS.out ((HR.out.below HLay.out.1).more HLay.out.1.size))).mono ?_⟩
      rintro e W3 ⟨rfl, hb⟩
      replace HLay := Lib.hid (HLay.out.below hb)
      clear hb
      have HS1 := Lib.hid (walkedF_isSome t (timeP s.pace.lo s.step.lo) ⟨0, 0, 0⟩ place l)
      have HS2 := Lib.hid (walkedF_isSome t (timeP s.pace.hi s.step.hi) ⟨0, 0, 0⟩ place l)
      obtain ⟨fa, hfa⟩ : ∃ y, (partF t (timeP s.pace.lo s.step.lo) place l).a = y := ⟨_, rfl⟩
      obtain ⟨fb, hfb⟩ : ∃ y, (partF t (timeP s.pace.hi s.step.hi) place l).a = y := ⟨_, rfl⟩
      rw [hfa, hfb]
      have HFA := Lib.hid hfa
      have HFB := Lib.hid hfb
      clear hfa hfb
      cases his : (walkedF t (timeP s.pace.lo s.step.lo) place l).isSome with
      | false =>
        have HIS := Lib.hid his
        clear his
        have x0_0 := (HLay.out.blk 0 rfl).cell 0
        have x0_1 := (HLay.out.blk 0 rfl).cell 1
        have l0_ := HLay.out.lt 0 rfl
        have x1_0 := (HLay.out.blk 1 rfl).cell 0
        have x1_1 := (HLay.out.blk 1 rfl).cell 1
        have x1_2 := (HLay.out.blk 1 rfl).cell 2
        have x1_3 := (HLay.out.blk 1 rfl).cell 3
        have l1_ := HLay.out.lt 1 rfl
        have x2_0 := (HLay.out.blk 2 rfl).cell 0
        have z2_0 := (HLay.out.blk 2 rfl).frozen 0
        have x2_1 := (HLay.out.blk 2 rfl).cell 1
        have z2_1 := (HLay.out.blk 2 rfl).frozen 1
        have l2_ := HLay.out.lt 2 rfl
        gi_wp2
        have R1 := ret2 (HLay.out.blk 2 rfl) HLay.out.1 (by omega) (.int .i64 0) (.int .i64 0)
        have R2 := R1.1.alloc (.cells #[.int .i64 fa, .int .i64 fb] 27)
        have y0 := R2.cell 0
        have y1 := R2.cell 1
        have he : secE t s place l = 32 := by unfold secE betE; rw [if_pos HO.out, ← HS1.out, HIS.out]; rfl
        have hv : secV t s place l = ⟨0, 0⟩ := by unfold secV; rw [if_pos HO.out, firstA_none HIS.out, firstA_none (HS2.out.trans (HS1.out.symm.trans HIS.out))]
        exact bodyPost_ret (v := .tuple #[.agg #[.int .i64 0, .int .i64 0], .int .i64 32]) (by simp [results, Tryd.results28, go_sem, y0, y1]) rfl ⟨by rw [he, hv], R1.2.alloc R1.2.size _⟩
      | true =>
        have HIS := Lib.hid his
        clear his
        have x0_0 := (HLay.out.blk 0 rfl).cell 0
        have x0_1 := (HLay.out.blk 0 rfl).cell 1
        have l0_ := HLay.out.lt 0 rfl
        have x1_0 := (HLay.out.blk 1 rfl).cell 0
        have x1_1 := (HLay.out.blk 1 rfl).cell 1
        have x1_2 := (HLay.out.blk 1 rfl).cell 2
        have x1_3 := (HLay.out.blk 1 rfl).cell 3
        have l1_ := HLay.out.lt 1 rfl
        have x2_0 := (HLay.out.blk 2 rfl).cell 0
        have z2_0 := (HLay.out.blk 2 rfl).frozen 0
        have x2_1 := (HLay.out.blk 2 rfl).cell 1
        have z2_1 := (HLay.out.blk 2 rfl).frozen 1
        have l2_ := HLay.out.lt 2 rfl
        gi_wp2
        have R1 := ret2 (HLay.out.blk 2 rfl) HLay.out.1 (by omega) (.int .i64 fa) (.int .i64 fb)
        have R2 := R1.1.alloc (.cells #[.int .i64 fa, .int .i64 fb] 27)
        have y0 := R2.cell 0
        have y1 := R2.cell 1
        have he : secE t s place l = 0 := by unfold secE betE; rw [if_pos HO.out, ← HS1.out, HIS.out]; rfl
        have hv : secV t s place l = ⟨fa, fb⟩ := by unfold secV; rw [if_pos HO.out, ← partF_some HIS.out, ← partF_some (HS2.out.trans (HS1.out.symm.trans HIS.out)), HFA.out, HFB.out]
        exact bodyPost_ret (v := .tuple #[.agg #[.int .i64 fa, .int .i64 fb], .int .i64 0]) (by simp [results, Tryd.results28, go_sem, y0, y1]) rfl ⟨by rw [he, hv], R1.2.alloc R1.2.size _⟩
  · have h1 : (ea != 0) = true := by simpa using h0
    have HE0 := Lib.hid h0
    clear h0
    gi_wp2
    have R1 := ret2 (HLay.out.blk 2 rfl) HLay.out.1 (by omega) (.int .i64 (0)) (.int .i64 (0))
    have y0 := R1.1.cell 0
    have y1 := R1.1.cell 1
    have he : secE t s place l = ea := by unfold secE or2; rw [HEA.out, if_neg HE0.out, if_neg HE0.out]
    have hv : secV t s place l = ⟨0, 0⟩ := by unfold secV or2; rw [HEA.out, if_neg HE0.out, if_neg HE0.out]
    exact bodyPost_ret (v := .tuple #[.agg #[.int .i64 (0), .int .i64 (0)], .int .i64 (ea)]) (by simp [results, Tryd.results28, go_sem, y0, y1]) rfl ⟨by rw [he, hv], R1.2⟩

theorem rseconds_any (A : Option Addr) (n c : Nat) (A' : Option Addr) (m d : Nat) (t : Town) (s : Gait) (place : Int) (A2 : Option Addr) (k2 c2 : Nat) (l : List Int) (w : World)
    (hn : n ≤ 1000) (hm : m ≤ 1000) (hk2 : k2 ≤ 1000) (ht : TownAt w w.heap.size A n A' m t) (hr : IntsAt w w.heap.size A2 k2 l) :
    Calls Tryd.prog 28 #[.agg #[.slice A n c, .slice A' m d], .agg #[.int .i64 s.pace.lo, .int .i64 s.pace.hi, .int .i64 s.step.lo, .int .i64 s.step.hi], .int .i64 place, .slice A2 k2 c2] w (EndOut w (secV t s place l) (secE t s place l)) :=
  callsIn_wide.1 (rseconds_in A n c A' m d t s place A2 k2 c2 l w hn hm hk2 ht hr)
end Go.Proofs.YtahkjagjcogeiaaDoor
/- The answer's costs: its row of entries, plainly. -/
namespace Go.Proofs.YtahkjagjcogeiaaDoor
open Go.RowKit
set_option linter.unusedVariables false

def infC : Cost := ⟨1000000000, 0, 0, 0⟩
def entC (r : Option Cost) : Cost := r.getD infC
def eVals (E : List (Option Cost)) : List Value := E.flatMap fun r => (entC r).vals
theorem eVals_cons (r : Option Cost) (E : List (Option Cost)) : eVals (r :: E) = .int .i64 (entC r).a :: .int .i64 (entC r).b :: .int .i64 (entC r).c :: .int .i64 (entC r).d :: eVals E := by simp [eVals, Cost.vals]
theorem eVals_len (E : List (Option Cost)) : (eVals E).length = E.length * 4 := by
  induction E with
  | nil => rfl
  | cons r E ih => rw [eVals_cons]; simp [ih]; omega
theorem eVals_at {E : List (Option Cost)} {k j : Nat} {r : Option Cost} (h : E[k]? = some r) (hj : j < 4) : (eVals E)[k * 4 + j]? = (entC r).vals[j]? := by
  induction E generalizing k with
  | nil => simp at h
  | cons y l ih =>
    rw [eVals_cons]
    cases k with
    | zero =>
      simp at h
      subst h
      rcases (show j = 0 ∨ j = 1 ∨ j = 2 ∨ j = 3 by omega) with rfl | rfl | rfl | rfl <;> rfl
    | succ k =>
      have e : (k + 1) * 4 + j = (k * 4 + j) + 1 + 1 + 1 + 1 := by omega
      rw [e]
      simp only [List.getElem?_cons_succ]
      exact ih (by simpa using h)
theorem eVals_set {E : List (Option Cost)} {k : Nat} {r : Option Cost} (hk : k < E.length) :
    ((((eVals E).set (k * 4) (.int .i64 (entC r).a)).set (k * 4 + 1) (.int .i64 (entC r).b)).set (k * 4 + 2) (.int .i64 (entC r).c)).set (k * 4 + 3) (.int .i64 (entC r).d) = eVals (E.set k r) := by
  induction E generalizing k with
  | nil => simp at hk
  | cons y l ih =>
    cases k with
    | zero => simp only [eVals_cons, List.set_cons_zero]; rfl
    | succ k =>
      have e : (k + 1) * 4 = k * 4 + 1 + 1 + 1 + 1 := by omega
      have e1 : (k + 1) * 4 + 1 = (k * 4 + 1) + 1 + 1 + 1 + 1 := by omega
      have e2 : (k + 1) * 4 + 2 = (k * 4 + 2) + 1 + 1 + 1 + 1 := by omega
      have e3 : (k + 1) * 4 + 3 = (k * 4 + 3) + 1 + 1 + 1 + 1 := by omega
      rw [e1, e2, e3, e, List.set_cons_succ, eVals_cons, eVals_cons]
      simp only [List.set_cons_succ]
      rw [ih (by simpa using hk)]
theorem eVals_inf {E : List (Option Cost)} {k : Nat} (h : E[k]? = some (some zeroC)) : (eVals E).set (k * 4) (.int .i64 1000000000) = eVals (E.set k none) := by
  induction E generalizing k with
  | nil => simp at h
  | cons y l ih =>
    cases k with
    | zero =>
      simp at h
      subst h
      simp only [eVals_cons, List.set_cons_zero]; rfl
    | succ k =>
      have e : (k + 1) * 4 = k * 4 + 1 + 1 + 1 + 1 := by omega
      rw [e, List.set_cons_succ, eVals_cons, eVals_cons]
      simp only [List.set_cons_succ]
      rw [ih (by simpa using h)]
theorem eVals_zero (n : Nat) : eVals (List.replicate n (some zeroC)) = List.replicate (n * 4) (.int .i64 0) := by
  induction n with
  | zero => rfl
  | succ n ih =>
    have e : (n + 1) * 4 = n * 4 + 1 + 1 + 1 + 1 := by omega
    rw [List.replicate_succ, eVals_cons, ih, e]
    rfl
theorem made_zero (n : Nat) : madeCells #[.int .i64 0, .int .i64 0, .int .i64 0, .int .i64 0] (n * 4) = (eVals (List.replicate n (some zeroC))).toArray := by
  rw [eVals_zero]
  unfold madeCells
  apply Array.ext'
  rw [Array.toList_map]
  apply List.ext_getElem
  · simp
  · intro i h1 h2
    simp
    rcases (show i % 4 = 0 ∨ i % 4 = 1 ∨ i % 4 = 2 ∨ i % 4 = 3 by omega) with h | h | h | h <;> simp [h]

theorem lessC_cmp (x y : Cost) : lessC x y = decide (cmpL x.list y.list < 0) := by
  unfold lessC
  simp only [cmpL, Cost.list]
  by_cases h1 : x.a = y.a
  · by_cases h2 : x.b = y.b
    · by_cases h3 : x.c = y.c
      · by_cases h4 : x.d = y.d
        · simp [h1, h2, h3, h4]
        · rcases (show x.d < y.d ∨ y.d < x.d by omega) with h | h
          · simp [h1, h2, h3, h4, h]
          · simp [h1, h2, h3, h4, h, show ¬ x.d < y.d by omega]
      · rcases (show x.c < y.c ∨ y.c < x.c by omega) with h | h
        · simp [h1, h2, h3, h]
        · simp [h1, h2, h3, h, show ¬ x.c < y.c by omega]
    · rcases (show x.b < y.b ∨ y.b < x.b by omega) with h | h
      · simp [h1, h2, h]
      · simp [h1, h2, h, show ¬ x.b < y.b by omega]
  · rcases (show x.a < y.a ∨ y.a < x.a by omega) with h | h
    · simp [h1, h]
    · simp [h1, h, show ¬ x.a < y.a by omega]

theorem leE_zero {E : List (Option Cost)} {i : Nat} (h : E[i]? = some (some zeroC)) : leE E i zeroC := ⟨zeroC, h, by simp [cmpL, Cost.list]⟩
/-- The start. -/
theorem BSt.start {t : Town} {dk : Bool} {p : Price} {to : Int} {E : List (Option Cost)} (hl : E.length = t.places.length) (h : ∀ (i : Nat) v, t.places[i]? = some v → E[i]? = some (if v = to then some zeroC else none)) : BSt t dk p to 0 0 0 0 E := by
  refine ⟨hl, ?_, ?_, ?_, fun i' hi => absurd hi (by omega), fun v _ x hx => by simp at hx⟩
  · intro i v c hv hc
    rw [h i v hv] at hc
    by_cases e : v = to
    · rw [if_pos e] at hc
      cases hc
      subst e
      exact ⟨[], .nil _, by simp⟩
    · rw [if_neg e] at hc
      cases hc
  · intro i hi
    exact leE_zero (by rw [h i to hi, if_pos rfl])
  · intro i v c l hv hw hlen
    obtain rfl : l = [] := List.length_eq_zero_iff.1 (by omega)
    cases hw
    exact leE_zero (by rw [h i _ hv, if_pos rfl])
/-- An entry is small. -/
structure Little (x : Cost) : Prop where
  a : 0 ≤ x.a ∧ x.a ≤ 250000000
  b : 0 ≤ x.b ∧ x.b ≤ 1000000
  c : 0 ≤ x.c ∧ x.c ≤ 4000000
  d : 0 ≤ x.d ∧ x.d ≤ 2000
theorem BSt.little {t : Town} {dk : Bool} {p : Price} {to : Int} {k i j M : Nat} {E : List (Option Cost)} (h : BSt t dk p to k i j M E) (ht : Fine t) (hp : Fair p) (hM : M ≤ 2000) {q : Nat} {d : Cost} (hd : E[q]? = some (some d)) : Little d := by
  have hq : q < t.places.length := by rw [← h.len]; exact (List.getElem?_eq_some_iff.1 hd).1
  obtain ⟨l, hw, hl⟩ := h.sound q _ d (List.getElem?_eq_getElem hq) hd
  have := hw.bound ht hp
  exact ⟨by omega, by omega, by omega, by omega⟩
/-- A row of entries, in memory. -/
def EAt (w : World) (B : Nat) (A : Option Addr) (n : Nat) (E : List (Option Cost)) : Prop := Reads w B 4 A n (eVals E)
end Go.Proofs.YtahkjagjcogeiaaDoor
