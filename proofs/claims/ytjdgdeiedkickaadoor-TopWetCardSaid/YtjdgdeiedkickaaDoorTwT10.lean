/- Part 10 of the texts of this claim, joined. -/
import Derived.Sort.CutIn
import Derived.Test.YtjdgdeiedkickaaDoorTwT9
set_option linter.unusedVariables false
/- climb.between: what is asked first of a walk, by two prices. -/
namespace Go.Proofs.YtjdgdeiedkickaaDoor
open Go.RowKit

theorem leads_fst (dk : Bool) (p p' : Price) (x : Link) (u : Int) : (leads dk p x u).map Prod.fst = (leads dk p' x u).map Prod.fst := by
 unfold leads
 split
 ·rfl
 ·split
  ·rfl
  ·split <;> rfl
theorem stepF_fst (t : Town) (p p' : Price) (u i : Int) : (stepF t p u i).map Prod.fst = (stepF t p' u i).map Prod.fst := by
 unfold stepF
 induction t.links with
 | nil => rfl
 | cons x xs ih =>
  rw [List.findSome?_cons, List.findSome?_cons]
  by_cases e : x.id = i
  ·rw [if_pos e, if_pos e]
   have h := leads_fst false p p' x u
   cases h1 : leads false p x u <;> cases h2 : leads false p' x u <;> rw [h1, h2] at h <;> simp at h
   ·exact ih
   ·simp [h]
  ·rw [if_neg e, if_neg e]
   exact ih
theorem walkS_fst (t : Town) (p p' : Price) : ∀ (l : List Int) (s s' : Int × Cost), s.1 = s'.1 → (walkS t p s l).map Prod.fst = (walkS t p' s' l).map Prod.fst
 | [], s, s', h => by simp [walkS, h]
 | i :: r, s, s', h => by
  have h1 := stepF_fst t p p' s.1 i
  unfold walkS
  rw [h] at h1 ⊢
  cases h2 : stepF t p s'.1 i <;> cases h3 : stepF t p' s'.1 i <;> rw [h2, h3] at h1 <;> simp at h1
  ·exact walkS_fst t p p' r _ _ h1
theorem walkedF_fst (t : Town) (p p' : Price) (u : Int) (l : List Int) : (walkedF t p u l).map Prod.fst = (walkedF t p' u l).map Prod.fst := by
 unfold walkedF
 split
 ·rfl
 ·exact walkS_fst t p p' l _ _ rfl
theorem walkedF_isSome (t : Town) (p p' : Price) (u : Int) (l : List Int) : (walkedF t p u l).isSome = (walkedF t p' u l).isSome := by
 have h := walkedF_fst t p p' u l
 cases h1 : walkedF t p u l <;> cases h2 : walkedF t p' u l <;> rw [h1, h2] at h <;> simp at h ⊢

theorem walkS_walk {t : Town} {p : Price} : ∀ (l : List Int) (u v : Int) (c c' : Cost), walkS t p (u, c) l = some (v, c') → ∃ d, Walk t false p u v d l ∧ c' = addC c d
 | [], u, v, c, c', h => by
  simp only [walkS, Option.some.injEq, Prod.mk.injEq] at h
  obtain ⟨rfl, rfl⟩ := h
  exact ⟨zeroC, .nil u, (addC_zero c).symm⟩
 | i :: r, u, v, c, c', h => by
  unfold walkS at h
  cases hs : stepF t p u i with
  | none => simp only [hs] at h; cases h
  | some q =>
   obtain ⟨m, cx⟩ := q
   simp only [hs] at h
   obtain ⟨x, hx, rfl, hl⟩ := stepF_some hs
   obtain ⟨d, hw, he⟩ := walkS_walk r m v _ _ h
   exact ⟨addC cx d, .cons hx hl hw, by rw [he, addC_assoc]⟩
theorem walkedF_walk {t : Town} {p : Price} {u v : Int} {l : List Int} {c : Cost} (h : walkedF t p u l = some (v, c)) : Walk t false p u v c l ∧ l.length ≤ 40 := by
 unfold walkedF at h
 split at h
 ·cases h
 ·obtain ⟨d, hw, he⟩ := walkS_walk l u v _ _ h
  rw [zero_addC] at he
  subst he
  exact ⟨hw, by omega⟩

/-- What is asked first of a walk: 0 if it is none. -/
def firstA (t : Town) (p : Price) (u : Int) (l : List Int) : Int := match walkedF t p u l with
 | some q => q.2.a
 | none => 0
def betE (t : Town) (u : Int) (l : List Int) : Int := if (walkedF t ⟨0, 0, 0⟩ u l).isSome then 0 else 32
theorem firstA_none {t : Town} {p : Price} {u : Int} {l : List Int} (h : (walkedF t p u l).isSome = false) : firstA t p u l = 0 := by
 unfold firstA
 cases h1 : walkedF t p u l
 ·rfl
 ·rw [h1] at h; cases h

theorem firstA_bound {t : Town} {p : Price} (hf : Fine t) (hp : Fair p) (u : Int) (l : List Int) : 0 ≤ firstA t p u l ∧ firstA t p u l ≤ 5000000 := by
 unfold firstA
 cases h : walkedF t p u l with
 | none => simp
 | some q =>
  obtain ⟨v, c⟩ := q
  obtain ⟨hw, hl⟩ := walkedF_walk h
  have := hw.bound hf hp
  simp only
  omega

theorem walked_all (A : Option Addr) (nn c : Nat) (A' : Option Addr) (m d : Nat) (F : FuncId) (C : Array Value) (p : Price) (t : Town) (place : Int) (A2 : Option Addr) (k2 c2 : Nat) (l : List Int) (w : World)
  (hm : m ≤ 20) (hk2 : k2 ≤ 1000) (ht : LinksAt w w.heap.size A' m t.links) (hp : PriceAt w p F C) (hfine : Fine t) (hfair : Fair p) (hr : IntsAt w w.heap.size A2 k2 l) :
  Calls Tryd.prog 38 #[.agg #[.slice A nn c, .slice A' m d, .bool false, .func (.func F) #[] C], .int .i64 place, .slice A2 k2 c2] w (WalkedOut w (walkedF t p place l)) := by
 rcases Nat.lt_or_ge 40 k2 with h | h
 ·exact walked_long A nn c A' m d F C p t place A2 k2 c2 l w h hk2 hr
 ·exact walked_any A nn c A' m d F C p t place A2 k2 c2 l w hm h ht hp hfine hfair hr

set_option maxRecDepth 100000 in
set_option maxHeartbeats 2000000 in
theorem between_any (A : Option Addr) (n c : Nat) (A' : Option Addr) (m d : Nat) (F1 : FuncId) (C1 : Array Value) (F2 : FuncId) (C2 : Array Value) (p1 p2 : Price) (t : Town) (place : Int) (A2 : Option Addr) (k2 c2 : Nat) (l : List Int) (w : World)
  (hm : m ≤ 20) (hk2 : k2 ≤ 1000) (ht : LinksAt w w.heap.size A' m t.links) (hp1 : PriceAt w p1 F1 C1) (hp2 : PriceAt w p2 F2 C2) (hfine : Fine t) (hf1 : Fair p1) (hf2 : Fair p2) (hr : IntsAt w w.heap.size A2 k2 l) :
  Calls Tryd.prog 21 #[.agg #[.slice A n c, .slice A' m d], .int .i64 place, .slice A2 k2 c2, .func (.func F1) #[] C1, .func (.func F2) #[] C2] w fun e w' => e = .returned (.tuple #[.agg #[.int .i64 (firstA t p1 place l), .int .i64 (firstA t p2 place l)], .int .i64 (betE t place l)]) ∧ Below w.heap.size w w' := by
 have HT := Lib.hid ht
 have HP1 := Lib.hid hp1
 have HP2 := Lib.hid hp2
 have HFI := Lib.hid hfine
 have HF1 := Lib.hid hf1
 have HF2 := Lib.hid hf2
 have HR := Lib.hid hr
 have HS1 := Lib.hid (walkedF_isSome t p1 ⟨0, 0, 0⟩ place l)
 have HS2 := Lib.hid (walkedF_isSome t p2 ⟨0, 0, 0⟩ place l)
 clear ht hp1 hp2 hfine hf1 hf2 hr
 go_enter Tryd.func21, Tryd.ntmps21
 go_wp2_with fail
 have X0 := (Blk.new w 25 #[.slice A n c, .slice A' m d]).alloc (.cells #[.int .i64 0, .int .i64 0] 27)
 have Y0 := Blk.new (w.alloc (.cells #[.slice A n c, .slice A' m d] 25)) 27 #[.int .i64 0, .int .i64 0]
 have B0 : Below w.heap.size w ((w.alloc (.cells #[.slice A n c, .slice A' m d] 25)).alloc (.cells #[.int .i64 0, .int .i64 0] 27)) := ((Below.refl _ _).alloc (Nat.le_refl _) _).alloc (by simp) _
 rw [World.size_alloc] at Y0
 generalize ((w.alloc (.cells #[.slice A n c, .slice A' m d] 25)).alloc (.cells #[.int .i64 0, .int .i64 0] 27)) = w0 at *
 refine (walked_all A n c A' m d F1 C1 p1 t place A2 k2 c2 l w0 hm hk2 ((HT.out.below B0).more B0.size) (HP1.out.below B0) HFI.out HF1.out ((HR.out.below B0).more B0.size)).mono ?_
 rintro e w1 ⟨x1, co1, rfl, hq1, hb1⟩
 have HQ1 := Lib.hid hq1
 have X1 := X0.below hb1 X0.lt
 have Y1 := Y0.below hb1 Y0.lt
 have B1 := B0.trans (hb1.mono B0.size)
 have x0 := X1.cell 0
 have xx := X1.cell 1
 have y0 := Y1.cell 0
 have y1 := Y1.cell 1
 have z0 := Y1.frozen 0
 have z1 := Y1.frozen 1
 have hl1 := X1.lt
 have hl2 := Y1.lt
 have HX1 := Lib.hid X1
 have HY1 := Lib.hid Y1
 clear hq1 hb1 X0 Y0 X1 Y1
 cases h1 : (walkedF t p1 place l).isSome with
 | false =>
  have H1 := Lib.hid h1
  clear h1
  go_wp2_with fail
  have R1 := ret2 HY1.out B1 (by omega) (.int .i64 0) (.int .i64 0)
  have R2 := R1.1.alloc (.cells #[.int .i64 x1, .int .i64 co1.a, .int .i64 co1.b, .int .i64 co1.c, .int .i64 co1.d, .slice none 0 0] 108)
  have r0 := R2.cell 0
  have r1 := R2.cell 1
  refine bodyPost_ret (v := .tuple #[.agg #[.int .i64 0, .int .i64 0], .int .i64 32]) (by simp [results, Tryd.results21, go_sem, r0, r1]) rfl ⟨?_, R1.2.alloc R1.2.size _⟩
  rw [firstA_none H1.out, firstA_none (HS2.out.trans (HS1.out.symm.trans H1.out))]
  unfold betE
  rw [← HS1.out, H1.out]
  rfl
 | true =>
  obtain ⟨q1, e1⟩ := Option.isSome_iff_exists.1 h1
  have hco1 : firstA t p1 place l = co1.a := by
   unfold firstA
   rw [e1, HQ1.out q1 e1]
  have H1 := Lib.hid h1
  have HC1 := Lib.hid hco1
  clear h1 e1 hco1
  go_wp2_with fail
  have BB := (Below.refl w1.heap.size w1).alloc (Nat.le_refl _) (.cells #[.int .i64 x1, .int .i64 co1.a, .int .i64 co1.b, .int .i64 co1.c, .int .i64 co1.d, .slice none 0 0] 108)
  have HX2 := Lib.hid (HX1.out.below BB HX1.out.lt)
  have HY2 := Lib.hid (HY1.out.below BB HY1.out.lt)
  have B2 := B1.trans (BB.mono B1.size)
  have Z2 := Blk.new w1 108 #[.int .i64 x1, .int .i64 co1.a, .int .i64 co1.b, .int .i64 co1.c, .int .i64 co1.d, .slice none 0 0]
  obtain ⟨Z, hZ⟩ : ∃ Z, w1.heap.size = Z := ⟨_, rfl⟩
  rw [hZ] at Z2 hl1 hl2 ⊢
  have HZ2 := Lib.hid Z2
  clear Z2 BB x0 xx y0 y1 z0 z1
  generalize (w1.alloc (.cells #[.int .i64 x1, .int .i64 co1.a, .int .i64 co1.b, .int .i64 co1.c, .int .i64 co1.d, .slice none 0 0] 108)) = w2 at *
  clear hZ
  refine (walked_all A n c A' m d F2 C2 p2 t place A2 k2 c2 l w2 hm hk2 ((HT.out.below B2).more B2.size) (HP2.out.below B2) HFI.out HF2.out ((HR.out.below B2).more B2.size)).mono ?_
  rintro e w3 ⟨x2, co2, rfl, hq2, hb3⟩
  have h2 : (walkedF t p2 place l).isSome = true := HS2.out.trans (HS1.out.symm.trans H1.out)
  obtain ⟨q2, e2⟩ := Option.isSome_iff_exists.1 h2
  have hco2 : firstA t p2 place l = co2.a := by
   unfold firstA
   rw [e2, hq2 q2 e2]
  have HC2 := Lib.hid hco2
  rw [h2]
  have HY3 := Lib.hid (HY2.out.below hb3 HY2.out.lt)
  have HZ3 := Lib.hid (HZ2.out.below hb3 HZ2.out.lt)
  have B3 := B2.trans (hb3.mono B2.size)
  clear hq2 e2 hco2 h2 hb3
  have y0 := HY3.out.cell 0
  have y1 := HY3.out.cell 1
  have z0 := HY3.out.frozen 0
  have z1 := HY3.out.frozen 1
  have v1 := HZ3.out.cell 1
  have hl3 := HY3.out.lt
  have hl4 := HZ3.out.lt
  go_wp2_with fail
  have R1 := ret2 HY3.out B3 (by omega) (.int .i64 co1.a) (.int .i64 co2.a)
  have R2 := R1.1.alloc (.cells #[.int .i64 x2, .int .i64 co2.a, .int .i64 co2.b, .int .i64 co2.c, .int .i64 co2.d, .slice none 0 0] 108)
  have r0 := R2.cell 0
  have r1 := R2.cell 1
  refine bodyPost_ret (v := .tuple #[.agg #[.int .i64 co1.a, .int .i64 co2.a], .int .i64 0]) (by simp [results, Tryd.results21, go_sem, r0, r1]) rfl ⟨?_, R1.2.alloc R1.2.size _⟩
  rw [HC1.out, HC2.out]
  unfold betE
  rw [← HS1.out, H1.out]
  rfl
end Go.Proofs.YtjdgdeiedkickaaDoor
/- climb.End: what a skin holds at the end of a walk. -/
namespace Go.Proofs.YtjdgdeiedkickaaDoor
open Go.RowKit Go.Shelf

def endE (t : Town) (s : Skin) (place : Int) (l : List Int) : Int := if or2 (askE t [place]) (dryE s) = 0 then betE t place l else or2 (askE t [place]) (dryE s)
def endV (t : Town) (s : Skin) (place : Int) (l : List Int) : Span := if endE t s place l = 0 then ⟨max 0 (s.drops - firstA t (lossP s.pace.hi s.step.hi) place l), max 0 (s.drops - firstA t (lossP s.pace.lo s.step.lo) place l)⟩ else ⟨0, 0⟩
def EndOut (w : World) (v : Span) (e : Int) (x : Ending) (w' : World) : Prop := x = .returned (.tuple #[.agg #[.int .i64 v.lo, .int .i64 v.hi], .int .i64 e]) ∧ Below w.heap.size w w'

set_option maxRecDepth 100000 in
set_option maxHeartbeats 16000000 in
theorem end_in (A : Option Addr) (n c : Nat) (A' : Option Addr) (m d : Nat) (t : Town) (s : Skin) (place : Int) (A2 : Option Addr) (k2 c2 : Nat) (l : List Int) (w : World)
  (hn : n ≤ 1000) (hm : m ≤ 1000) (hk2 : k2 ≤ 1000) (ht : TownAt w w.heap.size A n A' m t) (hr : IntsAt w w.heap.size A2 k2 l) (hL : Laid w) :
  CallsIn Fence.wide 9 Tryd.prog 9 #[.agg #[.slice A n c, .slice A' m d], .agg #[.int .i64 s.drops, .int .i64 s.pace.lo, .int .i64 s.pace.hi, .int .i64 s.step.lo, .int .i64 s.step.hi], .int .i64 place, .slice A2 k2 c2] w (EndOut w (endV t s place l) (endE t s place l)) := by
 have HT := Lib.hid ht
 have HR := Lib.hid hr
 have HL := Lib.hid hL
 have hl0 := hL.2.2.2
 clear ht hr hL
 refine callsIn_of_wp Tryd.func9 rfl trivial ?_ rfl
 simp only [Tryd.ntmps9, List.size_toArray, List.length_cons, List.length_nil, Nat.reduceAdd, Nat.reduceSub, Array.replicate_succ, Array.replicate_zero, List.push_toArray, List.append_toArray, List.nil_append, List.cons_append]
 gi_wp2
 have L0 := Lay.three w 25 #[.slice A n c, .slice A' m d] 29 #[.int .i64 s.drops, .int .i64 s.pace.lo, .int .i64 s.pace.hi, .int .i64 s.step.lo, .int .i64 s.step.hi] 27 #[.int .i64 0, .int .i64 0]
 have HLay := Lib.hid L0
 clear L0
 generalize (((w.alloc (.cells #[.slice A n c, .slice A' m d] 25)).alloc (.cells #[.int .i64 s.drops, .int .i64 s.pace.lo, .int .i64 s.pace.hi, .int .i64 s.step.lo, .int .i64 s.step.hi] 29)).alloc (.cells #[.int .i64 0, .int .i64 0] 27)) = w0 at *
 refine wpIn_flow_old [([true, true, false, false, true], 2), ([], 3), ([], 5), ([], 6), ([], 7)] [false, false, false, false, false, false, false, false, true] [] (by kernel_rfl) (by kernel_rfl) (by kernel_rfl) (below_drewN (Below.refl _ _) 1) ?_
 refine wpFlow_cons (A := ?AF1) rfl ?hq1 ?_
 case hq1 =>
  rintro σ hσ of hof hcl
  have HOF := Lib.hid hof
  clear hof hcl
  have t0 : ∀ z, (of z).cell? ⟨w.heap.size, 0, none⟩ = some (.slice A n c) := fun z => ((HLay.out.below (HOF.out z)).blk 0 rfl).cell 0
  have t1 : ∀ z, (of z).cell? ⟨w.heap.size, 1, none⟩ = some (.slice A' m d) := fun z => ((HLay.out.below (HOF.out z)).blk 0 rfl).cell 1
  have s0 : ∀ z, (of z).cell? ⟨w.heap.size + 1, 0, none⟩ = some (.int .i64 s.drops) := fun z => ((HLay.out.below (HOF.out z)).blk 1 rfl).cell 0
  have s1 : ∀ z, (of z).cell? ⟨w.heap.size + 1, 1, none⟩ = some (.int .i64 s.pace.lo) := fun z => ((HLay.out.below (HOF.out z)).blk 1 rfl).cell 1
  have s2 : ∀ z, (of z).cell? ⟨w.heap.size + 1, 2, none⟩ = some (.int .i64 s.pace.hi) := fun z => ((HLay.out.below (HOF.out z)).blk 1 rfl).cell 2
  have s3 : ∀ z, (of z).cell? ⟨w.heap.size + 1, 3, none⟩ = some (.int .i64 s.step.lo) := fun z => ((HLay.out.below (HOF.out z)).blk 1 rfl).cell 3
  have s4 : ∀ z, (of z).cell? ⟨w.heap.size + 1, 4, none⟩ = some (.int .i64 s.step.hi) := fun z => ((HLay.out.below (HOF.out z)).blk 1 rfl).cell 4
  have hfw : ∀ f, Fence.wide.fn f := fun _ => trivial
  simp only [pickB]
  repeat (gi_big_quiet_step (fail))
  refine wpQuietIn_nil ?_
  exact rfl
 intro W1 hW1
 gi_wp2
 refine ⟨trivial, (Below.refl _ _).alloc (Nat.le_refl _) _, ?_⟩
 have HLay1 := Lib.hid ((HLay.out.below hW1).below ((Below.refl _ _).alloc (Nat.le_refl _) (.cells #[.int .i64 place] 3)))
 have HPl : Hid (IntsAt (W1.alloc (.cells #[.int .i64 place] 3)) (W1.alloc (.cells #[.int .i64 place] 3)).heap.size (some ⟨W1.heap.size, 0, none⟩) 1 [place]) := Lib.hid (IntsAt.new W1 3 [place] _ (by simp))
 obtain ⟨P1, hP1⟩ : ∃ P1, W1.heap.size = P1 := ⟨_, rfl⟩
 rw [hP1] at HPl ⊢
 generalize (W1.alloc (.cells #[.int .i64 place] 3)) = V1 at *
 clear hW1
 refine wpFlow_cons rfl Quietly.none ?_
 intro W2 hW2
 have HLay2 := Lib.hid (HLay1.out.below hW2)
 have hlw := (HLay2.out.blk 1 rfl).lt
 gi_wp2
 refine ⟨trivial, (callsIn_wide.2 (asked_any A n c A' m d t (some ⟨P1, 0, none⟩) 1 1 [place] W2 (by unfold maxLen; omega) (by unfold maxLen; omega) (by decide) ((HT.out.below HLay2.out.1).more HLay2.out.1.size) ((HPl.out.below hW2).more hW2.size) (HL.out.below HLay2.out.1 hl0))).mono ?_⟩
 rintro e W3 ⟨rfl, hb3⟩
 gi_wp2
 refine ⟨trivial, hb3, ?_⟩
 have HLay3 := Lib.hid (HLay2.out.below hb3)
 clear hb3 hW2 HLay1 HLay2
 refine wpFlow_cons rfl Quietly.none ?_
 intro W4 hW4
 have HLay4 := Lib.hid (HLay3.out.below hW4)
 gi_wp2
 refine ⟨trivial, (callsIn_wide.2 (dry_any s W4)).mono ?_⟩
 rintro e W5 ⟨rfl, hb5⟩
 gi_wp2
 refine ⟨trivial, hb5, ?_⟩
 have HLay5 := Lib.hid (HLay4.out.below hb5)
 clear hb5 hW4 HLay3 HLay4
 refine wpFlow_cons rfl Quietly.none ?_
 intro W6 hW6
 gi_wp2
 refine ⟨trivial, (Below.refl _ _).alloc (Nat.le_refl _) _, ?_⟩
 have HLay6 := Lib.hid ((HLay5.out.below hW6).below ((Below.refl _ _).alloc (Nat.le_refl _) (.cells #[.int .i64 (askE t [place]), .int .i64 (dryE s)] 36)))
 have HOr := Lib.hid (Blk.new W6 36 #[.int .i64 (askE t [place]), .int .i64 (dryE s)])
 obtain ⟨P2, hP2⟩ : ∃ P2, W6.heap.size = P2 := ⟨_, rfl⟩
 rw [hP2] at HOr ⊢
 generalize (W6.alloc (.cells #[.int .i64 (askE t [place]), .int .i64 (dryE s)] 36)) = V6 at *
 clear hW6 HLay5
 refine wpFlow_cons rfl Quietly.none ?_
 intro W7 hW7
 gi_wp2
 refine ⟨trivial, (callsIn_wide.2 (or_any (askE t [place]) (dryE s) P2 W7 (HOr.out.below hW7 HOr.out.lt))).mono ?_⟩
 rintro e W8 ⟨rfl, rfl⟩
 gi_wp2
 refine ⟨trivial, Below.refl _ _, ?_⟩
 have HLay7 := Lib.hid (HLay6.out.below hW7)
 clear hW7 HLay6 HOr
 obtain ⟨ee, hee⟩ : ∃ ee, or2 (askE t [place]) (dryE s) = ee := ⟨_, rfl⟩
 rw [hee]
 have HEE := Lib.hid hee
 clear hee
 refine wpFlow_nil (A := ?AF9) ?hq9 ?_
 case hq9 =>
  rintro σ hσ of hof hcl
  simp only [pickB]
  repeat (gi_big_quiet_step (fail))
  refine wpQuietIn_nil ?_
  exact rfl
 intro W9 hW9
 simp only [pickB]
 refine wpT_nil ?_
 have HLay9 := Lib.hid (HLay7.out.below hW9)
 clear hW9 HLay7
 have r0 := (HLay9.out.blk 2 rfl).cell 0
 have r1 := (HLay9.out.blk 2 rfl).cell 1
 have z0 := (HLay9.out.blk 2 rfl).frozen 0
 have z1 := (HLay9.out.blk 2 rfl).frozen 1
 have hl2 := HLay9.out.lt 2 rfl
 by_cases h0 : ee = 0
 ·subst h0
  have HOK := Lib.hid (or2_zero HEE.out)
  obtain ⟨htb, hhas⟩ := askE_zero HOK.out.1
  have HG := Lib.hid (goodT htb)
  have HGS := Lib.hid (goodS (dryE_zero HOK.out.2))
  have hm20 : m ≤ 20 := by have := HG.out.links; have := HT.out.links.len; omega
  clear htb hhas
  gi_wp2
  clear r0 r1 z0 z1 hl2 hlw HLay
  refine wpIn_flow_new [([true, true, true, true, true, true, true, true, true, false, true, true, true, true, true, true], 9), ([], 16), ([], 17)] [false, false, false, false, false, false, false, false, false, false, false, false, false, false, false, false, false, false, true, true, true, false, false, true] [false, false, false, false, false, false, false, false, false, false, false, false, false, false, false, false, false, false, false, false, false, false, true] 21 (fun b => .pointer (some ⟨b, 0, none⟩)) 27 #[.int .i64 0, .int .i64 0] (by kernel_rfl) (by kernel_rfl) (by kernel_rfl) (below_drewN (Below.refl _ _) 1) rfl rfl rfl (fun _ _ => rfl) (fun _ _ => rfl) ?_
  refine wpFlow_cons (A := ?AF2) rfl ?hq2 ?_
  case hq2 =>
   rintro σ hσ of hof hcl
   have HOF := Lib.hid hof
   clear hof hcl
   have t0 : ∀ z, (of z).cell? ⟨w.heap.size, 0, none⟩ = some (.slice A n c) := fun z => ((HLay9.out.below (HOF.out z)).blk 0 rfl).cell 0
   have t1 : ∀ z, (of z).cell? ⟨w.heap.size, 1, none⟩ = some (.slice A' m d) := fun z => ((HLay9.out.below (HOF.out z)).blk 0 rfl).cell 1
   have s1 : ∀ z, (of z).cell? ⟨w.heap.size + 1, 1, none⟩ = some (.int .i64 s.pace.lo) := fun z => ((HLay9.out.below (HOF.out z)).blk 1 rfl).cell 1
   have s2 : ∀ z, (of z).cell? ⟨w.heap.size + 1, 2, none⟩ = some (.int .i64 s.pace.hi) := fun z => ((HLay9.out.below (HOF.out z)).blk 1 rfl).cell 2
   have s3 : ∀ z, (of z).cell? ⟨w.heap.size + 1, 3, none⟩ = some (.int .i64 s.step.lo) := fun z => ((HLay9.out.below (HOF.out z)).blk 1 rfl).cell 3
   have s4 : ∀ z, (of z).cell? ⟨w.heap.size + 1, 4, none⟩ = some (.int .i64 s.step.hi) := fun z => ((HLay9.out.below (HOF.out z)).blk 1 rfl).cell 4
   have hfw : ∀ f, Fence.wide.fn f := fun _ => trivial
   simp only [pickB]
   repeat (gi_big_quiet_step (fail))
   refine wpQuietIn_nil ?_
   exact rfl
  intro W10 hW10
  gi_wp2
  refine ⟨trivial, (callsIn_wide.2 (drips_any s.pace.lo s.step.lo W10 (by have := HGS.out.pace; omega) (by have := HGS.out.step; omega))).mono ?_⟩
  rintro e W11 ⟨⟨b1, b2, rfl, hp1⟩, hb11⟩
  have HP1 := Lib.hid hp1
  have HLay11 := Lib.hid ((HLay9.out.below hW10).below hb11)
  gi_wp2
  refine ⟨trivial, hb11, ?_⟩
  clear hp1 hW10 hb11
  refine wpFlow_cons rfl Quietly.none ?_
  intro W12 hW12
  gi_wp2
  refine ⟨trivial, (callsIn_wide.2 (drips_any s.pace.hi s.step.hi W12 (by have := HGS.out.pace; omega) (by have := HGS.out.step; omega))).mono ?_⟩
  rintro e W13 ⟨⟨b3, b4, rfl, hp2⟩, hb13⟩
  have HP2 := Lib.hid hp2
  have HP13 := Lib.hid (HP1.out.below (hW12.trans (hb13.mono hW12.size)))
  have HLay13 := Lib.hid ((HLay11.out.below hW12).below hb13)
  gi_wp2
  refine ⟨trivial, hb13, ?_⟩
  clear hp2 hW12 hb13 HP1
  refine wpFlow_cons rfl Quietly.none ?_
  intro W14 hW14
  have HLay14 := Lib.hid (HLay13.out.below hW14)
  gi_wp2
  refine ⟨trivial, (callsIn_wide.2 (between_any A n c A' m d _ _ _ _ (lossP s.pace.lo s.step.lo) (lossP s.pace.hi s.step.hi) t place A2 k2 c2 l W14 hm20 hk2 ((HT.out.links.below HLay14.out.1).more HLay14.out.1.size) (HP13.out.below hW14) (HP2.out.below hW14) HG.out.fine (lossP_fair (by have := HGS.out.pace; omega) (by have := HGS.out.step; omega)) (lossP_fair (by have := HGS.out.pace; omega) (by have := HGS.out.step; omega)) ((HR.out.below HLay14.out.1).more HLay14.out.1.size))).mono ?_⟩
  rintro e W15 ⟨rfl, hb15⟩
  have HLay15 := Lib.hid (HLay14.out.below hb15)
  gi_wp2
  refine ⟨trivial, hb15, ?_⟩
  clear hW14 hb15 HP2 HP13 HLay11 HLay13 HLay14
  refine wpFlow_nil (A := ?AF3) ?hq3 ?_
  case hq3 =>
   rintro σ hσ of hof hcl
   simp only [pickB]
   repeat (gi_big_quiet_step (fail))
   refine wpQuietIn_nil ?_
   exact rfl
  intro b W16 hW16 hbg hbb _
  have HLay16 := Lib.hid ((HLay15.out.below hW16).add (Nat.le_trans HLay9.out.1.size hbg) hbb)
  have HBG := Lib.hid hbg
  have c0 := hbb.cell 0
  have c1 := hbb.cell 1
  have z0 := hbb.frozen 0
  have z1 := hbb.frozen 1
  have hbl := hbb.lt
  clear hW16 hbg hbb HLay15
  simp only [pickB]
  refine wpT_cons ?_
  gi_wp2
  refine wpT_nil ?_
  have HLay17 := Lib.hid ((HLay16.out.setLast (fun p hp e => by have := (HLay9.out.2 p hp).2.lt; have := HBG.out; omega) 0 (.int .i64 (firstA t (lossP s.pace.lo s.step.lo) place l))).setLast (fun p hp e => by have := (HLay9.out.2 p hp).2.lt; have := HBG.out; omega) 1 (.int .i64 (firstA t (lossP s.pace.hi s.step.hi) place l)))
  generalize ((W16.setCell ⟨b, 0, none⟩ (.int .i64 (firstA t (lossP s.pace.lo s.step.lo) place l))).setCell ⟨b, 1, none⟩ (.int .i64 (firstA t (lossP s.pace.hi s.step.hi) place l))) = W17 at *
  clear c0 c1 z0 z1 hbl HLay16
  have hb1 := firstA_bound HG.out.fine (lossP_fair (a := s.pace.lo) (b := s.step.lo) (by have := HGS.out.pace; omega) (by have := HGS.out.step; omega)) place l
  have hb2 := firstA_bound HG.out.fine (lossP_fair (a := s.pace.hi) (b := s.step.hi) (by have := HGS.out.pace; omega) (by have := HGS.out.step; omega)) place l
  have hv : ∀ e', betE t place l = e' → endE t s place l = e' := fun e' h => by unfold endE; rw [HEE.out, if_pos rfl, h]
  have HV := Lib.hid hv
  clear hv
  have HVV := Lib.hid (show endV t s place l = if endE t s place l = 0 then ⟨max 0 (s.drops - firstA t (lossP s.pace.hi s.step.hi) place l), max 0 (s.drops - firstA t (lossP s.pace.lo s.step.lo) place l)⟩ else ⟨0, 0⟩ from rfl)
  generalize firstA t (lossP s.pace.lo s.step.lo) place l = fa at *
  generalize firstA t (lossP s.pace.hi s.step.hi) place l = fb at *
  generalize betE t place l = eb at *
  obtain ⟨hd0, hd1⟩ := HGS.out.drops
  obtain ⟨hb10, hb11⟩ := hb1
  obtain ⟨hb20, hb21⟩ := hb2
  have r0 := (HLay17.out.blk 2 rfl).cell 0
  have r1 := (HLay17.out.blk 2 rfl).cell 1
  have z0 := (HLay17.out.blk 2 rfl).frozen 0
  have z1 := (HLay17.out.blk 2 rfl).frozen 1
  have s0 := (HLay17.out.blk 1 rfl).cell 0
  have q0 := (HLay17.out.blk 3 rfl).cell 0
  have q1 := (HLay17.out.blk 3 rfl).cell 1
  have hl1 := HLay17.out.lt 1 rfl
  have hl2 := HLay17.out.lt 2 rfl
  have hl3 := HLay17.out.lt 3 rfl
  by_cases he0 : eb = 0
  ·subst he0
   gi_wp2
   all_goals
    have he := HV.out 0 rfl
    have hvv : endV t s place l = ⟨max 0 (s.drops - fb), max 0 (s.drops - fa)⟩ := by rw [HVV.out, he, if_pos rfl]
    clear r0 r1 z0 z1 s0 q0 q1
    first
    | (have R1 := ret2 (HLay17.out.blk 2 rfl) HLay17.out.1 (by omega) (.int .i64 (max 0 (s.drops - fb))) (.int .i64 (max 0 (s.drops - fa)))
       have y0 := R1.1.cell 0
       have y1 := R1.1.cell 1
       exact bodyPost_ret (v := .tuple #[.agg #[.int .i64 (max 0 (s.drops - fb)), .int .i64 (max 0 (s.drops - fa))], .int .i64 0]) (by simp [results, Tryd.results9, go_sem, y0, y1]) rfl ⟨by rw [he, hvv], R1.2⟩)
    | (have hx : max 0 (s.drops - fb) = 0 := by omega
       have hy : max 0 (s.drops - fa) = 0 := by omega
       have R1 := ret2 (HLay17.out.blk 2 rfl) HLay17.out.1 (by omega) (.int .i64 (0)) (.int .i64 (0))
       have y0 := R1.1.cell 0
       have y1 := R1.1.cell 1
       exact bodyPost_ret (v := .tuple #[.agg #[.int .i64 (0), .int .i64 (0)], .int .i64 0]) (by simp [results, Tryd.results9, go_sem, y0, y1]) rfl ⟨by rw [he, hvv, hx, hy], R1.2⟩)
    | (have hx : max 0 (s.drops - fb) = 0 := by omega
       have hy : max 0 (s.drops - fa) = s.drops - fa := by omega
       have R1 := ret2 (HLay17.out.blk 2 rfl) HLay17.out.1 (by omega) (.int .i64 (0)) (.int .i64 (s.drops - fa))
       have y0 := R1.1.cell 0
       have y1 := R1.1.cell 1
       exact bodyPost_ret (v := .tuple #[.agg #[.int .i64 (0), .int .i64 (s.drops - fa)], .int .i64 0]) (by simp [results, Tryd.results9, go_sem, y0, y1]) rfl ⟨by rw [he, hvv, hx, hy], R1.2⟩)
    | (have hx : max 0 (s.drops - fb) = s.drops - fb := by omega
       have hy : max 0 (s.drops - fa) = 0 := by omega
       have R1 := ret2 (HLay17.out.blk 2 rfl) HLay17.out.1 (by omega) (.int .i64 (s.drops - fb)) (.int .i64 (0))
       have y0 := R1.1.cell 0
       have y1 := R1.1.cell 1
       exact bodyPost_ret (v := .tuple #[.agg #[.int .i64 (s.drops - fb), .int .i64 (0)], .int .i64 0]) (by simp [results, Tryd.results9, go_sem, y0, y1]) rfl ⟨by rw [he, hvv, hx, hy], R1.2⟩)
    | (have hx : max 0 (s.drops - fb) = s.drops - fb := by omega
       have hy : max 0 (s.drops - fa) = s.drops - fa := by omega
       have R1 := ret2 (HLay17.out.blk 2 rfl) HLay17.out.1 (by omega) (.int .i64 (s.drops - fb)) (.int .i64 (s.drops - fa))
       have y0 := R1.1.cell 0
       have y1 := R1.1.cell 1
       exact bodyPost_ret (v := .tuple #[.agg #[.int .i64 (s.drops - fb), .int .i64 (s.drops - fa)], .int .i64 0]) (by simp [results, Tryd.results9, go_sem, y0, y1]) rfl ⟨by rw [he, hvv, hx, hy], R1.2⟩)
  ·have h1 : (eb != 0) = true := by simpa using he0
   have HE0 := Lib.hid he0
   clear he0
   gi_wp2
   have R1 := ret2 (HLay17.out.blk 2 rfl) HLay17.out.1 (by omega) (.int .i64 0) (.int .i64 0)
   have y0 := R1.1.cell 0
   have y1 := R1.1.cell 1
   have he := HV.out eb rfl
   have hv : endV t s place l = ⟨0, 0⟩ := by rw [HVV.out, he, if_neg HE0.out]
   exact bodyPost_ret (v := .tuple #[.agg #[.int .i64 0, .int .i64 0], .int .i64 eb]) (by simp [results, Tryd.results9, go_sem, y0, y1]) rfl ⟨by rw [he, hv], R1.2⟩
 ·have h1 : (ee != 0) = true := by simpa using h0
  have HE0 := Lib.hid h0
  clear h0
  gi_wp2
  have R1 := ret2 (HLay9.out.blk 2 rfl) HLay9.out.1 (by omega) (.int .i64 0) (.int .i64 0)
  have y0 := R1.1.cell 0
  have y1 := R1.1.cell 1
  have he : endE t s place l = ee := by unfold endE; rw [HEE.out, if_neg HE0.out]
  have hv : endV t s place l = ⟨0, 0⟩ := by unfold endV; rw [he, if_neg HE0.out]
  exact bodyPost_ret (v := .tuple #[.agg #[.int .i64 0, .int .i64 0], .int .i64 ee]) (by simp [results, Tryd.results9, go_sem, y0, y1]) rfl ⟨by rw [he, hv], R1.2⟩

theorem end_any (A : Option Addr) (n c : Nat) (A' : Option Addr) (m d : Nat) (t : Town) (s : Skin) (place : Int) (A2 : Option Addr) (k2 c2 : Nat) (l : List Int) (w : World)
  (hn : n ≤ 1000) (hm : m ≤ 1000) (hk2 : k2 ≤ 1000) (ht : TownAt w w.heap.size A n A' m t) (hr : IntsAt w w.heap.size A2 k2 l) (hL : Laid w) :
  Calls Tryd.prog 9 #[.agg #[.slice A n c, .slice A' m d], .agg #[.int .i64 s.drops, .int .i64 s.pace.lo, .int .i64 s.pace.hi, .int .i64 s.step.lo, .int .i64 s.step.hi], .int .i64 place, .slice A2 k2 c2] w (EndOut w (endV t s place l) (endE t s place l)) :=
 callsIn_wide.1 (end_in A n c A' m d t s place A2 k2 c2 l w hn hm hk2 ht hr hL)
end Go.Proofs.YtjdgdeiedkickaaDoor
/- climb.Minutes: how long the way takes, in minutes. -/
namespace Go.Proofs.YtjdgdeiedkickaaDoor
open Go.RowKit Go.Shelf

theorem leads_free {dk : Bool} {p : Price} {x : Link} {u : Int} {q : Int × Cost} (h : leads dk p x u = some q) : leads false p x u = some q := by
 unfold leads at h ⊢
 rw [if_neg (by simp)]
 split at h
 ·cases h
 ·exact h
theorem walk_walkS {t : Town} {dk : Bool} {p : Price} {u v : Int} {c : Cost} {l : List Int} (hi : t.links.Pairwise fun x y => x.id < y.id) (h : Walk t dk p u v c l) : ∀ c0, walkS t p (u, c0) l = some (v, addC c0 c) := by
 induction h with
 | nil v => intro c0; simp [walkS, addC_zero]
 | cons hx hl hw ih =>
  intro c0
  unfold walkS
  rw [stepF_leads hi hx, leads_free hl]
  simp only
  rw [ih, addC_assoc]
end Go.Proofs.YtjdgdeiedkickaaDoor
/- What links gone come to, as the laws ask it: plain Lean. -/
namespace Go.Proofs.YtjdgdeiedkickaaDoor

section
variable {t : Town} {u v : Int} {dk : Bool} {l k : List Int} {g g' : Gone} {p : Price}
theorem gw_walked (ht : Fine t) (h : GW t dk (startG u) l g) (hl : l.length ≤ 40) (p : Price) : walkedF t p u l = some (g.at_, g.cost p) := by
 have h1 := walk_walkS ht.ids (h.walk0 p) zeroC
 unfold walkedF
 rw [if_neg (by omega), h1, zero_addC]
theorem gw_firstA (ht : Fine t) (h : GW t dk (startG u) l g) (hl : l.length ≤ 40) (p : Price) : firstA t p u l = (g.cost p).a := by
 unfold firstA
 rw [gw_walked ht h hl p]
theorem gw_bet (ht : Fine t) (h : GW t dk (startG u) l g) (hl : l.length ≤ 40) : betE t u l = 0 := by
 unfold betE
 rw [gw_walked ht h hl]
 rfl
theorem or2_00 : or2 0 0 = 0 := by simp [or2]
theorem dry0 {s : Skin} (h : skinB s = true) : dryE s = 0 := by unfold dryE; rw [h]; rfl
theorem cost_loss (g : Gone) (a b : Int) : (g.cost (lossP a b)).a = g.paces * a + g.steps * b := by simp [Gone.cost, lossP]
theorem end_gw (ht : Fine t) (h : GW t dk (startG u) l g) (hl : l.length ≤ 40) (ha : askE t [u] = 0) {s : Skin} (hg : skinB s = true) :
  endE t s u l = 0 ∧ endV t s u l = ⟨max 0 (s.drops - g.paces * s.pace.hi - g.steps * s.step.hi), max 0 (s.drops - g.paces * s.pace.lo - g.steps * s.step.lo)⟩ := by
 have h0 : or2 (askE t [u]) (dryE s) = 0 := by rw [ha, dry0 hg, or2_00]
 have he : endE t s u l = 0 := by unfold endE; rw [if_pos h0]; exact gw_bet ht h hl
 refine ⟨he, ?_⟩
 unfold endV
 rw [if_pos he, gw_firstA ht h hl, gw_firstA ht h hl, cost_loss, cost_loss, Int.sub_sub, Int.sub_sub]
end
end Go.Proofs.YtjdgdeiedkickaaDoor
/- jarful, reckoned. -/
namespace Go.Proofs.YtjdgdeiedkickaaDoor

abbrev jarT : Town := ⟨[1, 2], [⟨1, 1, 2, 0, 3⟩]⟩
abbrev jarS : Skin := ⟨9, ⟨1, 2⟩, ⟨0, 0⟩⟩
abbrev jarK : Mx.Mix := ⟨2, [⟨1, 9⟩, ⟨2, 9⟩], [⟨1, 1, 1, 9⟩, ⟨3, 1, 0, 4⟩, ⟨1, 2, 2, 1⟩, ⟨2, 1, 2, 5⟩], []⟩
theorem jar_end : endV jarT jarS 1 [1] = ⟨3, 6⟩ ∧ endE jarT jarS 1 [1] = 0 := by decide
theorem jar_of : Mx.OfIs jarK 2 4 1 (5, 5) 0 := Mx.of_of (by kernel_rfl)
theorem jar_met : Mx.MetIs jarK 2 4 1 2 true 0 := Mx.met_of (by kernel_rfl)
end Go.Proofs.YtjdgdeiedkickaaDoor
/- Where two drops can be, as a map's keys; and what lies in memory while such maps are gone through. -/
namespace Go.Proofs.YtjdgdeiedkickaaDoor.Mx
open Go.RowKit Go.Shelf

abbrev C2 := Int × Int
def C2.key (x : C2) : Value := .agg #[.int .i64 x.1, .int .i64 x.2]
def okC (x : C2) : Prop := okZ x.1 ∧ okZ x.2
abbrev CpMap (w : World) (r : Nat) (m : List (C2 × Bool)) : Prop := MapIs C2.key Value.bool okC w r m
theorem arrC : WideMaps.ArrKey Tryd.prog 87 3 2 := ⟨Tryd.underlying87, by kernel_rfl, by kernel_rfl, by kernel_rfl⟩
theorem cpTy : MapTy Tryd.prog 88 87 4 C2 Bool C2.key Value.bool okC (.bool false) where
 und := Tryd.underlying88
 keyed := Maps.Keyed.of_law arrC.law
 reads := fun x hx => ⟨_, WideMaps.keyOf_pair arrC Tryd.underlying3 types_pos hx.1 hx.2⟩
 inj := fun x y h => by
  obtain ⟨a, b⟩ := x
  obtain ⟨a', b'⟩ := y
  simp [C2.key] at h
  simp [h]
 zero := fun w => by kernel_rfl
/-- The map's keys are those for which P is so; all say true. -/
structure CpIs (m : List (C2 × Bool)) (P : C2 → Prop) : Prop where
 all : ∀ p ∈ m, p.2 = true
 keys : ∀ x : C2, (∃ v, (x, v) ∈ m) ↔ P x
section
variable {m : List (C2 × Bool)} {P Q : C2 → Prop} {x : C2}
theorem CpIs.nil : CpIs [] fun _ => False := ⟨(fun p h => by cases h), fun x => ⟨(fun ⟨v, h⟩ => by cases h), fun h => h.elim⟩⟩
theorem CpIs.congr (h : CpIs m P) (e : ∀ x : C2, P x ↔ Q x) : CpIs m Q := ⟨h.all, fun x => (h.keys x).trans (e x)⟩
theorem CpIs.put (h : CpIs m P) (x : C2) : CpIs (put m x true) fun s => P s ∨ s = x := by
 refine ⟨fun p hp => ?_, fun y => ?_⟩
 ·rcases mem_put hp with rfl | ⟨hp, _⟩
  ·rfl
  ·exact h.all p hp
 ·constructor
  ·rintro ⟨v, hv⟩
   rcases mem_put hv with e | ⟨hv, _⟩
   ·right
    exact congrArg Prod.fst e
   ·left
    exact (h.keys y).1 ⟨v, hv⟩
  ·intro hy
   have h1 := look_put (m := m) (x := x) (y := y) (v := true)
   by_cases e : y = x
   ·rw [if_pos e] at h1
    exact ⟨_, look_mem h1⟩
   ·rw [if_neg e] at h1
    rcases hy with hy | hy
    ·obtain ⟨v, hv⟩ := (h.keys y).2 hy
     cases hl2 : look m y with
     | none => exact absurd rfl (look_none.1 hl2 _ hv)
     | some u =>
      rw [hl2] at h1
      exact ⟨_, look_mem h1⟩
    ·exact absurd hy e
theorem CpIs.look_some (h : CpIs m P) (hp : P x) : look m x = some true := by
 obtain ⟨v, hv⟩ := (h.keys x).2 hp
 cases hl : look m x with
 | none => exact absurd rfl (look_none.1 hl _ hv)
 | some u =>
  have := h.all _ (look_mem hl)
  dsimp only at this
  rw [this]
theorem CpIs.look_none (h : CpIs m P) (hp : ¬ P x) : look m x = none := by
 cases hl : look m x with
 | none => rfl
 | some u => exact absurd ((h.keys x).1 ⟨u, look_mem hl⟩) hp
end
theorem maps_not {w : World} {g : Nat} {t : TypeId} {cs : Array Value} {r : Nat} {m : List (C2 × Bool)} (h : CpMap w r m) (b : Blk w g t cs) : r ≠ g := fun e => by
 subst e
 obtain ⟨es, cl, h1, _⟩ := h
 have h2 := b
 unfold Blk at h2
 rw [h1] at h2
 cases h2
theorem iter_not {w : World} {g it r : Nat} {t : TypeId} {cs : Array Value} {m left : List (C2 × Bool)} (h : IterIs C2.key Value.bool okC w it r m left) (b : Blk w g t cs) : it ≠ g := fun e => by
 subst e
 obtain ⟨_, _, _, _, _, _, _, _, _, h5, _⟩ := h
 have h2 := b
 unfold Blk at h2
 rw [h5] at h2
 cases h2
theorem iter_notm {w : World} {it r rn : Nat} {m left mn : List (C2 × Bool)} (h : IterIs C2.key Value.bool okC w it r m left) (b : CpMap w rn mn) : it ≠ rn := fun e => by
 subst e
 obtain ⟨_, _, _, _, _, _, _, _, _, h5, _⟩ := h
 obtain ⟨_, _, h1, _⟩ := b
 rw [h5] at h1
 cases h1
/-- What lies in memory while the next map is made out of a map that is gone through. -/
structure MS (WB W : World) (it r rn : Nat) (mm left mn : List (C2 × Bool)) (bs : List (Nat × TypeId × Array Value)) : Prop where
 lay : Lay WB W bs
 iter : IterIs C2.key Value.bool okC W it r mm left
 map : CpMap W rn mn
 ne : rn ≠ r
 ge : WB.heap.size ≤ it ∧ WB.heap.size ≤ r ∧ WB.heap.size ≤ rn
section
variable {WB W W' : World} {it r rn : Nat} {mm left left' mn mn' : List (C2 × Bool)} {bs bs' : List (Nat × TypeId × Array Value)}
theorem MS.below (h : MS WB W it r rn mm left mn bs) (hb : Below W.heap.size W W') : MS WB W' it r rn mm left mn bs := ⟨h.lay.below hb, h.iter.below hb h.iter.map.lt h.iter.lt, h.map.below hb h.map.lt, h.ne, h.ge⟩
theorem MS.sub (h : MS WB W it r rn mm left mn bs) (hs : ∀ b ∈ bs', b ∈ bs) : MS WB W it r rn mm left mn bs' := ⟨h.lay.sub hs, h.iter, h.map, h.ne, h.ge⟩
theorem MS.box (h : MS WB W it r rn mm left mn bs) (t : TypeId) (cs : Array Value) : MS WB (W.alloc (.cells cs t)) it r rn mm left mn (bs ++ [(W.heap.size, t, cs)]) := by
 have h1 := h.below ((Below.refl _ _).alloc (Nat.le_refl _) (.cells cs t))
 exact ⟨h.lay.alloc t cs, h1.iter, h1.map, h1.ne, h1.ge⟩
theorem MS.set {g : Nat} {t : TypeId} {cs : Array Value} (h : MS WB W it r rn mm left mn (bs ++ [(g, t, cs)])) (hne : ∀ p ∈ bs, p.1 ≠ g) (k : Nat) (v : Value) : MS WB (W.setCell ⟨g, k, none⟩ v) it r rn mm left mn (bs ++ [(g, t, cs.setIfInBounds k v)]) := by
 have hg := grown_setCell (row := some g) (grown_refl W _) (p := ⟨g, k, none⟩) (.inl rfl) v
 have hb := (h.lay.2 (g, t, cs) (by simp)).2
 exact ⟨h.lay.setLast hne k v, h.iter.grown hg (fun e => maps_not h.iter.map hb (Option.some.inj e)) (fun e => iter_not h.iter hb (Option.some.inj e)), h.map.grown hg (fun e => maps_not h.map hb (Option.some.inj e)), h.ne, h.ge⟩
theorem MS.upd (h : MS WB W it r rn mm left mn bs) (hm : CpMap W' rn mn') (hg : W.grownBy W' (some rn)) : MS WB W' it r rn mm left mn' bs :=
 ⟨h.lay.row hg (fun k e => by cases e; exact ⟨h.ge.2.2, fun b hb e => maps_not h.map (h.lay.2 b hb).2 e.symm⟩), h.iter.grown hg (fun e => h.ne (Option.some.inj e).symm) (fun e => iter_notm h.iter h.map (Option.some.inj e)), hm, h.ne, h.ge⟩
theorem MS.next (h : MS WB W it r rn mm left mn bs) (hi : IterIs C2.key Value.bool okC W' it r mm left') (hg : W.grownBy W' (some it)) : MS WB W' it r rn mm left' mn bs :=
 ⟨h.lay.row hg (fun k e => by cases e; exact ⟨h.ge.1, fun b hb e => iter_not h.iter (h.lay.2 b hb).2 e.symm⟩), hi, h.map.grown hg (fun e => iter_notm h.iter h.map (Option.some.inj e).symm), h.ne, h.ge⟩
end
/-- The sets that have been tried, of one couple. -/
def gB (s : Nat) : Bool × Bool := (s % 2 == 1, s / 2 % 2 == 1)
def SetP (fr to n al xf f0 f1 : Int) (c : C2) (s : Nat) (d : C2) : Prop := ∃ i, i < s ∧ stepB fr to n al xf f0 f1 c (gB i) = true ∧ d = (dropP fr to c.1 (gB i).1, dropP fr to c.2 (gB i).2)
theorem setP_zero {fr to n al xf f0 f1 : Int} {c d : C2} : ¬ SetP fr to n al xf f0 f1 c 0 d := fun ⟨_, h, _⟩ => absurd h (Nat.not_lt_zero _)
theorem setP_succ {fr to n al xf f0 f1 : Int} {c d : C2} {s : Nat} : SetP fr to n al xf f0 f1 c (s + 1) d ↔ SetP fr to n al xf f0 f1 c s d ∨ (stepB fr to n al xf f0 f1 c (gB s) = true ∧ d = (dropP fr to c.1 (gB s).1, dropP fr to c.2 (gB s).2)) := by
 constructor
 ·rintro ⟨i, h1, h2⟩
  rcases Nat.lt_or_ge i s with h | h
  ·exact .inl ⟨i, h, h2⟩
  ·obtain rfl : i = s := by omega
   exact .inr h2
 ·rintro (⟨i, h1, h2⟩ | h)
  ·exact ⟨i, by omega, h2⟩
  ·exact ⟨s, by omega, h⟩
theorem setP_four {fr to n al xf f0 f1 : Int} {c d : C2} : SetP fr to n al xf f0 f1 c 4 d ↔ StepP fr to n al xf f0 f1 c d := by
 rw [← mem_stepL]
 unfold stepL
 rw [List.mem_map]
 constructor
 ·rintro ⟨i, h1, h2, rfl⟩
  refine ⟨gB i, List.mem_filter.2 ⟨?_, h2⟩, rfl⟩
  match i, h1 with
  | 0, _ => decide
  | 1, _ => decide
  | 2, _ => decide
  | 3, _ => decide
 ·rintro ⟨g, h1, rfl⟩
  obtain ⟨h2, h3⟩ := List.mem_filter.1 h1
  unfold sets4 at h2
  simp only [List.mem_cons, List.not_mem_nil, or_false] at h2
  rcases h2 with rfl | rfl | rfl | rfl
  ·exact ⟨0, by omega, h3, rfl⟩
  ·exact ⟨2, by omega, h3, rfl⟩
  ·exact ⟨1, by omega, h3, rfl⟩
  ·exact ⟨3, by omega, h3, rfl⟩
/-- What comes of the couples that have been gone through. -/
def GoneP2 (fr to n al xf f0 f1 : Int) (mm left : List (C2 × Bool)) (d : C2) : Prop := ∃ p ∈ mm, (∀ q ∈ left, q.1 ≠ p.1) ∧ StepP fr to n al xf f0 f1 p.1 d
theorem goneP_start {fr to n al xf f0 f1 : Int} {mm : List (C2 × Bool)} {d : C2} : ¬ GoneP2 fr to n al xf f0 f1 mm mm d := fun ⟨p, h1, h2, _⟩ => h2 p h1 rfl
theorem goneP_step {fr to n al xf f0 f1 : Int} {mm left : List (C2 × Bool)} {i : Nat} {y : C2} {v : Bool} (hn : (left.map Prod.fst).Nodup) (hp : left[i]? = some (y, v)) (hm : (y, v) ∈ mm) (d : C2) :
  GoneP2 fr to n al xf f0 f1 mm (left.eraseIdx i) d ↔ GoneP2 fr to n al xf f0 f1 mm left d ∨ StepP fr to n al xf f0 f1 y d := by
 have hpe : left.Perm ((y, v) :: left.eraseIdx i) := (perm_erase hp).symm
 have hnd : ∀ q ∈ left.eraseIdx i, q.1 ≠ y := by
  have h1 := (hpe.map Prod.fst).nodup_iff.1 hn
  rw [List.map_cons, List.nodup_cons] at h1
  exact fun q hq e => h1.1 (List.mem_map.2 ⟨q, hq, e⟩)
 constructor
 ·rintro ⟨p, h1, h2, h3⟩
  by_cases e : p.1 = y
  ·right
   rw [← e]
   exact h3
  ·left
   refine ⟨p, h1, fun q hq => ?_, h3⟩
   rcases List.mem_cons.1 (hpe.mem_iff.1 hq) with rfl | hq
   ·exact fun h => e h.symm
   ·exact h2 q hq
 ·rintro (⟨p, h1, h2, h3⟩ | h)
  ·exact ⟨p, h1, fun q hq => h2 q (hpe.mem_iff.2 (List.mem_cons_of_mem _ hq)), h3⟩
  ·exact ⟨(y, v), hm, hnd, h⟩
theorem goneP_end {m : Mix} {A : List Held} {f0 f1 : Int} {t : Nat} {x : MAct} {all : Held} {mm : List (C2 × Bool)} (hx : m.acts[t]? = some x) (ha : A[t]? = some all) (hm : CpIs mm (NowP m A f0 f1 t)) (d : C2) :
  GoneP2 (fromI m x) (toI m x) (sizeA m all x) (heldAt all (fromI m x)) x.fr f0 f1 mm [] d ↔ NowP m A f0 f1 (t + 1) d := by
 unfold NowP
 constructor
 ·rintro ⟨p, h1, _, h3⟩
  exact ⟨p.1, x, all, (hm.keys p.1).1 ⟨p.2, h1⟩, hx, ha, h3⟩
 ·rintro ⟨c, x', al, h1, h2, h3, h4⟩
  rw [hx] at h2
  cases h2
  rw [ha] at h3
  cases h3
  obtain ⟨v, hv⟩ := (hm.keys c).2 h1
  exact ⟨(c, v), hv, fun q hq => (by cases hq), h4⟩
theorem left_nodup {left : List (C2 × Bool)} {i : Nat} (hn : (left.map Prod.fst).Nodup) : ((left.eraseIdx i).map Prod.fst).Nodup := hn.sublist ((List.eraseIdx_sublist _ _).map _)
end Go.Proofs.YtjdgdeiedkickaaDoor.Mx
/- Whether two fountains can have met: mix.Met. -/
namespace Go.Proofs.YtjdgdeiedkickaaDoor.Mx
open Go.RowKit
structure Ey1 {α : Type} (P : α → Prop) : Prop where
 ex : ∃ a, P a
structure Ey2 {α β : Type} (P : α → β → Prop) : Prop where
 ex : ∃ a b, P a b
structure Ey3 {α β γ : Type} (P : α → β → γ → Prop) : Prop where
 ex : ∃ a b c, P a b c
theorem cp_first {m : Mix} {A : List Held} {f0 f1 : Int} : CpIs [((-1, -1), true)] (NowP m A f0 f1 0) := ⟨(fun p hp => by obtain rfl := List.mem_singleton.1 hp; rfl), fun x => by
 unfold NowP
 constructor
 ·rintro ⟨v, hv⟩
  exact congrArg Prod.fst (List.mem_singleton.1 hv)
 ·rintro rfl
  exact ⟨true, List.mem_singleton.2 rfl⟩⟩
/-- The set's drops, one after the other: where they are, how many move, how many stay, whether that is right. -/
def KSt (fr to xf f0 f1 y1 y2 : Int) (g : Bool × Bool) (j : Nat) (d1 d2 mv st : Int) (rb : Bool) : Prop :=
 d1 = (if 0 < j then dropP fr to y1 g.1 else y1) ∧ d2 = (if 1 < j then dropP fr to y2 g.2 else y2) ∧
 mv = (if 0 < j ∧ 0 ≤ fr then b1 g.1 else 0) + (if 1 < j ∧ 0 ≤ fr then b1 g.2 else 0) ∧
 st = (if 0 < j ∧ 0 ≤ fr then b1 (!g.1 && decide (y1 = fr)) else 0) + (if 1 < j ∧ 0 ≤ fr then b1 (!g.2 && decide (y2 = fr)) else 0) ∧
 rb = ((if 0 < j then rightB fr xf f0 y1 g.1 else true) && (if 1 < j then rightB fr xf f1 y2 g.2 else true))
theorem kst_zero {fr to xf f0 f1 y1 y2 : Int} {g : Bool × Bool} : KSt fr to xf f0 f1 y1 y2 g 0 y1 y2 0 0 true := by unfold KSt; simp
theorem KSt.of {fr to xf f0 f1 y1 y2 : Int} {g : Bool × Bool} {j : Nat} {d1 d2 mv st d1' d2' mv' st' : Int} {rb rb' : Bool} (h : KSt fr to xf f0 f1 y1 y2 g j d1 d2 mv st rb) (e1 : d1' = d1) (e2 : d2' = d2) (e3 : mv' = mv) (e4 : st' = st) (e5 : rb' = rb) : KSt fr to xf f0 f1 y1 y2 g j d1' d2' mv' st' rb' := by
 subst e1 e2 e3 e4 e5
 exact h
theorem kst_one {fr to xf f0 f1 y1 y2 : Int} {g : Bool × Bool} : KSt fr to xf f0 f1 y1 y2 g 1 (dropP fr to y1 g.1) y2 (if 0 ≤ fr then b1 g.1 else 0) (if 0 ≤ fr then b1 (!g.1 && decide (y1 = fr)) else 0) (rightB fr xf f0 y1 g.1) := by unfold KSt; simp
theorem kst_two {fr to xf f0 f1 y1 y2 : Int} {g : Bool × Bool} {d1 d2 mv st : Int} {rb : Bool} (h : KSt fr to xf f0 f1 y1 y2 g 1 d1 d2 mv st rb) : KSt fr to xf f0 f1 y1 y2 g 2 d1 (dropP fr to y2 g.2) (mv + if 0 ≤ fr then b1 g.2 else 0) (st + if 0 ≤ fr then b1 (!g.2 && decide (y2 = fr)) else 0) (rb && rightB fr xf f1 y2 g.2) := by
 obtain ⟨rfl, _, rfl, rfl, rfl⟩ := h
 unfold KSt
 simp
section
variable {fr to y xf f : Int} {g : Bool}
theorem dropP_neg (hg : g = true) (hf : fr < 0) : dropP fr to y g = to := by unfold dropP; rw [if_pos hg, if_pos hf]
theorem dropP_gone (hg : g = true) (hf : 0 ≤ fr) (ht : to < 0) : dropP fr to y g = -2 := by unfold dropP; rw [if_pos hg, if_neg (by omega), if_pos ht]
theorem dropP_pos (hg : g = true) (hf : 0 ≤ fr) (ht : 0 ≤ to) : dropP fr to y g = to := by unfold dropP; rw [if_pos hg, if_neg (by omega), if_neg (by omega)]
theorem dropP_stay (hg : g = false) : dropP fr to y g = y := by unfold dropP; rw [if_neg (by rw [hg]; decide)]
theorem b1if_neg (hf : fr < 0) : (if 0 ≤ fr then b1 g else 0) = 0 := by rw [if_neg (by omega)]
theorem b1if_t (hg : g = true) (hf : 0 ≤ fr) : (if 0 ≤ fr then b1 g else 0) = 1 := by rw [if_pos hf, hg]; rfl
theorem b1if_f (hg : g = false) : (if 0 ≤ fr then b1 g else 0) = 0 := by split; rw [hg]; rfl; rfl
theorem stif_neg (hf : fr < 0) : (if 0 ≤ fr then b1 (!g && decide (y = fr)) else 0) = 0 := by rw [if_neg (by omega)]
theorem stif_t (hg : g = true) : (if 0 ≤ fr then b1 (!g && decide (y = fr)) else 0) = 0 := by split; rw [hg]; rfl; rfl
theorem stif_1 (hg : g = false) (hf : 0 ≤ fr) (hy : y = fr) : (if 0 ≤ fr then b1 (!g && decide (y = fr)) else 0) = 1 := by rw [if_pos hf, hg, decide_eq_true hy]; rfl
theorem stif_0 (hg : g = false) (hf : 0 ≤ fr) (hy : ¬ y = fr) : (if 0 ≤ fr then b1 (!g && decide (y = fr)) else 0) = 0 := by rw [if_pos hf, hg, decide_eq_false hy]; rfl
theorem rightB_n1 (hg : g = true) (hf : fr < 0) (hy : y = -1) (hx : xf = f) : rightB fr xf f y g = true := by unfold rightB; rw [hg, if_pos hf, decide_eq_true hy, decide_eq_true hx]; rfl
theorem rightB_n2 (hg : g = true) (hf : fr < 0) (hy : y = -1) (hx : ¬ xf = f) : rightB fr xf f y g = false := by unfold rightB; rw [hg, if_pos hf, decide_eq_true hy, decide_eq_false hx]; rfl
theorem rightB_n0 (hg : g = true) (hf : fr < 0) (hy : ¬ y = -1) : rightB fr xf f y g = false := by unfold rightB; rw [hg, if_pos hf, decide_eq_false hy]; rfl
theorem rightB_p1 (hg : g = true) (hf : 0 ≤ fr) (hy : y = fr) : rightB fr xf f y g = true := by unfold rightB; rw [hg, if_neg (by omega), decide_eq_true hy]; rfl
theorem rightB_p0 (hg : g = true) (hf : 0 ≤ fr) (hy : ¬ y = fr) : rightB fr xf f y g = false := by unfold rightB; rw [hg, if_neg (by omega), decide_eq_false hy]; rfl
theorem rightB_s (hg : g = false) : rightB fr xf f y g = true := by unfold rightB; rw [hg]; rfl
end
theorem bits_0 {sv : Nat} (h : sv < 4) : (bits BinOp.and IntKind.i64 (sv : Int) 1 == 1) = (gB sv).1 := by
 match sv, h with
 | 0, _ => decide
 | 1, _ => decide
 | 2, _ => decide
 | 3, _ => decide
theorem bits_1 {sv : Nat} (h : sv < 4) : (bits BinOp.and IntKind.i64 ((sv : Int) / 2) 1 == 1) = (gB sv).2 := by
 match sv, h with
 | 0, _ => decide
 | 1, _ => decide
 | 2, _ => decide
 | 3, _ => decide
theorem b1_bd (b : Bool) : 0 ≤ b1 b ∧ b1 b ≤ 1 := by cases b <;> decide
theorem okZ_drop {fr to y : Int} {g : Bool} (ht : -1 ≤ to ∧ to < 4) (hy : okZ y) : okZ (dropP fr to y g) := by
 unfold dropP
 repeat' split
 ·exact okZ_of (by omega) (by omega)
 ·exact okZ_of (by decide) (by decide)
 ·exact okZ_of (by omega) (by omega)
 ·exact hy
theorem toI_bd {m : Mix} (hv : m.vessels.length ≤ 4) (x : MAct) : -1 ≤ toI m x ∧ toI m x < 4 := ⟨toI_ge1, toI_small hv x⟩
/-- What Met hands back. -/
def MetOut (w : World) (m : Mix) (vessel after one other : Int) (e : Ending) (w' : World) : Prop := ∃ (b : Bool) (ee : Int), e = .returned (.tuple #[.bool b, .int .i64 ee]) ∧ MetIs m vessel after one other b ee ∧ Below w.heap.size w w'
inductive FrMetA (v3 v4 v5 v12 v13 v15 v54 v55 v56 : Value) : Act → Prop
 | mk (u0 u1 u2 u6 u7 u8 u9 u10 u11 u14 u16 u17 u18 u19 u20 u21 u22 u23 u24 u25 u26 u27 u28 u29 u30 u31 u32 u33 u34 u35 u36 u37 u38 u39 u40 u41 u42 u43 u44 u45 u46 u47 u48 u49 u50 u51 u52 u53 u57 u58 u59 u60 u61 u62 u63 u64 u65 u66 u67 u68 u69 u70 u71 u72 u73 u74 u75 u76 u77 u78 u79 u80 u81 u82 u83 u84 u85 u86 u87 u88 u89 u90 u91 u92 u93 u94 u95 u96 u97 u98 u99 u100 u101 u102 u103 u104 u105 u106 u107 u108 u109 u110 u111 u112 u113 u114 u115 u116 u117 u118 u119 u120 u121 u122 u123 u124 u125 u126 u127 u128 u129 u130 u131 u132 u133 u134 u135 u136 u137 u138 u139 u140 u141 u142 u143 u144 u145 u146 u147 u148 u149 u150 u151 u152 u153 u154 u155 u156 u157 u158 u159 u160 u161 u162 u163 u164 u165 u166 u167 u168 u169 u170 u171 u172 u173 u174 u175 u176 u177 u178 u179 u180 u181 u182 u183 u184 u185 u186 u187 : Value) : FrMetA v3 v4 v5 v12 v13 v15 v54 v55 v56 { tmps := #[u0, u1, u2, v3, v4, v5, u6, u7, u8, u9, u10, u11, v12, v13, u14, v15, u16, u17, u18, u19, u20, u21, u22, u23, u24, u25, u26, u27, u28, u29, u30, u31, u32, u33, u34, u35, u36, u37, u38, u39, u40, u41, u42, u43, u44, u45, u46, u47, u48, u49, u50, u51, u52, u53, v54, v55, v56, u57, u58, u59, u60, u61, u62, u63, u64, u65, u66, u67, u68, u69, u70, u71, u72, u73, u74, u75, u76, u77, u78, u79, u80, u81, u82, u83, u84, u85, u86, u87, u88, u89, u90, u91, u92, u93, u94, u95, u96, u97, u98, u99, u100, u101, u102, u103, u104, u105, u106, u107, u108, u109, u110, u111, u112, u113, u114, u115, u116, u117, u118, u119, u120, u121, u122, u123, u124, u125, u126, u127, u128, u129, u130, u131, u132, u133, u134, u135, u136, u137, u138, u139, u140, u141, u142, u143, u144, u145, u146, u147, u148, u149, u150, u151, u152, u153, u154, u155, u156, u157, u158, u159, u160, u161, u162, u163, u164, u165, u166, u167, u168, u169, u170, u171, u172, u173, u174, u175, u176, u177, u178, u179, u180, u181, u182, u183, u184, u185, u186, u187], defers := [] }
inductive FrMetB (v3 v4 v5 v12 v13 v15 v16 v17 v18 v19 v20 v21 v54 v55 v56 v72 : Value) : Act → Prop
 | mk (u0 u1 u2 u6 u7 u8 u9 u10 u11 u14 u22 u23 u24 u25 u26 u27 u28 u29 u30 u31 u32 u33 u34 u35 u36 u37 u38 u39 u40 u41 u42 u43 u44 u45 u46 u47 u48 u49 u50 u51 u52 u53 u57 u58 u59 u60 u61 u62 u63 u64 u65 u66 u67 u68 u69 u70 u71 u73 u74 u75 u76 u77 u78 u79 u80 u81 u82 u83 u84 u85 u86 u87 u88 u89 u90 u91 u92 u93 u94 u95 u96 u97 u98 u99 u100 u101 u102 u103 u104 u105 u106 u107 u108 u109 u110 u111 u112 u113 u114 u115 u116 u117 u118 u119 u120 u121 u122 u123 u124 u125 u126 u127 u128 u129 u130 u131 u132 u133 u134 u135 u136 u137 u138 u139 u140 u141 u142 u143 u144 u145 u146 u147 u148 u149 u150 u151 u152 u153 u154 u155 u156 u157 u158 u159 u160 u161 u162 u163 u164 u165 u166 u167 u168 u169 u170 u171 u172 u173 u174 u175 u176 u177 u178 u179 u180 u181 u182 u183 u184 u185 u186 u187 : Value) : FrMetB v3 v4 v5 v12 v13 v15 v16 v17 v18 v19 v20 v21 v54 v55 v56 v72 { tmps := #[u0, u1, u2, v3, v4, v5, u6, u7, u8, u9, u10, u11, v12, v13, u14, v15, v16, v17, v18, v19, v20, v21, u22, u23, u24, u25, u26, u27, u28, u29, u30, u31, u32, u33, u34, u35, u36, u37, u38, u39, u40, u41, u42, u43, u44, u45, u46, u47, u48, u49, u50, u51, u52, u53, v54, v55, v56, u57, u58, u59, u60, u61, u62, u63, u64, u65, u66, u67, u68, u69, u70, u71, v72, u73, u74, u75, u76, u77, u78, u79, u80, u81, u82, u83, u84, u85, u86, u87, u88, u89, u90, u91, u92, u93, u94, u95, u96, u97, u98, u99, u100, u101, u102, u103, u104, u105, u106, u107, u108, u109, u110, u111, u112, u113, u114, u115, u116, u117, u118, u119, u120, u121, u122, u123, u124, u125, u126, u127, u128, u129, u130, u131, u132, u133, u134, u135, u136, u137, u138, u139, u140, u141, u142, u143, u144, u145, u146, u147, u148, u149, u150, u151, u152, u153, u154, u155, u156, u157, u158, u159, u160, u161, u162, u163, u164, u165, u166, u167, u168, u169, u170, u171, u172, u173, u174, u175, u176, u177, u178, u179, u180, u181, u182, u183, u184, u185, u186, u187], defers := [] }
inductive FrMetC (v3 v4 v5 v12 v13 v15 v16 v17 v18 v19 v20 v21 v22 v54 v55 v56 v72 v77 : Value) : Act → Prop
 | mk (u0 u1 u2 u6 u7 u8 u9 u10 u11 u14 u23 u24 u25 u26 u27 u28 u29 u30 u31 u32 u33 u34 u35 u36 u37 u38 u39 u40 u41 u42 u43 u44 u45 u46 u47 u48 u49 u50 u51 u52 u53 u57 u58 u59 u60 u61 u62 u63 u64 u65 u66 u67 u68 u69 u70 u71 u73 u74 u75 u76 u78 u79 u80 u81 u82 u83 u84 u85 u86 u87 u88 u89 u90 u91 u92 u93 u94 u95 u96 u97 u98 u99 u100 u101 u102 u103 u104 u105 u106 u107 u108 u109 u110 u111 u112 u113 u114 u115 u116 u117 u118 u119 u120 u121 u122 u123 u124 u125 u126 u127 u128 u129 u130 u131 u132 u133 u134 u135 u136 u137 u138 u139 u140 u141 u142 u143 u144 u145 u146 u147 u148 u149 u150 u151 u152 u153 u154 u155 u156 u157 u158 u159 u160 u161 u162 u163 u164 u165 u166 u167 u168 u169 u170 u171 u172 u173 u174 u175 u176 u177 u178 u179 u180 u181 u182 u183 u184 u185 u186 u187 : Value) : FrMetC v3 v4 v5 v12 v13 v15 v16 v17 v18 v19 v20 v21 v22 v54 v55 v56 v72 v77 { tmps := #[u0, u1, u2, v3, v4, v5, u6, u7, u8, u9, u10, u11, v12, v13, u14, v15, v16, v17, v18, v19, v20, v21, v22, u23, u24, u25, u26, u27, u28, u29, u30, u31, u32, u33, u34, u35, u36, u37, u38, u39, u40, u41, u42, u43, u44, u45, u46, u47, u48, u49, u50, u51, u52, u53, v54, v55, v56, u57, u58, u59, u60, u61, u62, u63, u64, u65, u66, u67, u68, u69, u70, u71, v72, u73, u74, u75, u76, v77, u78, u79, u80, u81, u82, u83, u84, u85, u86, u87, u88, u89, u90, u91, u92, u93, u94, u95, u96, u97, u98, u99, u100, u101, u102, u103, u104, u105, u106, u107, u108, u109, u110, u111, u112, u113, u114, u115, u116, u117, u118, u119, u120, u121, u122, u123, u124, u125, u126, u127, u128, u129, u130, u131, u132, u133, u134, u135, u136, u137, u138, u139, u140, u141, u142, u143, u144, u145, u146, u147, u148, u149, u150, u151, u152, u153, u154, u155, u156, u157, u158, u159, u160, u161, u162, u163, u164, u165, u166, u167, u168, u169, u170, u171, u172, u173, u174, u175, u176, u177, u178, u179, u180, u181, u182, u183, u184, u185, u186, u187], defers := [] }
inductive FrMetD (v3 v4 v5 v12 v13 v15 v16 v17 v18 v19 v20 v21 v22 v23 v24 v25 v26 v27 v54 v55 v56 v72 v77 v83 v84 : Value) : Act → Prop
 | mk (u0 u1 u2 u6 u7 u8 u9 u10 u11 u14 u28 u29 u30 u31 u32 u33 u34 u35 u36 u37 u38 u39 u40 u41 u42 u43 u44 u45 u46 u47 u48 u49 u50 u51 u52 u53 u57 u58 u59 u60 u61 u62 u63 u64 u65 u66 u67 u68 u69 u70 u71 u73 u74 u75 u76 u78 u79 u80 u81 u82 u85 u86 u87 u88 u89 u90 u91 u92 u93 u94 u95 u96 u97 u98 u99 u100 u101 u102 u103 u104 u105 u106 u107 u108 u109 u110 u111 u112 u113 u114 u115 u116 u117 u118 u119 u120 u121 u122 u123 u124 u125 u126 u127 u128 u129 u130 u131 u132 u133 u134 u135 u136 u137 u138 u139 u140 u141 u142 u143 u144 u145 u146 u147 u148 u149 u150 u151 u152 u153 u154 u155 u156 u157 u158 u159 u160 u161 u162 u163 u164 u165 u166 u167 u168 u169 u170 u171 u172 u173 u174 u175 u176 u177 u178 u179 u180 u181 u182 u183 u184 u185 u186 u187 : Value) : FrMetD v3 v4 v5 v12 v13 v15 v16 v17 v18 v19 v20 v21 v22 v23 v24 v25 v26 v27 v54 v55 v56 v72 v77 v83 v84 { tmps := #[u0, u1, u2, v3, v4, v5, u6, u7, u8, u9, u10, u11, v12, v13, u14, v15, v16, v17, v18, v19, v20, v21, v22, v23, v24, v25, v26, v27, u28, u29, u30, u31, u32, u33, u34, u35, u36, u37, u38, u39, u40, u41, u42, u43, u44, u45, u46, u47, u48, u49, u50, u51, u52, u53, v54, v55, v56, u57, u58, u59, u60, u61, u62, u63, u64, u65, u66, u67, u68, u69, u70, u71, v72, u73, u74, u75, u76, v77, u78, u79, u80, u81, u82, v83, v84, u85, u86, u87, u88, u89, u90, u91, u92, u93, u94, u95, u96, u97, u98, u99, u100, u101, u102, u103, u104, u105, u106, u107, u108, u109, u110, u111, u112, u113, u114, u115, u116, u117, u118, u119, u120, u121, u122, u123, u124, u125, u126, u127, u128, u129, u130, u131, u132, u133, u134, u135, u136, u137, u138, u139, u140, u141, u142, u143, u144, u145, u146, u147, u148, u149, u150, u151, u152, u153, u154, u155, u156, u157, u158, u159, u160, u161, u162, u163, u164, u165, u166, u167, u168, u169, u170, u171, u172, u173, u174, u175, u176, u177, u178, u179, u180, u181, u182, u183, u184, u185, u186, u187], defers := [] }

set_option maxRecDepth 100000 in
set_option maxHeartbeats 16000000 in
theorem met_in (Av : Option Addr) (nv cv : Nat) (Aa : Option Addr) (na ca : Nat) (At : Option Addr) (nt ct : Nat) (m : Mix) (vessel after one other : Int) (w : World) (h : MixS w Av nv Aa na At nt m) (hca : na ≤ ca ∧ ca ≤ maxLen) :
  CallsIn Fence.wide 9 Tryd.prog 13 #[.agg #[.int .i64 m.fountains, .slice Av nv cv, .slice Aa na ca, .slice At nt ct], .int .i64 vessel, .int .i64 after, .int .i64 one, .int .i64 other] w (MetOut w m vessel after one other) := by
 have hmm := @run_makeMap Tryd.prog
 have HM := Lib.hid h
 clear h
 refine callsIn_of_wp Tryd.func13 rfl trivial ?_ rfl
 simp only [Tryd.ntmps13, List.size_toArray, List.length_cons, List.length_nil, Nat.reduceAdd, Nat.reduceSub, Array.replicate_succ, Array.replicate_zero, List.push_toArray, List.append_toArray, List.nil_append, List.cons_append]
 gi_upto_region 1 with fail
 have HLay := Lib.hid (Lay.one w 47 #[.int .i64 m.fountains, .slice Av nv cv, .slice Aa na ca, .slice At nt ct])
 generalize (w.alloc (.cells #[.int .i64 m.fountains, .slice Av nv cv, .slice Aa na ca, .slice At nt ct] 47)) = w0 at *
 have x0_0 := (HLay.out.blk 0 rfl).cell 0
 have x0_1 := (HLay.out.blk 0 rfl).cell 1
 have x0_2 := (HLay.out.blk 0 rfl).cell 2
 have x0_3 := (HLay.out.blk 0 rfl).cell 3
 have l0_ := HLay.out.lt 0 rfl
 gi_wp2
 clear x0_0 x0_1 x0_2 x0_3 l0_
 have Y := IntsAt.new w0 3 [one, other] (w0.heap.size + 1) (by omega)
 have hb1 : Below w0.heap.size w0 (w0.alloc (.cells #[.int .i64 one, .int .i64 other] 3)) := (Below.refl _ _).alloc (Nat.le_refl _) _
 have hc := placed_in Av nv cv Aa na ca At nt ct m vessel after (some ⟨w0.heap.size, 0, none⟩) 2 2 [one, other] _ (HM.out.up (HLay.out.1.trans (hb1.mono HLay.out.1.size))) (Y.more (by simp)) (by decide)
 refine ⟨trivial, (callsIn_wide.2 (callsIn_wide.1 hc)).mono ?_⟩
 clear hc Y
 generalize (w0.alloc (.cells #[.int .i64 one, .int .i64 other] 3)) = W00 at *
 rintro e W8 ⟨pp, s1, s2, rfl, hb, hp⟩
 have HP := Lib.hid hp
 have hbb := hb1.trans (hb.mono hb1.size)
 clear hb hb1 hp
 replace HLay := Lib.hid (HLay.out.below hbb)
 clear hbb
 obtain ⟨ee, hee⟩ : ∃ ee, askM m vessel after [one, other] = ee := ⟨_, rfl⟩
 rw [hee] at HP ⊢
 have HEE := Lib.hid hee
 clear hee
 gi_upto_region 2 with fail
 obtain ⟨V1, hV⟩ : ∃ V, (W8.alloc (.cells #[.int .i64 s1, .int .i64 s2] 70)) = V := ⟨_, rfl⟩
 rw [hV]
 have hb := fbox_bel hV
 have hnew := fbox_blk hV
 have hge := HLay.out.bel.size
 have HBX := Lib.hid hb
 replace HLay := Lib.hid (HLay.out.below hb)
 replace HLay := Lib.hid (HLay.out.add hge hnew)
 clear hnew hge hb hV
 obtain ⟨G2, hG⟩ : ∃ g, W8.heap.size = g := ⟨_, rfl⟩
 rw [hG] at HLay ⊢
 clear hG
 replace HLay := Lib.hid (show Lay w V1 [(w.heap.size, 47, #[.int .i64 m.fountains, .slice Av nv cv, .slice Aa na ca, .slice At nt ct]), (G2, 70, #[.int .i64 s1, .int .i64 s2])] from HLay.out)
 by_cases h0 : ee = 0
 ·
  obtain ⟨hk, h1, h2, h3, h4, T, rfl, hTm, hTL, hTg, hT, _⟩ := HP.out h0
  subst h0
  subst h2
  obtain ⟨q, hq⟩ : ∃ q : Nat, s1 = q := ⟨s1.toNat, by omega⟩
  subst hq
  obtain ⟨k, hkk⟩ : ∃ k : Nat, s2 = k := ⟨s2.toNat, by omega⟩
  subst hkk
  have hv4 := (okMix_vess hk).1
  have HQ : Hid (q < 4 ∧ (q : Int) = idxV m.vessels vessel ∧ k ≤ m.acts.length ∧ m.acts.length ≤ 12) := Lib.hid ⟨by have := idxV_lt (l := m.vessels) (id := vessel) (by omega); omega, h1, by omega, (okMix_vess hk).2.1⟩
  have HOK : Hid (TbOk T) := Lib.hid ⟨by rw [hTm]; exact hk, by rw [hTm]; exact hTL⟩
  have HTM := Lib.hid hTm
  have HTL := Lib.hid hTL
  have HT := Lib.hid (hT.below (show Below W8.heap.size W8 V1 from HBX.out))
  have HLA := Lib.hid HM.out.at_.lenA
  clear HP hk h1 h3 h4 hTm hTL hTg hT hv4
  by_cases hoo : one = other
  ·
   have hob : (one == other) = true := by simpa using hoo
   have HOO := Lib.hid hoo
   clear hoo
   gi_wp2
   refine bodyPost_ret (v := .tuple #[.bool false, .int .i64 2]) (by simp [results, Tryd.results13, go_sem]) rfl ?_
   exact ⟨false, 2, rfl, .inl ⟨by unfold metM; rw [if_pos HEE.out, if_pos HOO.out]; decide, rfl, by unfold metM; rw [if_pos HEE.out, if_pos HOO.out]⟩, HLay.out.1⟩
  ·
   have hob : (one == other) = false := by simpa using hoo
   have HOO := Lib.hid hoo
   clear hoo
   have HBS0 := Lib.hid HLay.out
   have HTB := Lib.hid HT.out.at_
   have hm0 := MapIs.made (β := Bool) (encK := C2.key) (encV := Value.bool) (okK := okC) V1
   obtain ⟨w1, hup, hm1, hg1, hs1⟩ := hm0.update (P := Tryd.prog) cpTy (x := (-1, -1)) (show okC (-1, -1) from ⟨okZ_of (by decide) (by decide), okZ_of (by decide) (by decide)⟩) true
   replace hup : (Instr.mapUpdate 88 (.map (some V1.heap.size)) (.agg #[.int .i64 (-1), .int .i64 (-1)]) (.bool true)).run Tryd.prog (V1.alloc (.map #[] 0)) = .ok () w1 := hup
   have HB1 : Hid (Below V1.heap.size V1 w1) := Lib.hid (((Below.refl _ _).alloc (Nat.le_refl _) _).grown hg1 (by simp) (fun k e => by cases e; exact Nat.le_refl _))
   have HM1 : Hid (CpMap w1 V1.heap.size [((-1, -1), true)]) := Lib.hid hm1
   clear hm0 hg1 hs1 hm1
   have x0_0 := (HLay.out.blk 0 rfl).cell 0
   have x0_1 := (HLay.out.blk 0 rfl).cell 1
   have x0_2 := (HLay.out.blk 0 rfl).cell 2
   have x0_3 := (HLay.out.blk 0 rfl).cell 3
   have l0_ := HLay.out.lt 0 rfl
   gi_upto_region 7 with fail
   clear hup
   clear x0_0 x0_1 x0_2 x0_3 l0_
   obtain ⟨R0, hR0⟩ : ∃ R0, V1.heap.size = R0 := ⟨_, rfl⟩
   rw [hR0] at HM1 ⊢
   have HR0 : Hid (V1.heap.size ≤ R0) := Lib.hid (by omega)
   clear hR0
   have HLW := Lib.hid (HBS0.out.below HB1.out)
   have x9 := (HLW.out.blk 0 rfl).cell 2
   have x9l := HLW.out.lt 0 rfl
   change _ = some (Value.slice Aa na ca) at x9
   have hkna : k ≤ na := by have h1 := HQ.out; have h2 := HLA.out; omega
   have hk12 : k ≤ 12 := by have h1 := HQ.out; omega
   have hkc : k ≤ ca := by have := hca; omega
   gi_wp2
   clear x9 x9l
   refine wpIn_loop (fun a W => ∃ (i r : Nat), Hid (Ey1 fun (mm : List (C2 × Bool)) => i ≤ k ∧ Below V1.heap.size V1 W ∧ CpMap W r mm ∧ V1.heap.size ≤ r ∧ CpIs mm (NowP m T.L one other i)) ∧ FrMetA (.int .i64 one) (.int .i64 other) (.pointer (some ⟨w.heap.size, 0, none⟩)) (.pointer (some ⟨T.g, 0, none⟩)) (.pointer (some ⟨G2, 0, none⟩)) (.map (some r)) (.slice Aa k ca) (.int .i64 k) (.int .i64 (i : Int)) a) (fun a _ => k - (intOf (a.tmps.getD 56 undef)).toNat) ?_ ?_
   ·exact ⟨0, R0, Lib.hid ⟨_, by omega, HB1.out, HM1.out, HR0.out, cp_first⟩, by constructor⟩
   clear HB1 HM1 HR0 HLW HLay HT
   rintro a W ⟨i, r, HS, ha⟩
   cases ha
   obtain ⟨mm, hs9⟩ := HS.out
   replace HS := Lib.hid hs9
   clear hs9
   by_cases hlt : i < k
   ·
    have HLay := Lib.hid (HBS0.out.below HS.out.2.1)
    have HT := Lib.hid (HTB.out.below HS.out.2.1)
    obtain ⟨b, off, x, hAv, hbB, hx, c0_, c1_, c2_, c3_⟩ := (HM.out.at_.below HLay.out.1).act (i := i) (by omega)
    rw [HTM.out.symm] at hx
    obtain ⟨all, hA⟩ := HOK.out.at_ hx
    have HX := Lib.hid hx
    have HAT := Lib.hid hA
    clear hx hA hbB
    rw [hAv]
    gi_upto_region 10 with fail
    clear c0_ c1_ c2_ c3_
    obtain ⟨V3, hV⟩ : ∃ V, (W.alloc (.cells #[.int .i64 x.kind, .int .i64 x.fr, .int .i64 x.to, .int .i64 x.drops] 43)) = V := ⟨_, rfl⟩
    rw [hV]
    have hb := fbox_bel hV
    have hnew := fbox_blk hV
    have hge := HLay.out.bel.size
    have HBW := Lib.hid hb
    replace HLay := Lib.hid (HLay.out.below hb)
    replace HT := Lib.hid (HT.out.below hb)
    replace HLay := Lib.hid (HLay.out.add hge hnew)
    clear hnew hge hb hV
    obtain ⟨G4, hG⟩ : ∃ g, W.heap.size = g := ⟨_, rfl⟩
    rw [hG] at HLay ⊢
    have HG_ := Lib.hid hG
    clear hG
    replace HLay := Lib.hid (show Lay w V3 [(w.heap.size, 47, #[.int .i64 m.fountains, .slice Av nv cv, .slice Aa na ca, .slice At nt ct]), (G2, 70, #[.int .i64 (q : Int), .int .i64 (k : Int)]), (G4, 43, #[.int .i64 x.kind, .int .i64 x.fr, .int .i64 x.to, .int .i64 x.drops])] from HLay.out)
    rw [← hAv]
    have HAV := Lib.hid hAv
    clear hAv
    have x2_0 := (HLay.out.blk 2 rfl).cell 0
    have x2_1 := (HLay.out.blk 2 rfl).cell 1
    have x2_2 := (HLay.out.blk 2 rfl).cell 2
    have x2_3 := (HLay.out.blk 2 rfl).cell 3
    have l2_ := HLay.out.lt 2 rfl
    gi_wp2
    clear x2_0 x2_1 x2_2 x2_3 l2_
    refine ⟨trivial, (callsIn_wide.2 (callsIn_wide.1 (ends_in T x V3 HT.out HAT.out.ok.kind))).mono ?_⟩
    rintro e W5 ⟨rfl, hb⟩
    replace HLay := Lib.hid (HLay.out.below hb)
    replace HT := Lib.hid (HT.out.below hb)
    replace HBW := Lib.hid (HBW.out.trans (hb.mono HBW.out.size))
    clear hb
    obtain ⟨fr, hfr⟩ : ∃ fr, fromI T.m x = fr := ⟨_, rfl⟩
    obtain ⟨to, hto⟩ : ∃ to, toI T.m x = to := ⟨_, rfl⟩
    rw [hfr, hto]
    have HFR := Lib.hid hfr
    have HTO := Lib.hid hto
    clear hfr hto
    gi_wp2
    refine ⟨trivial, (callsIn_wide.2 (callsIn_wide.1 (size_in T i x all W5 HT.out HX.out HAT.out.ha HAT.out.ok.kind HAT.out.four))).mono ?_⟩
    rintro e W6 ⟨rfl, hb⟩
    replace HLay := Lib.hid (HLay.out.below hb)
    replace HT := Lib.hid (HT.out.below hb)
    replace HBW := Lib.hid (HBW.out.trans (hb.mono HBW.out.size))
    clear hb
    obtain ⟨n, hn⟩ : ∃ n, sizeA T.m all x = n := ⟨_, rfl⟩
    rw [hn]
    have HN := Lib.hid hn
    clear hn
    have hbW : Below W6.heap.size W6 (W6.alloc (.map #[] 0)) := (Below.refl _ _).alloc (Nat.le_refl _) _
    have HMN : Hid (CpMap (W6.alloc (.map #[] 0)) W6.heap.size []) := Lib.hid (MapIs.made (β := Bool) W6)
    have hmw := HS.out.2.2.1.below HBW.out HS.out.2.2.1.lt
    have hmr : CpMap (W6.alloc (.map #[] 0)) r mm := hmw.below hbW hmw.lt
    obtain ⟨w2, hr1, hi1, hg1, hs1⟩ := MapIs.range (P := Tryd.prog) (t := 88) Tryd.underlying88 hmr
    have hnd := MapIs.nodup cpTy hmr
    have hrl := HS.out.2.2.1.lt
    have hws := HBW.out.size
    have hwb := HS.out.2.1.size
    gi_upto_region 14 with fail
    clear hr1
    have hbel9 : Below W6.heap.size W6 w2 := hbW.grown hg1 (by simp) (fun k e => by cases e)
    have hbw2 := HBW.out.trans (hbel9.mono hws)
    have HMS : Hid (MS V1 w2 (W6.heap.size + 1) r W6.heap.size mm mm [] [(G4, 43, #[.int .i64 x.kind, .int .i64 x.fr, .int .i64 x.to, .int .i64 x.drops])]) := Lib.hid ⟨⟨HS.out.2.1.trans (hbw2.mono hwb), fun b hb => by obtain rfl := List.mem_singleton.1 hb; exact ⟨by have := HG_.out; dsimp only; omega, (HLay.out.blk 2 rfl).below hbel9 (HLay.out.blk 2 rfl).lt⟩⟩, by simpa using hi1, HMN.out.grown hg1 (fun e => by cases e), by omega, by omega, HS.out.2.2.2.1, by omega⟩
    have HND := Lib.hid hnd
    obtain ⟨rn, hrn⟩ : ∃ rn, W6.heap.size = rn := ⟨_, rfl⟩
    rw [hrn] at HMS ⊢
    obtain ⟨it, hit⟩ : ∃ it, rn + 1 = it := ⟨_, rfl⟩
    rw [hit] at HMS ⊢
    clear hbW hmw hmr hi1 hg1 hs1 hnd hrl hws hwb hbel9 hbw2 hrn hit HMN
    obtain ⟨al, hal⟩ : ∃ al, heldAt all fr = al := ⟨_, rfl⟩
    have HAL := Lib.hid hal
    clear hal
    refine wpIn_loop (fun a W => Hid (Ey2 fun (left mn : List (C2 × Bool)) => MS V1 W it r rn mm left mn [(G4, 43, #[.int .i64 x.kind, .int .i64 x.fr, .int .i64 x.to, .int .i64 x.drops])] ∧ (left.map Prod.fst).Nodup ∧ (∀ p ∈ left, p ∈ mm) ∧ CpIs mn (GoneP2 fr to n al x.fr one other mm left)) ∧ FrMetB (.int .i64 one) (.int .i64 other) (.pointer (some ⟨w.heap.size, 0, none⟩)) (.pointer (some ⟨T.g, 0, none⟩)) (.pointer (some ⟨G2, 0, none⟩)) (.map (some r)) (.int .i64 (i : Int)) (.pointer (some ⟨G4, 0, none⟩)) (.int .i64 fr) (.int .i64 to) (.int .i64 n) (.map (some rn)) (.slice Aa k ca) (.int .i64 k) (.int .i64 (i : Int)) (.pointer (some ⟨it, 0, none⟩)) a) (fun _ W => iterLeft W it) ?_ ?_
    ·exact ⟨Lib.hid ⟨mm, [], HMS.out, HND.out, fun p hp => hp, CpIs.nil.congr fun d => ⟨False.elim, goneP_start⟩⟩, by constructor⟩
    clear HMS HLay HT HBW
    rintro a W ⟨HM2, ha⟩
    cases ha
    obtain ⟨left, mn, hs9⟩ := HM2.out
    replace HM2 := Lib.hid hs9
    clear hs9
    rcases HM2.out.1.iter.next (P := Tryd.prog) 0 with ⟨hl, hr⟩ | ⟨i9, ⟨⟨y1, y2⟩, v⟩, w2, hp, hr, hi2, hg2, hs2, he2⟩
    ·
     subst hl
     gi_wp2
     have hAt := HAV.out
     clear HAV
     subst hAt
     refine ⟨⟨i + 1, rn, Lib.hid ⟨mn, hlt, HM2.out.1.lay.1, HM2.out.1.map, HM2.out.1.ge.2.2, HM2.out.2.2.2.congr fun d => by have h := goneP_end HX.out HAT.out.ha (by rw [HTM.out]; exact HS.out.2.2.2.2) d; rw [HFR.out, HTO.out, HN.out, HAL.out, HTM.out] at h; exact h⟩, by rw [show ((i + 1 : Nat) : Int) = (i : Int) + 1 from by omega]; constructor⟩, ?_⟩
     simp [intOf] <;> omega
    ·
     replace hr : (Instr.next (.pointer (some ⟨it, 0, none⟩)) false 0).run Tryd.prog W = .ok (.tuple #[.bool true, .agg #[.int .i64 y1, .int .i64 y2], .bool v]) w2 := hr
     replace he2 : (Instr.entry (.pointer (some ⟨it, 0, none⟩))).run Tryd.prog w2 = .ok (.tuple #[.agg #[.int .i64 y1, .int .i64 y2], .bool v]) w2 := he2
     have hms := HM2.out.1.next hi2 hg2
     have HMS := Lib.hid hms
     have HP := Lib.hid hp
     have HYM := Lib.hid (HM2.out.2.2.1 _ (List.mem_of_getElem? hp))
     have HIL : Hid (iterLeft w2 it < iterLeft W it) := Lib.hid (by
      rw [hi2.left_eq, HM2.out.1.iter.left_eq]
      have h5 := (List.getElem?_eq_some_iff.1 hp).1
      rw [List.length_eraseIdx_of_lt h5]
      omega)
     have hno : ∀ p ∈ ([(G4, 43, #[.int .i64 x.kind, .int .i64 x.fr, .int .i64 x.to, .int .i64 x.drops])] : List (Nat × TypeId × Array Value)), p.1 < w2.heap.size := fun p hp => (hms.lay.2 p hp).2.lt
     clear hs2
     gi_upto_region 16 with fail
     clear hr he2 hi2 hg2 hp
     have hms2 := hms.box 87 #[.int .i64 y1, .int .i64 y2]
     obtain ⟨gc, hgc⟩ : ∃ gc, w2.heap.size = gc := ⟨_, rfl⟩
     rw [hgc] at hms2 ⊢
     have hcx : G4 < gc := by rw [← hgc]; exact hno _ (List.mem_singleton.2 rfl)
     have HCX := Lib.hid hcx
     have HMS2 := Lib.hid hms2
     generalize (w2.alloc (.cells #[.int .i64 y1, .int .i64 y2] 87)) = W3 at *
     clear hms hms2 HMS hgc hcx hno
     gi_wp2
     refine wpIn_loop (fun a W => ∃ (sv : Nat), Hid (Ey1 fun (mn : List (C2 × Bool)) => sv ≤ 4 ∧ MS V1 W it r rn mm (left.eraseIdx i9) mn [(G4, 43, #[.int .i64 x.kind, .int .i64 x.fr, .int .i64 x.to, .int .i64 x.drops]), (gc, 87, #[.int .i64 y1, .int .i64 y2])] ∧ CpIs mn (fun d => GoneP2 fr to n al x.fr one other mm left d ∨ SetP fr to n al x.fr one other (y1, y2) sv d)) ∧ FrMetC (.int .i64 one) (.int .i64 other) (.pointer (some ⟨w.heap.size, 0, none⟩)) (.pointer (some ⟨T.g, 0, none⟩)) (.pointer (some ⟨G2, 0, none⟩)) (.map (some r)) (.int .i64 (i : Int)) (.pointer (some ⟨G4, 0, none⟩)) (.int .i64 fr) (.int .i64 to) (.int .i64 n) (.map (some rn)) (.pointer (some ⟨gc, 0, none⟩)) (.slice Aa k ca) (.int .i64 k) (.int .i64 (i : Int)) (.pointer (some ⟨it, 0, none⟩)) (.int .i64 (sv : Int)) a) (fun a _ => 4 - (intOf (a.tmps.getD 77 undef)).toNat) ?_ ?_
     ·exact ⟨0, Lib.hid ⟨mn, by omega, HMS2.out, HM2.out.2.2.2.congr fun d => ⟨.inl, fun h => h.resolve_right setP_zero⟩⟩, by constructor⟩
     clear HMS2
     rintro a W9 ⟨sv, HM3, ha⟩
     cases ha
     obtain ⟨mn, hs9⟩ := HM3.out
     replace HM3 := Lib.hid hs9
     clear hs9
     by_cases hsv : sv < 4
     ·
      have b0 := (HM3.out.2.1.lay.blk 1 rfl).cell 0
      have b1_ := (HM3.out.2.1.lay.blk 1 rfl).cell 1
      have b2 := (HM3.out.2.1.lay.blk 1 rfl).lt
      gi_upto_region 20 with fail
      clear b0 b1_ b2
      have hms3 := HM3.out.2.1.box 87 #[.int .i64 y1, .int .i64 y2]
      obtain ⟨gd, hgd⟩ : ∃ gd, W9.heap.size = gd := ⟨_, rfl⟩
      have HGD : Hid (gc < gd) := Lib.hid (by rw [← hgd]; exact (HM3.out.2.1.lay.blk 1 rfl).lt)
      rw [hgd] at hms3 ⊢
      have HMS3 := Lib.hid hms3
      generalize (W9.alloc (.cells #[.int .i64 y1, .int .i64 y2] 87)) = W10 at *
      clear hms3 hgd
      gi_wp2
      refine wpIn_loop (fun a W => ∃ (j : Nat) (mv st : Int) (rv : Value), Hid (Ey3 fun (d1 d2 : Int) (rb : Bool) => rv = .bool rb ∧ j ≤ 2 ∧ MS V1 W it r rn mm (left.eraseIdx i9) mn [(G4, 43, #[.int .i64 x.kind, .int .i64 x.fr, .int .i64 x.to, .int .i64 x.drops]), (gc, 87, #[.int .i64 y1, .int .i64 y2]), (gd, 87, #[.int .i64 d1, .int .i64 d2])] ∧ KSt fr to x.fr one other y1 y2 (gB sv) j d1 d2 mv st rb) ∧ FrMetD (.int .i64 one) (.int .i64 other) (.pointer (some ⟨w.heap.size, 0, none⟩)) (.pointer (some ⟨T.g, 0, none⟩)) (.pointer (some ⟨G2, 0, none⟩)) (.map (some r)) (.int .i64 (i : Int)) (.pointer (some ⟨G4, 0, none⟩)) (.int .i64 fr) (.int .i64 to) (.int .i64 n) (.map (some rn)) (.pointer (some ⟨gc, 0, none⟩)) (.int .i64 (sv : Int)) (.pointer (some ⟨gd, 0, none⟩)) (.int .i64 mv) (.int .i64 st) (rv) (.slice Aa k ca) (.int .i64 k) (.int .i64 (i : Int)) (.pointer (some ⟨it, 0, none⟩)) (.int .i64 (sv : Int)) (.agg #[.int .i64 one, .int .i64 other]) (.int .i64 (j : Int)) a) (fun a _ => 2 - (intOf (a.tmps.getD 84 undef)).toNat) ?_ ?_
      ·exact ⟨0, 0, 0, .bool true, Lib.hid ⟨y1, y2, true, rfl, by omega, HMS3.out, kst_zero⟩, by constructor⟩
      clear HMS3
      rintro a W11 ⟨j, mv, st, rv, HM4, ha⟩
      cases ha
      obtain ⟨d1, d2, rb, rfl, hs9⟩ := HM4.out
      replace HM4 := Lib.hid hs9
      clear hs9
      have hj := HM4.out.1
      have hix : ∀ z : World, (Instr.index 86 (.agg #[.int .i64 one, .int .i64 other]) (.int .i64 0)).run Tryd.prog z = .ok (.int .i64 one) z := fun _ => by kernel_rfl
      have hiy : ∀ z : World, (Instr.index 86 (.agg #[.int .i64 one, .int .i64 other]) (.int .i64 1)).run Tryd.prog z = .ok (.int .i64 other) z := fun _ => by kernel_rfl
      have hne : ∀ p ∈ ([(G4, 43, #[.int .i64 x.kind, .int .i64 x.fr, .int .i64 x.to, .int .i64 x.drops]), (gc, 87, #[.int .i64 y1, .int .i64 y2])] : List (Nat × TypeId × Array Value)), p.1 ≠ gd := by
       intro p hp
       have h1 := HCX.out
       have h2 := HGD.out
       simp only [List.mem_cons, List.not_mem_nil, or_false] at hp
       rcases hp with rfl | rfl <;> (dsimp only; omega)
      have HNE := Lib.hid hne
      clear hne
      rcases (show j = 0 ∨ j = 1 ∨ j = 2 by omega) with rfl | rfl | rfl
      ·
       have hbt := bits_0 hsv
       obtain ⟨rfl, rfl, rfl, rfl, rfl⟩ : y1 = d1 ∧ y2 = d2 ∧ mv = 0 ∧ st = 0 ∧ rb = true := by have h := HM4.out.2.2; unfold KSt at h; simp at h; exact ⟨h.1.symm, h.2.1.symm, h.2.2⟩
       have HMW := Lib.hid HM4.out.2.1
       obtain ⟨g, hg⟩ : ∃ g, (gB sv).1 = g := ⟨_, rfl⟩
       rw [hg] at hbt
       have HG := Lib.hid hg
       clear hg
       have e0 := (HM4.out.2.1.lay.blk 0 rfl).cell 1
       have el := (HM4.out.2.1.lay.blk 0 rfl).lt
       have y0 := (HM4.out.2.1.lay.blk 1 rfl).cell 0
       have y1_ := (HM4.out.2.1.lay.blk 1 rfl).cell 1
       have yl := (HM4.out.2.1.lay.blk 1 rfl).lt
       have g0 := (HM4.out.2.1.lay.blk 2 rfl).cell 0
       have g1 := (HM4.out.2.1.lay.blk 2 rfl).cell 1
       have gf0 := (HM4.out.2.1.lay.blk 2 rfl).frozen 0
       have gf1 := (HM4.out.2.1.lay.blk 2 rfl).frozen 1
       have gl := (HM4.out.2.1.lay.blk 2 rfl).lt
       cases g with
       | true =>
        by_cases hf : fr < 0
        ·
         have hfb : decide (fr < 0) = true := decide_eq_true hf
         have HF := Lib.hid hf
         have HFN := Lib.hid hf
         by_cases hy : y1 = -1
         ·
          have hyb : (y1 == (-1)) = true := by simpa using hy
          have HY := Lib.hid hy
          clear hy
          by_cases hx : x.fr = one
          ·
           have hxb : (x.fr == one) = true := by simpa using hx
           have HX9 := Lib.hid hx
           clear hx
           gi_upto_region 36 with fail
           clear e0 el y0 y1_ yl g0 g1 gf0 gf1 gl
           have hms9 : MS V1 (W11.setCell ⟨gd, 0, none⟩ (.int .i64 (to))) it r rn mm (left.eraseIdx i9) mn [(G4, 43, #[.int .i64 x.kind, .int .i64 x.fr, .int .i64 x.to, .int .i64 x.drops]), (gc, 87, #[.int .i64 y1, .int .i64 y2]), (gd, 87, #[.int .i64 to, .int .i64 y2])] := HMW.out.set (bs := [(G4, 43, #[.int .i64 x.kind, .int .i64 x.fr, .int .i64 x.to, .int .i64 x.drops]), (gc, 87, #[.int .i64 y1, .int .i64 y2])]) HNE.out 0 (.int .i64 (to))
           replace HMW := Lib.hid hms9
           generalize W11.setCell ⟨gd, 0, none⟩ (.int .i64 (to)) = S1 at *
           clear hms9
           gi_wp2
           refine ⟨⟨1, 0, 0, .bool true, Lib.hid ⟨to, y2, _, rfl, by omega, HMW.out, KSt.of kst_one ((dropP_neg HG.out HF.out).symm) (rfl) ((b1if_neg HFN.out).symm) ((stif_neg HFN.out).symm) ((rightB_n1 HG.out HF.out HY.out HX9.out).symm)⟩, by constructor⟩, ?_⟩
           simp [intOf] <;> omega
          ·
           have hxb : (x.fr == one) = false := by simpa using hx
           have HX9 := Lib.hid hx
           clear hx
           gi_upto_region 36 with fail
           clear e0 el y0 y1_ yl g0 g1 gf0 gf1 gl
           have hms9 : MS V1 (W11.setCell ⟨gd, 0, none⟩ (.int .i64 (to))) it r rn mm (left.eraseIdx i9) mn [(G4, 43, #[.int .i64 x.kind, .int .i64 x.fr, .int .i64 x.to, .int .i64 x.drops]), (gc, 87, #[.int .i64 y1, .int .i64 y2]), (gd, 87, #[.int .i64 to, .int .i64 y2])] := HMW.out.set (bs := [(G4, 43, #[.int .i64 x.kind, .int .i64 x.fr, .int .i64 x.to, .int .i64 x.drops]), (gc, 87, #[.int .i64 y1, .int .i64 y2])]) HNE.out 0 (.int .i64 (to))
           replace HMW := Lib.hid hms9
           generalize W11.setCell ⟨gd, 0, none⟩ (.int .i64 (to)) = S1 at *
           clear hms9
           gi_wp2
           refine ⟨⟨1, 0, 0, .bool false, Lib.hid ⟨to, y2, _, rfl, by omega, HMW.out, KSt.of kst_one ((dropP_neg HG.out HF.out).symm) (rfl) ((b1if_neg HFN.out).symm) ((stif_neg HFN.out).symm) ((rightB_n2 HG.out HF.out HY.out HX9.out).symm)⟩, by constructor⟩, ?_⟩
           simp [intOf] <;> omega
         ·
          have hyb : (y1 == (-1)) = false := by simpa using hy
          have HY := Lib.hid hy
          clear hy
          gi_upto_region 36 with fail
          clear e0 el y0 y1_ yl g0 g1 gf0 gf1 gl
          have hms9 : MS V1 (W11.setCell ⟨gd, 0, none⟩ (.int .i64 (to))) it r rn mm (left.eraseIdx i9) mn [(G4, 43, #[.int .i64 x.kind, .int .i64 x.fr, .int .i64 x.to, .int .i64 x.drops]), (gc, 87, #[.int .i64 y1, .int .i64 y2]), (gd, 87, #[.int .i64 to, .int .i64 y2])] := HMW.out.set (bs := [(G4, 43, #[.int .i64 x.kind, .int .i64 x.fr, .int .i64 x.to, .int .i64 x.drops]), (gc, 87, #[.int .i64 y1, .int .i64 y2])]) HNE.out 0 (.int .i64 (to))
          replace HMW := Lib.hid hms9
          generalize W11.setCell ⟨gd, 0, none⟩ (.int .i64 (to)) = S1 at *
          clear hms9
          gi_wp2
          refine ⟨⟨1, 0, 0, .bool false, Lib.hid ⟨to, y2, _, rfl, by omega, HMW.out, KSt.of kst_one ((dropP_neg HG.out HF.out).symm) (rfl) ((b1if_neg HFN.out).symm) ((stif_neg HFN.out).symm) ((rightB_n0 HG.out HF.out HY.out).symm)⟩, by constructor⟩, ?_⟩
          simp [intOf] <;> omega
        ·
         have hfb : decide (fr < 0) = false := decide_eq_false hf
         have hfp : 0 ≤ fr := by omega
         have hfc : decide (0 ≤ fr) = true := decide_eq_true hfp
         have HF := Lib.hid hfp
         have HFN := Lib.hid hfp
         by_cases hy : y1 = fr
         ·
          have hyb : (y1 == fr) = true := by simpa using hy
          have HY := Lib.hid hy
          clear hy
          gi_upto_region 31 with fail
          clear e0 el y0 y1_ yl g0 g1 gf0 gf1 gl
          have hms9 : MS V1 (W11.setCell ⟨gd, 0, none⟩ (.int .i64 (to))) it r rn mm (left.eraseIdx i9) mn [(G4, 43, #[.int .i64 x.kind, .int .i64 x.fr, .int .i64 x.to, .int .i64 x.drops]), (gc, 87, #[.int .i64 y1, .int .i64 y2]), (gd, 87, #[.int .i64 to, .int .i64 y2])] := HMW.out.set (bs := [(G4, 43, #[.int .i64 x.kind, .int .i64 x.fr, .int .i64 x.to, .int .i64 x.drops]), (gc, 87, #[.int .i64 y1, .int .i64 y2])]) HNE.out 0 (.int .i64 (to))
          replace HMW := Lib.hid hms9
          generalize W11.setCell ⟨gd, 0, none⟩ (.int .i64 (to)) = S1 at *
          clear hms9
          by_cases ht : to < 0
          ·
           have htb : decide (to < 0) = true := decide_eq_true ht
           have HT9 := Lib.hid ht
           have gf := (HMW.out.lay.blk 2 rfl).frozen 0
           have gc_ := (HMW.out.lay.blk 2 rfl).cell 0
           have gl := (HMW.out.lay.blk 2 rfl).lt
           gi_upto_region 33 with fail
           clear gf gc_ gl
           have hms9 : MS V1 (S1.setCell ⟨gd, 0, none⟩ (.int .i64 (-2))) it r rn mm (left.eraseIdx i9) mn [(G4, 43, #[.int .i64 x.kind, .int .i64 x.fr, .int .i64 x.to, .int .i64 x.drops]), (gc, 87, #[.int .i64 y1, .int .i64 y2]), (gd, 87, #[.int .i64 (-2), .int .i64 y2])] := HMW.out.set (bs := [(G4, 43, #[.int .i64 x.kind, .int .i64 x.fr, .int .i64 x.to, .int .i64 x.drops]), (gc, 87, #[.int .i64 y1, .int .i64 y2])]) HNE.out 0 (.int .i64 (-2))
           replace HMW := Lib.hid hms9
           generalize S1.setCell ⟨gd, 0, none⟩ (.int .i64 (-2)) = S2 at *
           clear hms9
           gi_wp2
           refine ⟨⟨1, 1, 0, .bool true, Lib.hid ⟨(-2), y2, _, rfl, by omega, HMW.out, KSt.of kst_one ((dropP_gone HG.out HF.out HT9.out).symm) (rfl) ((b1if_t HG.out HF.out).symm) ((stif_t HG.out).symm) ((rightB_p1 HG.out HFN.out HY.out).symm)⟩, by constructor⟩, ?_⟩
           simp [intOf] <;> omega
          ·
           have htb : decide (to < 0) = false := decide_eq_false ht
           have HT9 : Hid (0 ≤ to) := Lib.hid (by omega)
           gi_wp2
           refine ⟨⟨1, 1, 0, .bool true, Lib.hid ⟨to, y2, _, rfl, by omega, HMW.out, KSt.of kst_one ((dropP_pos HG.out HF.out HT9.out).symm) (rfl) ((b1if_t HG.out HF.out).symm) ((stif_t HG.out).symm) ((rightB_p1 HG.out HFN.out HY.out).symm)⟩, by constructor⟩, ?_⟩
           simp [intOf] <;> omega
         ·
          have hyb : (y1 == fr) = false := by simpa using hy
          have HY := Lib.hid hy
          clear hy
          gi_upto_region 31 with fail
          clear e0 el y0 y1_ yl g0 g1 gf0 gf1 gl
          have hms9 : MS V1 (W11.setCell ⟨gd, 0, none⟩ (.int .i64 (to))) it r rn mm (left.eraseIdx i9) mn [(G4, 43, #[.int .i64 x.kind, .int .i64 x.fr, .int .i64 x.to, .int .i64 x.drops]), (gc, 87, #[.int .i64 y1, .int .i64 y2]), (gd, 87, #[.int .i64 to, .int .i64 y2])] := HMW.out.set (bs := [(G4, 43, #[.int .i64 x.kind, .int .i64 x.fr, .int .i64 x.to, .int .i64 x.drops]), (gc, 87, #[.int .i64 y1, .int .i64 y2])]) HNE.out 0 (.int .i64 (to))
          replace HMW := Lib.hid hms9
          generalize W11.setCell ⟨gd, 0, none⟩ (.int .i64 (to)) = S1 at *
          clear hms9
          by_cases ht : to < 0
          ·
           have htb : decide (to < 0) = true := decide_eq_true ht
           have HT9 := Lib.hid ht
           have gf := (HMW.out.lay.blk 2 rfl).frozen 0
           have gc_ := (HMW.out.lay.blk 2 rfl).cell 0
           have gl := (HMW.out.lay.blk 2 rfl).lt
           gi_upto_region 33 with fail
           clear gf gc_ gl
           have hms9 : MS V1 (S1.setCell ⟨gd, 0, none⟩ (.int .i64 (-2))) it r rn mm (left.eraseIdx i9) mn [(G4, 43, #[.int .i64 x.kind, .int .i64 x.fr, .int .i64 x.to, .int .i64 x.drops]), (gc, 87, #[.int .i64 y1, .int .i64 y2]), (gd, 87, #[.int .i64 (-2), .int .i64 y2])] := HMW.out.set (bs := [(G4, 43, #[.int .i64 x.kind, .int .i64 x.fr, .int .i64 x.to, .int .i64 x.drops]), (gc, 87, #[.int .i64 y1, .int .i64 y2])]) HNE.out 0 (.int .i64 (-2))
           replace HMW := Lib.hid hms9
           generalize S1.setCell ⟨gd, 0, none⟩ (.int .i64 (-2)) = S2 at *
           clear hms9
           gi_wp2
           refine ⟨⟨1, 1, 0, .bool false, Lib.hid ⟨(-2), y2, _, rfl, by omega, HMW.out, KSt.of kst_one ((dropP_gone HG.out HF.out HT9.out).symm) (rfl) ((b1if_t HG.out HF.out).symm) ((stif_t HG.out).symm) ((rightB_p0 HG.out HFN.out HY.out).symm)⟩, by constructor⟩, ?_⟩
           simp [intOf] <;> omega
          ·
           have htb : decide (to < 0) = false := decide_eq_false ht
           have HT9 : Hid (0 ≤ to) := Lib.hid (by omega)
           gi_wp2
           refine ⟨⟨1, 1, 0, .bool false, Lib.hid ⟨to, y2, _, rfl, by omega, HMW.out, KSt.of kst_one ((dropP_pos HG.out HF.out HT9.out).symm) (rfl) ((b1if_t HG.out HF.out).symm) ((stif_t HG.out).symm) ((rightB_p0 HG.out HFN.out HY.out).symm)⟩, by constructor⟩, ?_⟩
           simp [intOf] <;> omega
       | false =>
        by_cases hf : fr < 0
        ·
         have hfb : decide (fr < 0) = true := decide_eq_true hf
         have hfc : decide (0 ≤ fr) = false := decide_eq_false (by omega)
         have HF := Lib.hid hf
         have HFN := Lib.hid hf
         gi_wp2
         refine ⟨⟨1, 0, 0, .bool true, Lib.hid ⟨y1, y2, _, rfl, by omega, HMW.out, KSt.of kst_one ((dropP_stay HG.out).symm) (rfl) ((b1if_f HG.out).symm) ((stif_neg HFN.out).symm) ((rightB_s HG.out).symm)⟩, by constructor⟩, ?_⟩
         simp [intOf] <;> omega
        ·
         have hfb : decide (fr < 0) = false := decide_eq_false hf
         have hfp : 0 ≤ fr := by omega
         have hfc : decide (0 ≤ fr) = true := decide_eq_true hfp
         have HF := Lib.hid hfp
         have HFN := Lib.hid hfp
         by_cases hy : y1 = fr
         ·
          have hyb : (y1 == fr) = true := by simpa using hy
          have HY := Lib.hid hy
          clear hy
          gi_wp2
          refine ⟨⟨1, 0, 1, .bool true, Lib.hid ⟨y1, y2, _, rfl, by omega, HMW.out, KSt.of kst_one ((dropP_stay HG.out).symm) (rfl) ((b1if_f HG.out).symm) ((stif_1 HG.out HF.out HY.out).symm) ((rightB_s HG.out).symm)⟩, by constructor⟩, ?_⟩
          simp [intOf] <;> omega
         ·
          have hyb : (y1 == fr) = false := by simpa using hy
          have HY := Lib.hid hy
          clear hy
          gi_wp2
          refine ⟨⟨1, 0, 0, .bool true, Lib.hid ⟨y1, y2, _, rfl, by omega, HMW.out, KSt.of kst_one ((dropP_stay HG.out).symm) (rfl) ((b1if_f HG.out).symm) ((stif_0 HG.out HF.out HY.out).symm) ((rightB_s HG.out).symm)⟩, by constructor⟩, ?_⟩
          simp [intOf] <;> omega
      ·
       have hbt := bits_1 hsv
       obtain rfl : y2 = d2 := by have h := HM4.out.2.2.2.1; simp at h; exact h.symm
       have hmvb : 0 ≤ mv ∧ mv ≤ 1 := by have h := HM4.out.2.2.2.2.1; simp at h; rw [h]; split; exact b1_bd _; omega
       have hstb : 0 ≤ st ∧ st ≤ 1 := by have h := HM4.out.2.2.2.2.2.1; simp at h; rw [h]; split; exact b1_bd _; omega
       have HMW := Lib.hid HM4.out.2.1
       obtain ⟨g, hg⟩ : ∃ g, (gB sv).2 = g := ⟨_, rfl⟩
       rw [hg] at hbt
       have HG := Lib.hid hg
       clear hg
       have e0 := (HM4.out.2.1.lay.blk 0 rfl).cell 1
       have el := (HM4.out.2.1.lay.blk 0 rfl).lt
       have y0 := (HM4.out.2.1.lay.blk 1 rfl).cell 0
       have y1_ := (HM4.out.2.1.lay.blk 1 rfl).cell 1
       have yl := (HM4.out.2.1.lay.blk 1 rfl).lt
       have g0 := (HM4.out.2.1.lay.blk 2 rfl).cell 0
       have g1 := (HM4.out.2.1.lay.blk 2 rfl).cell 1
       have gf0 := (HM4.out.2.1.lay.blk 2 rfl).frozen 0
       have gf1 := (HM4.out.2.1.lay.blk 2 rfl).frozen 1
       have gl := (HM4.out.2.1.lay.blk 2 rfl).lt
       cases g with
       | true =>
        by_cases hf : fr < 0
        ·
         have hfb : decide (fr < 0) = true := decide_eq_true hf
         have HF := Lib.hid hf
         have HFN := Lib.hid hf
         cases rb with
         | false =>
          gi_upto_region 36 with fail
          clear e0 el y0 y1_ yl g0 g1 gf0 gf1 gl
          have hms9 : MS V1 (W11.setCell ⟨gd, 1, none⟩ (.int .i64 (to))) it r rn mm (left.eraseIdx i9) mn [(G4, 43, #[.int .i64 x.kind, .int .i64 x.fr, .int .i64 x.to, .int .i64 x.drops]), (gc, 87, #[.int .i64 y1, .int .i64 y2]), (gd, 87, #[.int .i64 d1, .int .i64 to])] := HMW.out.set (bs := [(G4, 43, #[.int .i64 x.kind, .int .i64 x.fr, .int .i64 x.to, .int .i64 x.drops]), (gc, 87, #[.int .i64 y1, .int .i64 y2])]) HNE.out 1 (.int .i64 (to))
          replace HMW := Lib.hid hms9
          generalize W11.setCell ⟨gd, 1, none⟩ (.int .i64 (to)) = S1 at *
          clear hms9
          gi_wp2
          refine ⟨⟨2, mv, st, .bool false, Lib.hid ⟨d1, to, _, rfl, by omega, HMW.out, KSt.of (kst_two HM4.out.2.2) (rfl) ((dropP_neg HG.out HF.out).symm) (by rw [b1if_neg HFN.out] <;> omega) (by rw [stif_neg HFN.out] <;> omega) (rfl)⟩, by constructor⟩, ?_⟩
          simp [intOf] <;> omega
         | true =>
          by_cases hy : y2 = -1
          ·
           have hyb : (y2 == (-1)) = true := by simpa using hy
           have HY := Lib.hid hy
           clear hy
           by_cases hx : x.fr = other
           ·
            have hxb : (x.fr == other) = true := by simpa using hx
            have HX9 := Lib.hid hx
            clear hx
            gi_upto_region 36 with fail
            clear e0 el y0 y1_ yl g0 g1 gf0 gf1 gl
            have hms9 : MS V1 (W11.setCell ⟨gd, 1, none⟩ (.int .i64 (to))) it r rn mm (left.eraseIdx i9) mn [(G4, 43, #[.int .i64 x.kind, .int .i64 x.fr, .int .i64 x.to, .int .i64 x.drops]), (gc, 87, #[.int .i64 y1, .int .i64 y2]), (gd, 87, #[.int .i64 d1, .int .i64 to])] := HMW.out.set (bs := [(G4, 43, #[.int .i64 x.kind, .int .i64 x.fr, .int .i64 x.to, .int .i64 x.drops]), (gc, 87, #[.int .i64 y1, .int .i64 y2])]) HNE.out 1 (.int .i64 (to))
            replace HMW := Lib.hid hms9
            generalize W11.setCell ⟨gd, 1, none⟩ (.int .i64 (to)) = S1 at *
            clear hms9
            gi_wp2
            refine ⟨⟨2, mv, st, .bool true, Lib.hid ⟨d1, to, _, rfl, by omega, HMW.out, KSt.of (kst_two HM4.out.2.2) (rfl) ((dropP_neg HG.out HF.out).symm) (by rw [b1if_neg HFN.out] <;> omega) (by rw [stif_neg HFN.out] <;> omega) (by rw [rightB_n1 HG.out HF.out HY.out HX9.out]; rfl)⟩, by constructor⟩, ?_⟩
            simp [intOf] <;> omega
           ·
            have hxb : (x.fr == other) = false := by simpa using hx
            have HX9 := Lib.hid hx
            clear hx
            gi_upto_region 36 with fail
            clear e0 el y0 y1_ yl g0 g1 gf0 gf1 gl
            have hms9 : MS V1 (W11.setCell ⟨gd, 1, none⟩ (.int .i64 (to))) it r rn mm (left.eraseIdx i9) mn [(G4, 43, #[.int .i64 x.kind, .int .i64 x.fr, .int .i64 x.to, .int .i64 x.drops]), (gc, 87, #[.int .i64 y1, .int .i64 y2]), (gd, 87, #[.int .i64 d1, .int .i64 to])] := HMW.out.set (bs := [(G4, 43, #[.int .i64 x.kind, .int .i64 x.fr, .int .i64 x.to, .int .i64 x.drops]), (gc, 87, #[.int .i64 y1, .int .i64 y2])]) HNE.out 1 (.int .i64 (to))
            replace HMW := Lib.hid hms9
            generalize W11.setCell ⟨gd, 1, none⟩ (.int .i64 (to)) = S1 at *
            clear hms9
            gi_wp2
            refine ⟨⟨2, mv, st, .bool false, Lib.hid ⟨d1, to, _, rfl, by omega, HMW.out, KSt.of (kst_two HM4.out.2.2) (rfl) ((dropP_neg HG.out HF.out).symm) (by rw [b1if_neg HFN.out] <;> omega) (by rw [stif_neg HFN.out] <;> omega) (by rw [rightB_n2 HG.out HF.out HY.out HX9.out]; rfl)⟩, by constructor⟩, ?_⟩
            simp [intOf] <;> omega
          ·
           have hyb : (y2 == (-1)) = false := by simpa using hy
           have HY := Lib.hid hy
           clear hy
           gi_upto_region 36 with fail
           clear e0 el y0 y1_ yl g0 g1 gf0 gf1 gl
           have hms9 : MS V1 (W11.setCell ⟨gd, 1, none⟩ (.int .i64 (to))) it r rn mm (left.eraseIdx i9) mn [(G4, 43, #[.int .i64 x.kind, .int .i64 x.fr, .int .i64 x.to, .int .i64 x.drops]), (gc, 87, #[.int .i64 y1, .int .i64 y2]), (gd, 87, #[.int .i64 d1, .int .i64 to])] := HMW.out.set (bs := [(G4, 43, #[.int .i64 x.kind, .int .i64 x.fr, .int .i64 x.to, .int .i64 x.drops]), (gc, 87, #[.int .i64 y1, .int .i64 y2])]) HNE.out 1 (.int .i64 (to))
           replace HMW := Lib.hid hms9
           generalize W11.setCell ⟨gd, 1, none⟩ (.int .i64 (to)) = S1 at *
           clear hms9
           gi_wp2
           refine ⟨⟨2, mv, st, .bool false, Lib.hid ⟨d1, to, _, rfl, by omega, HMW.out, KSt.of (kst_two HM4.out.2.2) (rfl) ((dropP_neg HG.out HF.out).symm) (by rw [b1if_neg HFN.out] <;> omega) (by rw [stif_neg HFN.out] <;> omega) (by rw [rightB_n0 HG.out HF.out HY.out]; rfl)⟩, by constructor⟩, ?_⟩
           simp [intOf] <;> omega
        ·
         have hfb : decide (fr < 0) = false := decide_eq_false hf
         have hfp : 0 ≤ fr := by omega
         have hfc : decide (0 ≤ fr) = true := decide_eq_true hfp
         have HF := Lib.hid hfp
         have HFN := Lib.hid hfp
         cases rb with
         | false =>
          gi_upto_region 31 with fail
          clear e0 el y0 y1_ yl g0 g1 gf0 gf1 gl
          have hms9 : MS V1 (W11.setCell ⟨gd, 1, none⟩ (.int .i64 (to))) it r rn mm (left.eraseIdx i9) mn [(G4, 43, #[.int .i64 x.kind, .int .i64 x.fr, .int .i64 x.to, .int .i64 x.drops]), (gc, 87, #[.int .i64 y1, .int .i64 y2]), (gd, 87, #[.int .i64 d1, .int .i64 to])] := HMW.out.set (bs := [(G4, 43, #[.int .i64 x.kind, .int .i64 x.fr, .int .i64 x.to, .int .i64 x.drops]), (gc, 87, #[.int .i64 y1, .int .i64 y2])]) HNE.out 1 (.int .i64 (to))
          replace HMW := Lib.hid hms9
          generalize W11.setCell ⟨gd, 1, none⟩ (.int .i64 (to)) = S1 at *
          clear hms9
          by_cases ht : to < 0
          ·
           have htb : decide (to < 0) = true := decide_eq_true ht
           have HT9 := Lib.hid ht
           have gf := (HMW.out.lay.blk 2 rfl).frozen 1
           have gc_ := (HMW.out.lay.blk 2 rfl).cell 1
           have gl := (HMW.out.lay.blk 2 rfl).lt
           gi_upto_region 33 with fail
           clear gf gc_ gl
           have hms9 : MS V1 (S1.setCell ⟨gd, 1, none⟩ (.int .i64 (-2))) it r rn mm (left.eraseIdx i9) mn [(G4, 43, #[.int .i64 x.kind, .int .i64 x.fr, .int .i64 x.to, .int .i64 x.drops]), (gc, 87, #[.int .i64 y1, .int .i64 y2]), (gd, 87, #[.int .i64 d1, .int .i64 (-2)])] := HMW.out.set (bs := [(G4, 43, #[.int .i64 x.kind, .int .i64 x.fr, .int .i64 x.to, .int .i64 x.drops]), (gc, 87, #[.int .i64 y1, .int .i64 y2])]) HNE.out 1 (.int .i64 (-2))
           replace HMW := Lib.hid hms9
           generalize S1.setCell ⟨gd, 1, none⟩ (.int .i64 (-2)) = S2 at *
           clear hms9
           gi_wp2
           refine ⟨⟨2, (mv + 1), st, .bool false, Lib.hid ⟨d1, (-2), _, rfl, by omega, HMW.out, KSt.of (kst_two HM4.out.2.2) (rfl) ((dropP_gone HG.out HF.out HT9.out).symm) (by rw [b1if_t HG.out HF.out] <;> omega) (by rw [stif_t HG.out] <;> omega) (rfl)⟩, by constructor⟩, ?_⟩
           simp [intOf] <;> omega
          ·
           have htb : decide (to < 0) = false := decide_eq_false ht
           have HT9 : Hid (0 ≤ to) := Lib.hid (by omega)
           gi_wp2
           refine ⟨⟨2, (mv + 1), st, .bool false, Lib.hid ⟨d1, to, _, rfl, by omega, HMW.out, KSt.of (kst_two HM4.out.2.2) (rfl) ((dropP_pos HG.out HF.out HT9.out).symm) (by rw [b1if_t HG.out HF.out] <;> omega) (by rw [stif_t HG.out] <;> omega) (rfl)⟩, by constructor⟩, ?_⟩
           simp [intOf] <;> omega
         | true =>
          by_cases hy : y2 = fr
          ·
           have hyb : (y2 == fr) = true := by simpa using hy
           have HY := Lib.hid hy
           clear hy
           gi_upto_region 31 with fail
           clear e0 el y0 y1_ yl g0 g1 gf0 gf1 gl
           have hms9 : MS V1 (W11.setCell ⟨gd, 1, none⟩ (.int .i64 (to))) it r rn mm (left.eraseIdx i9) mn [(G4, 43, #[.int .i64 x.kind, .int .i64 x.fr, .int .i64 x.to, .int .i64 x.drops]), (gc, 87, #[.int .i64 y1, .int .i64 y2]), (gd, 87, #[.int .i64 d1, .int .i64 to])] := HMW.out.set (bs := [(G4, 43, #[.int .i64 x.kind, .int .i64 x.fr, .int .i64 x.to, .int .i64 x.drops]), (gc, 87, #[.int .i64 y1, .int .i64 y2])]) HNE.out 1 (.int .i64 (to))
           replace HMW := Lib.hid hms9
           generalize W11.setCell ⟨gd, 1, none⟩ (.int .i64 (to)) = S1 at *
           clear hms9
           by_cases ht : to < 0
           ·
            have htb : decide (to < 0) = true := decide_eq_true ht
            have HT9 := Lib.hid ht
            have gf := (HMW.out.lay.blk 2 rfl).frozen 1
            have gc_ := (HMW.out.lay.blk 2 rfl).cell 1
            have gl := (HMW.out.lay.blk 2 rfl).lt
            gi_upto_region 33 with fail
            clear gf gc_ gl
            have hms9 : MS V1 (S1.setCell ⟨gd, 1, none⟩ (.int .i64 (-2))) it r rn mm (left.eraseIdx i9) mn [(G4, 43, #[.int .i64 x.kind, .int .i64 x.fr, .int .i64 x.to, .int .i64 x.drops]), (gc, 87, #[.int .i64 y1, .int .i64 y2]), (gd, 87, #[.int .i64 d1, .int .i64 (-2)])] := HMW.out.set (bs := [(G4, 43, #[.int .i64 x.kind, .int .i64 x.fr, .int .i64 x.to, .int .i64 x.drops]), (gc, 87, #[.int .i64 y1, .int .i64 y2])]) HNE.out 1 (.int .i64 (-2))
            replace HMW := Lib.hid hms9
            generalize S1.setCell ⟨gd, 1, none⟩ (.int .i64 (-2)) = S2 at *
            clear hms9
            gi_wp2
            refine ⟨⟨2, (mv + 1), st, .bool true, Lib.hid ⟨d1, (-2), _, rfl, by omega, HMW.out, KSt.of (kst_two HM4.out.2.2) (rfl) ((dropP_gone HG.out HF.out HT9.out).symm) (by rw [b1if_t HG.out HF.out] <;> omega) (by rw [stif_t HG.out] <;> omega) (by rw [rightB_p1 HG.out HFN.out HY.out]; rfl)⟩, by constructor⟩, ?_⟩
            simp [intOf] <;> omega
           ·
            have htb : decide (to < 0) = false := decide_eq_false ht
            have HT9 : Hid (0 ≤ to) := Lib.hid (by omega)
            gi_wp2
            refine ⟨⟨2, (mv + 1), st, .bool true, Lib.hid ⟨d1, to, _, rfl, by omega, HMW.out, KSt.of (kst_two HM4.out.2.2) (rfl) ((dropP_pos HG.out HF.out HT9.out).symm) (by rw [b1if_t HG.out HF.out] <;> omega) (by rw [stif_t HG.out] <;> omega) (by rw [rightB_p1 HG.out HFN.out HY.out]; rfl)⟩, by constructor⟩, ?_⟩
            simp [intOf] <;> omega
          ·
           have hyb : (y2 == fr) = false := by simpa using hy
           have HY := Lib.hid hy
           clear hy
           gi_upto_region 31 with fail
           clear e0 el y0 y1_ yl g0 g1 gf0 gf1 gl
           have hms9 : MS V1 (W11.setCell ⟨gd, 1, none⟩ (.int .i64 (to))) it r rn mm (left.eraseIdx i9) mn [(G4, 43, #[.int .i64 x.kind, .int .i64 x.fr, .int .i64 x.to, .int .i64 x.drops]), (gc, 87, #[.int .i64 y1, .int .i64 y2]), (gd, 87, #[.int .i64 d1, .int .i64 to])] := HMW.out.set (bs := [(G4, 43, #[.int .i64 x.kind, .int .i64 x.fr, .int .i64 x.to, .int .i64 x.drops]), (gc, 87, #[.int .i64 y1, .int .i64 y2])]) HNE.out 1 (.int .i64 (to))
           replace HMW := Lib.hid hms9
           generalize W11.setCell ⟨gd, 1, none⟩ (.int .i64 (to)) = S1 at *
           clear hms9
           by_cases ht : to < 0
           ·
            have htb : decide (to < 0) = true := decide_eq_true ht
            have HT9 := Lib.hid ht
            have gf := (HMW.out.lay.blk 2 rfl).frozen 1
            have gc_ := (HMW.out.lay.blk 2 rfl).cell 1
            have gl := (HMW.out.lay.blk 2 rfl).lt
            gi_upto_region 33 with fail
            clear gf gc_ gl
            have hms9 : MS V1 (S1.setCell ⟨gd, 1, none⟩ (.int .i64 (-2))) it r rn mm (left.eraseIdx i9) mn [(G4, 43, #[.int .i64 x.kind, .int .i64 x.fr, .int .i64 x.to, .int .i64 x.drops]), (gc, 87, #[.int .i64 y1, .int .i64 y2]), (gd, 87, #[.int .i64 d1, .int .i64 (-2)])] := HMW.out.set (bs := [(G4, 43, #[.int .i64 x.kind, .int .i64 x.fr, .int .i64 x.to, .int .i64 x.drops]), (gc, 87, #[.int .i64 y1, .int .i64 y2])]) HNE.out 1 (.int .i64 (-2))
            replace HMW := Lib.hid hms9
            generalize S1.setCell ⟨gd, 1, none⟩ (.int .i64 (-2)) = S2 at *
            clear hms9
            gi_wp2
            refine ⟨⟨2, (mv + 1), st, .bool false, Lib.hid ⟨d1, (-2), _, rfl, by omega, HMW.out, KSt.of (kst_two HM4.out.2.2) (rfl) ((dropP_gone HG.out HF.out HT9.out).symm) (by rw [b1if_t HG.out HF.out] <;> omega) (by rw [stif_t HG.out] <;> omega) (by rw [rightB_p0 HG.out HFN.out HY.out]; rfl)⟩, by constructor⟩, ?_⟩
            simp [intOf] <;> omega
           ·
            have htb : decide (to < 0) = false := decide_eq_false ht
            have HT9 : Hid (0 ≤ to) := Lib.hid (by omega)
            gi_wp2
            refine ⟨⟨2, (mv + 1), st, .bool false, Lib.hid ⟨d1, to, _, rfl, by omega, HMW.out, KSt.of (kst_two HM4.out.2.2) (rfl) ((dropP_pos HG.out HF.out HT9.out).symm) (by rw [b1if_t HG.out HF.out] <;> omega) (by rw [stif_t HG.out] <;> omega) (by rw [rightB_p0 HG.out HFN.out HY.out]; rfl)⟩, by constructor⟩, ?_⟩
            simp [intOf] <;> omega
       | false =>
        by_cases hf : fr < 0
        ·
         have hfb : decide (fr < 0) = true := decide_eq_true hf
         have hfc : decide (0 ≤ fr) = false := decide_eq_false (by omega)
         have HF := Lib.hid hf
         have HFN := Lib.hid hf
         gi_wp2
         refine ⟨⟨2, mv, st, .bool rb, Lib.hid ⟨d1, y2, _, rfl, by omega, HMW.out, KSt.of (kst_two HM4.out.2.2) (rfl) ((dropP_stay HG.out).symm) (by rw [b1if_f HG.out] <;> omega) (by rw [stif_neg HFN.out] <;> omega) ((show (rb && rightB fr x.fr other y2 (gB sv).2) = rb from by rw [rightB_s HG.out, Bool.and_true]).symm)⟩, by constructor⟩, ?_⟩
         simp [intOf] <;> omega
        ·
         have hfb : decide (fr < 0) = false := decide_eq_false hf
         have hfp : 0 ≤ fr := by omega
         have hfc : decide (0 ≤ fr) = true := decide_eq_true hfp
         have HF := Lib.hid hfp
         have HFN := Lib.hid hfp
         by_cases hy : y2 = fr
         ·
          have hyb : (y2 == fr) = true := by simpa using hy
          have HY := Lib.hid hy
          clear hy
          gi_wp2
          refine ⟨⟨2, mv, (st + 1), .bool rb, Lib.hid ⟨d1, y2, _, rfl, by omega, HMW.out, KSt.of (kst_two HM4.out.2.2) (rfl) ((dropP_stay HG.out).symm) (by rw [b1if_f HG.out] <;> omega) (by rw [stif_1 HG.out HF.out HY.out] <;> omega) ((show (rb && rightB fr x.fr other y2 (gB sv).2) = rb from by rw [rightB_s HG.out, Bool.and_true]).symm)⟩, by constructor⟩, ?_⟩
          simp [intOf] <;> omega
         ·
          have hyb : (y2 == fr) = false := by simpa using hy
          have HY := Lib.hid hy
          clear hy
          gi_wp2
          refine ⟨⟨2, mv, st, .bool rb, Lib.hid ⟨d1, y2, _, rfl, by omega, HMW.out, KSt.of (kst_two HM4.out.2.2) (rfl) ((dropP_stay HG.out).symm) (by rw [b1if_f HG.out] <;> omega) (by rw [stif_0 HG.out HF.out HY.out] <;> omega) ((show (rb && rightB fr x.fr other y2 (gB sv).2) = rb from by rw [rightB_s HG.out, Bool.and_true]).symm)⟩, by constructor⟩, ?_⟩
          simp [intOf] <;> omega
      ·
       have hkst := HM4.out.2.2
       unfold KSt at hkst
       simp only [show (0 : Nat) < 2 from by decide, show (1 : Nat) < 2 from by decide, if_true, true_and] at hkst
       obtain ⟨rfl, rfl, kmv, kst, krb⟩ := hkst
       obtain ⟨gg, hgg⟩ : ∃ g, gB sv = g := ⟨_, rfl⟩
       have HGG := Lib.hid hgg
       have KMV := Lib.hid kmv
       have KST := Lib.hid kst
       have KRB := Lib.hid krb
       have hn0 : 0 ≤ n := by have h := HAT.out.size.1; rw [HN.out] at h; exact h
       have HN0 := Lib.hid hn0
       have hmb : 0 ≤ mv ∧ mv ≤ 2 := by rw [kmv]; have h1 := b1_bd (gB sv).1; have h2 := b1_bd (gB sv).2; constructor <;> (repeat' split) <;> omega
       have hsb : 0 ≤ st ∧ st ≤ 2 := by rw [kst]; have h1 := b1_bd (!(gB sv).1 && decide (y1 = fr)); have h2 := b1_bd (!(gB sv).2 && decide (y2 = fr)); constructor <;> (repeat' split) <;> omega
       clear kmv kst krb hgg hn0
       have HSTB : Hid (stepB fr to n al x.fr one other (y1, y2) (gB sv) = (rb && (decide (fr < 0) || (decide (mv ≤ n) && decide (st ≤ al - n))))) := Lib.hid (by
        rw [KRB.out]
        unfold stepB
        by_cases hf : fr < 0
        ·simp [hf]
        ·have hf0 : 0 ≤ fr := by omega
         rw [KMV.out, KST.out]
         simp [hf, hf0])
       cases rb with
       | false =>
        have HNO : Hid (stepB fr to n al x.fr one other (y1, y2) (gB sv) = false) := Lib.hid (by rw [HSTB.out]; rfl)
        gi_wp2
        refine ⟨⟨sv + 1, Lib.hid ⟨mn, hsv, HM4.out.2.1.sub (by intro b hb; simp only [List.mem_cons, List.not_mem_nil, or_false] at hb ⊢; rcases hb with rfl | rfl <;> simp), HM3.out.2.2.congr fun d => by rw [setP_succ]; exact or_congr Iff.rfl ⟨.inl, fun h => h.resolve_right fun h => by rw [HNO.out] at h; cases h.1⟩⟩, by rw [show ((sv + 1 : Nat) : Int) = (sv : Int) + 1 from by omega]; constructor⟩, ?_⟩
        simp [intOf] <;> omega
       | true =>
        by_cases hm : mv ≤ n
        ·
         have hmbb : decide (mv ≤ n) = true := decide_eq_true hm
         by_cases hf : fr < 0
         ·
          have hfb : decide (fr < 0) = true := decide_eq_true hf
          have HOKS : Hid (stepB fr to n al x.fr one other (y1, y2) (gB sv) = true) := Lib.hid (by rw [HSTB.out]; simp [hf])
          have hoy : okC (y1, y2) := HM2.out.1.iter.map.ok _ HYM.out
          have hoc : okC (dropP fr to y1 (gB sv).1, dropP fr to y2 (gB sv).2) := ⟨okZ_drop (by rw [← HTO.out]; exact toI_bd HOK.out.vess x) hoy.1, okZ_drop (by rw [← HTO.out]; exact toI_bd HOK.out.vess x) hoy.2⟩
          obtain ⟨w5, hup, hm5, hg5, hs5⟩ := HM4.out.2.1.map.update (P := Tryd.prog) cpTy hoc true
          replace hup : (Instr.mapUpdate 88 (.map (some rn)) (.agg #[.int .i64 (dropP fr to y1 (gB sv).1), .int .i64 (dropP fr to y2 (gB sv).2)]) (.bool true)).run Tryd.prog W11 = .ok () w5 := hup
          have HMU := Lib.hid (HM4.out.2.1.upd hm5 hg5)
          clear hoy hoc hm5 hg5 hs5
          have g0 := (HM4.out.2.1.lay.blk 2 rfl).cell 0
          have g1 := (HM4.out.2.1.lay.blk 2 rfl).cell 1
          have gl := (HM4.out.2.1.lay.blk 2 rfl).lt
          gi_wp2
          clear hup g0 g1 gl
          refine ⟨⟨sv + 1, Lib.hid ⟨_, hsv, HMU.out.sub (by intro b hb; simp only [List.mem_cons, List.not_mem_nil, or_false] at hb ⊢; rcases hb with rfl | rfl <;> simp), (HM3.out.2.2.put _).congr fun d => by rw [setP_succ, or_assoc, and_iff_right HOKS.out]⟩, by rw [show ((sv + 1 : Nat) : Int) = (sv : Int) + 1 from by omega]; constructor⟩, ?_⟩
          simp [intOf] <;> omega
         ·
          have hfb : decide (fr < 0) = false := decide_eq_false hf
          have hfq := fromI_small HOK.out.vess x
          rw [HFR.out] at hfq
          obtain ⟨fq, rfl⟩ : ∃ fq : Nat, fr = (fq : Int) := ⟨fr.toNat, by omega⟩
          have hfq4 : fq < 4 := by omega
          have HTW := Lib.hid (HTB.out.below HM4.out.2.1.lay.1)
          have hil : i < T.nl := by
           have h1 := recs_n heldC_k (by omega) HTW.out.all
           have h2 := HOK.out.long
           have h3 := (List.getElem?_eq_some_iff.1 HX.out).1
           omega
          obtain ⟨bl, ol, all9, e1, e2, e3, e4⟩ := recs_cell heldC_k (by omega) HTW.out.all hil
          obtain rfl : all = all9 := Option.some.inj (HAT.out.ha.symm.trans e3)
          have ch := e4 fq _ (heldC_l all hfq4)
          rw [HAL.out] at ch
          have t4 := HTW.out.blk.cell 4
          have tl := HTW.out.blk.lt
          have hnl : T.nl ≤ 13 := HTW.out.small.2.2.2
          unfold Tb.cells at t4
          change _ = some (Value.slice T.AA T.nl T.cl) at t4
          rw [e1] at t4
          have halb := HAT.out.rng fq
          rw [HAL.out] at halb
          have hnb := HAT.out.size
          rw [HN.out] at hnb
          by_cases hs : st ≤ al - n
          ·
           have hsb2 : decide (st ≤ al - n) = true := decide_eq_true hs
           have HOKS : Hid (stepB (fq : Int) to n al x.fr one other (y1, y2) (gB sv) = true) := Lib.hid (by rw [HSTB.out]; simp [hm, hs])
           have hoy : okC (y1, y2) := HM2.out.1.iter.map.ok _ HYM.out
           have hoc : okC (dropP (fq : Int) to y1 (gB sv).1, dropP (fq : Int) to y2 (gB sv).2) := ⟨okZ_drop (by rw [← HTO.out]; exact toI_bd HOK.out.vess x) hoy.1, okZ_drop (by rw [← HTO.out]; exact toI_bd HOK.out.vess x) hoy.2⟩
           obtain ⟨w5, hup, hm5, hg5, hs5⟩ := HM4.out.2.1.map.update (P := Tryd.prog) cpTy hoc true
           replace hup : (Instr.mapUpdate 88 (.map (some rn)) (.agg #[.int .i64 (dropP (fq : Int) to y1 (gB sv).1), .int .i64 (dropP (fq : Int) to y2 (gB sv).2)]) (.bool true)).run Tryd.prog W11 = .ok () w5 := hup
           have HMU := Lib.hid (HM4.out.2.1.upd hm5 hg5)
           clear hoy hoc hm5 hg5 hs5
           have g0 := (HM4.out.2.1.lay.blk 2 rfl).cell 0
           have g1 := (HM4.out.2.1.lay.blk 2 rfl).cell 1
           have gl := (HM4.out.2.1.lay.blk 2 rfl).lt
           gi_wp2
           clear hup g0 g1 gl
           refine ⟨⟨sv + 1, Lib.hid ⟨_, hsv, HMU.out.sub (by intro b hb; simp only [List.mem_cons, List.not_mem_nil, or_false] at hb ⊢; rcases hb with rfl | rfl <;> simp), (HM3.out.2.2.put _).congr fun d => by rw [setP_succ, or_assoc, and_iff_right HOKS.out]⟩, by rw [show ((sv + 1 : Nat) : Int) = (sv : Int) + 1 from by omega]; constructor⟩, ?_⟩
           simp [intOf] <;> omega
          ·
           have hsb2 : decide (st ≤ al - n) = false := decide_eq_false hs
           have HNO : Hid (stepB (fq : Int) to n al x.fr one other (y1, y2) (gB sv) = false) := Lib.hid (by rw [HSTB.out]; simp [hs])
           gi_wp2
           refine ⟨⟨sv + 1, Lib.hid ⟨mn, hsv, HM4.out.2.1.sub (by intro b hb; simp only [List.mem_cons, List.not_mem_nil, or_false] at hb ⊢; rcases hb with rfl | rfl <;> simp), HM3.out.2.2.congr fun d => by rw [setP_succ]; exact or_congr Iff.rfl ⟨.inl, fun h => h.resolve_right fun h => by rw [HNO.out] at h; cases h.1⟩⟩, by rw [show ((sv + 1 : Nat) : Int) = (sv : Int) + 1 from by omega]; constructor⟩, ?_⟩
           simp [intOf] <;> omega
        ·
         have hmbb : decide (mv ≤ n) = false := decide_eq_false hm
         have HNO : Hid (stepB fr to n al x.fr one other (y1, y2) (gB sv) = false) := Lib.hid (by
          rw [HSTB.out]
          by_cases hf : fr < 0
          ·have h1 := KMV.out
           have hf0 : ¬ 0 ≤ fr := by omega
           simp [hf0] at h1
           have h2 := HN0.out
           omega
          ·simp [hf, hm])
         gi_wp2
         refine ⟨⟨sv + 1, Lib.hid ⟨mn, hsv, HM4.out.2.1.sub (by intro b hb; simp only [List.mem_cons, List.not_mem_nil, or_false] at hb ⊢; rcases hb with rfl | rfl <;> simp), HM3.out.2.2.congr fun d => by rw [setP_succ]; exact or_congr Iff.rfl ⟨.inl, fun h => h.resolve_right fun h => by rw [HNO.out] at h; cases h.1⟩⟩, by rw [show ((sv + 1 : Nat) : Int) = (sv : Int) + 1 from by omega]; constructor⟩, ?_⟩
         simp [intOf] <;> omega
     ·
      obtain rfl : sv = 4 := by have := HM3.out.1; omega
      gi_wp2
      refine ⟨⟨Lib.hid ⟨left.eraseIdx i9, mn, HM3.out.2.1.sub (by intro b hb; simp only [List.mem_cons, List.not_mem_nil, or_false] at hb ⊢; rcases hb with rfl; simp), left_nodup HM2.out.2.1, fun p hp => HM2.out.2.2.1 p (List.mem_of_mem_eraseIdx hp), HM3.out.2.2.congr fun d => by rw [goneP_step HM2.out.2.1 HP.out HYM.out, setP_four]⟩, by constructor⟩, ?_⟩
      rw [HM3.out.2.1.iter.left_eq, HM2.out.1.iter.left_eq]
      have h5 := (List.getElem?_eq_some_iff.1 HP.out).1
      rw [List.length_eraseIdx_of_lt h5]
      omega
   ·
    obtain rfl : k = i := by have := HS.out.1; omega
    have HLay := Lib.hid (HBS0.out.below HS.out.2.1)
    have hoq : okC ((q : Int), (q : Int)) := ⟨okZ_of (by omega) (by have := HQ.out.1; omega), okZ_of (by omega) (by have := HQ.out.1; omega)⟩
    obtain ⟨bt, hbt, hlk⟩ : ∃ bt : Bool, (bt = true ↔ NowP m T.L one other k ((q : Int), (q : Int))) ∧ (Instr.lookup 88 (.map (some r)) (.agg #[.int .i64 (q : Int), .int .i64 (q : Int)]) false).run Tryd.prog W = .ok (.bool bt) W := by
     have h5 := HS.out.2.2.1.lookup (P := Tryd.prog) cpTy hoq false
     by_cases ht : NowP m T.L one other k ((q : Int), (q : Int))
     ·refine ⟨true, by simp [ht], ?_⟩
      rw [HS.out.2.2.2.2.look_some ht] at h5
      exact h5
     ·refine ⟨false, by simp [ht], ?_⟩
      rw [HS.out.2.2.2.2.look_none ht] at h5
      exact h5
    have HBT := Lib.hid hbt
    clear hoq hbt
    have s0_ := (HLay.out.blk 1 rfl).cell 0
    have s1_ := (HLay.out.blk 1 rfl).lt
    gi_wp2
    refine bodyPost_ret (v := .tuple #[.bool bt, .int .i64 0]) (by simp [results, Tryd.results13, go_sem]) rfl ?_
    exact ⟨bt, 0, rfl, .inr ⟨by unfold metM; rw [if_pos HEE.out, if_neg HOO.out], rfl, T.L, HTL.out, by rw [HBT.out, ← HQ.out.2.1, Int.toNat_natCast]⟩, HLay.out.1⟩
 ·
  have h0b : (ee != 0) = true := by simpa using h0
  have H0 := Lib.hid h0
  clear h0
  gi_wp2
  refine bodyPost_ret (v := .tuple #[.bool false, .int .i64 ee]) (by simp [results, Tryd.results13, go_sem]) rfl ?_
  have hm9 : metM m vessel after one other = ee := by unfold metM; rw [if_neg (by rw [HEE.out]; exact H0.out), HEE.out]
  exact ⟨false, ee, rfl, .inl ⟨by rw [hm9]; exact H0.out, rfl, hm9.symm⟩, HLay.out.1⟩

end Go.Proofs.YtjdgdeiedkickaaDoor.Mx
/- How much of a fountain an act moves: mix.Moved. -/
namespace Go.Proofs.YtjdgdeiedkickaaDoor.Mx
open Go.RowKit
attribute [local go_sem] Oper.semAt_some

/-- A growth: what lay below n₀ stays, and all cells but a collector's. -/
def UpK (n₀ : Nat) (A C : World) : Prop := (n₀ ≤ A.heap.size → Below n₀ A C ∧ KeepsT A C) ∧ A.heap.size ≤ C.heap.size
instance upk_grows (n₀ : Nat) : Gr.Grows (UpK n₀) where
 refl := fun W => ⟨fun _ => ⟨Below.refl _ _, fun _ _ _ _ _ _ h => h⟩, Nat.le_refl _⟩
 trans := fun h k => ⟨fun hn => ⟨(h.1 hn).1.trans (k.1 (Nat.le_trans hn h.2)).1, fun b cs t fr h1 h2 h3 => (k.1 (Nat.le_trans hn h.2)).2 b cs t fr h1 h2 ((h.1 hn).2 b cs t fr h1 h2 h3)⟩, Nat.le_trans h.2 k.2⟩
 below := fun h => ⟨fun hn => ⟨h.mono hn, keepsT_below h⟩, h.size⟩
 size := fun h => h.2
theorem can_small' {m : Mix} {f : Int} {T : Tb} {k r : Nat} {W : World} {mk : List (D4 × Bool)} (hTm : T.m = m) (hok : TbOk T) (hk : k ≤ m.acts.length) (hm : CanMap W r mk) (hc : CanIs mk (Truth m f T.L k)) : mk.length ≤ 28561 := by
 subst hTm
 have hL : k < T.L.length := by have := hok.long; omega
 have hr := allM_range hok.all hok.vess (okMix_ves hok.ok) (List.getElem?_eq_getElem hL)
 exact can_len (MapIs.nodup canTy hm) (fun p hp => by
  have h1 := (hc.keys p.1).1 ⟨p.2, hp⟩
  have h2 := h1.fits hok.all hok.vess (List.getElem?_eq_getElem hL)
  have a0 := h2.le 0 (by decide)
  have a1 := h2.le 1 (by decide)
  have a2 := h2.le 2 (by decide)
  have a3 := h2.le 3 (by decide)
  have b0 := hr.2 0
  have b1 := hr.2 1
  have b2 := hr.2 2
  have b3 := hr.2 3
  have e0 : heldAt p.1.toH (0 : Nat) = p.1.a := rfl
  have e1 : heldAt p.1.toH (1 : Nat) = p.1.b := rfl
  have e2 : heldAt p.1.toH (2 : Nat) = p.1.c := rfl
  have e3 : heldAt p.1.toH (3 : Nat) = p.1.d := rfl
  omega)
end Go.Proofs.YtjdgdeiedkickaaDoor.Mx
