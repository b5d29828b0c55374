/- Part 4 of the texts of this claim, joined. -/
import Derived.Sort.CutIn
import Derived.Lib.Meet
import Derived.Maps.RangeWalk
import Derived.Maps.OwnIn
import Derived.Test.YtjdgdeiedkickaaDoorTwT3
set_option linter.unusedVariables false
/- An act more. -/
namespace Go.Proofs.YtjdgdeiedkickaaDoor.Mx
open Go.RowKit

theorem info_drops : (Tryd.prog.info? 74).map (fun i => (i.zero, i.size, i.bytes)) = some (some (.agg #[.int .i64 0, .int .i64 0, .int .i64 0, .int .i64 0]), 4, 32) := by kernel_rfl
theorem elem_drops : ElemAt Tryd.prog 75 74 (.agg #[.int .i64 0, .int .i64 0, .int .i64 0, .int .i64 0]) 4 32 := by
 obtain ⟨i0, hi, hz0, hz1, hz2⟩ := info_parts info_drops
 exact ⟨i0, Tryd.underlying75, hi, hz0, hz1, hz2, rfl, by decide⟩
theorem held_one (s : Held) : ∀ u ∈ heldC s, u.oneCell' = true := by
 intro u hu
 simp only [heldC, List.mem_cons, List.not_mem_nil, or_false] at hu
 rcases hu with rfl | rfl | rfl | rfl <;> rfl
theorem reads_new (w : World) (t : TypeId) {k n : Nat} (xs : List Value) (hn : xs.length = n * k) : Reads (w.alloc (.cells xs.toArray t)) (w.alloc (.cells xs.toArray t)).heap.size k (some ⟨w.heap.size, 0, none⟩) n xs := by
 have h := Blk.new w t xs.toArray
 refine ⟨hn, fun _ => ⟨_, rfl, h.lt, fun j u hu => ?_⟩⟩
 have ha : ((⟨w.heap.size, 0, none⟩ : Addr).add j) = ⟨w.heap.size, j, none⟩ := by
  unfold Addr.add
  by_cases hj : j = 0
  ·subst hj; simp
  ·simp [hj]
 rw [ha, h.cell]
 simpa using hu
/-- The table while it is made. -/
structure TbOwn (w : World) (B : Nat) (T : Tb) : Prop where
 blk : Blk w T.g 77 T.cells
 mix : MixAt w B T.Av T.nv T.Aa T.na T.At T.nt T.m
 own : Own w B 74 4 T.AA T.nl T.cl (T.L.flatMap heldC)
 ne : ∀ a, T.AA = some a → T.g ≠ a.block
 le : B ≤ w.heap.size ∧ B ≤ T.g
 small : T.nv ≤ 4 ∧ T.na ≤ 12 ∧ T.nt ≤ 8 ∧ T.nl ≤ 13
theorem TbOwn.at_ {w : World} {B : Nat} {T : Tb} (h : TbOwn w B T) : TbAt w T := ⟨h.blk, h.mix.more h.le.1, h.own.reads (Nat.le_refl _), h.small⟩
theorem TbOwn.below {w w' : World} {B : Nat} {T : Tb} (h : TbOwn w B T) (hb : Below w.heap.size w w') : TbOwn w' B T :=
 ⟨h.blk.below hb h.blk.lt, h.mix.below (hb.mono h.le.1), h.own.below hb (Nat.le_refl _), h.ne, ⟨Nat.le_trans h.le.1 hb.size, h.le.2⟩, h.small⟩
theorem ne_row {g : Nat} {A : Option Addr} (h : ∀ a, A = some a → g ≠ a.block) : some g ≠ A.map (·.block) := by
 cases A with
 | none => simp
 | some a =>
  have := h a rfl
  simpa using this
def Tb.plus (T : Tb) (A : Option Addr) (c : Nat) (s : Held) : Tb := { T with AA := A, nl := T.nl + 1, cl := c, L := T.L ++ [s] }
theorem act_below {w W V W3 : World} {B : Nat} {T : Tb} {v : Value} (h : TbOwn w B T) (hb : Below w.heap.size w W) (hg : W.grownBy V (T.AA.map (·.block))) (hb3 : Below V.heap.size V W3) : Below B w (W3.setCell ⟨T.g, 4, none⟩ v) := by
 have hrow : ∀ k, T.AA.map (·.block) = some k → B ≤ k := by
  intro k hk
  cases hA : T.AA with
  | none => rw [hA] at hk; cases hk
  | some a => rw [hA] at hk; cases hk; exact (h.own.lt hA).1
 have h1 : Below B w W := hb.mono h.le.1
 have h2 : Below B w V := h1.grown hg (Nat.le_trans h.le.1 hb.size) hrow
 exact (h2.trans (hb3.mono (Nat.le_trans h.le.1 (Nat.le_trans hb.size hg.size)))).setCell (p := ⟨T.g, 4, none⟩) h.le.2 _
theorem act_own {w W V W3 : World} {B c9 : Nat} {T : Tb} {A9 : Option Addr} {s2 : Held} (h : TbOwn w B T) (hb : Below w.heap.size w W) (hg : W.grownBy V (T.AA.map (·.block))) (hb3 : Below V.heap.size V W3)
  (hown : Own V B 74 4 A9 (T.nl + 1) c9 (T.L.flatMap heldC ++ heldC s2)) (hA : A9 = T.AA ∨ A9 = some ⟨W.heap.size, 0, none⟩) (hbk : Blk W3 T.g 77 T.cells) (hn : T.nl ≤ 12) : TbOwn (W3.setCell ⟨T.g, 4, none⟩ (.slice A9 (T.nl + 1) c9)) B (T.plus A9 c9 s2) := by
 have hbel := act_below (v := .slice A9 (T.nl + 1) c9) h hb hg hb3
 have hne : ∀ a, A9 = some a → T.g ≠ a.block := by
  intro a ha
  rcases hA with e | e
  ·exact h.ne a (by rw [← e]; exact ha)
  ·rw [e] at ha
   cases ha
   have := (h.blk.below hb h.blk.lt).lt
   have := h.blk.lt
   have := hb.size
   dsimp only
   omega
 refine ⟨?_, h.mix.below hbel, ?_, hne, ⟨?_, h.le.2⟩, ⟨h.small.1, h.small.2.1, h.small.2.2.1, by show T.nl + 1 ≤ 13; omega⟩⟩
 ·exact hbk.set_ 4 _
 ·have := (hown.below hb3 (Nat.le_refl _))
  have e : (T.L ++ [s2]).flatMap heldC = T.L.flatMap heldC ++ heldC s2 := by simp
  show Own _ B _ 4 A9 (T.nl + 1) c9 ((T.L ++ [s2]).flatMap heldC)
  rw [e]
  exact this.grown (row := some T.g) (grown_setCell (grown_refl _ _) (p := ⟨T.g, 4, none⟩) (.inl rfl) _) (fun a ha e => hne a ha (Option.some.inj e).symm)
 ·have : W3.heap.size ≤ (W3.setCell ⟨T.g, 4, none⟩ (.slice A9 (T.nl + 1) c9)).heap.size := by simp [World.setCell]
  exact Nat.le_trans h.le.1 (Nat.le_trans hb.size (Nat.le_trans hg.size (Nat.le_trans hb3.size this)))
/-- All old memory stays but two blocks. -/
def Keep2 (w w' : World) (g : Nat) (row : Option Nat) : Prop := w.heap.size ≤ w'.heap.size ∧ ∀ i, i < w.heap.size → i ≠ g → some i ≠ row → w'.heap[i]? = w.heap[i]?
theorem act_keep {w W V W3 : World} {B : Nat} {T : Tb} {v : Value} (h : TbOwn w B T) (hb : Below w.heap.size w W) (hg : W.grownBy V (T.AA.map (·.block))) (hb3 : Below V.heap.size V W3) : Keep2 w (W3.setCell ⟨T.g, 4, none⟩ v) T.g (T.AA.map (·.block)) := by
 refine ⟨Nat.le_trans hb.size (Nat.le_trans hg.size (Nat.le_trans hb3.size (by simp [World.setCell]))), fun i hi hne hr => ?_⟩
 have h1 := hb.block i hi
 have h2 := hg.block i (Nat.lt_of_lt_of_le hi hb.size) hr
 have h3 := hb3.block i (Nat.lt_of_lt_of_le hi (Nat.le_trans hb.size hg.size))
 exact (Below.heap_setCell W3 ⟨T.g, 4, none⟩ v i hne).trans (h3.trans (h2.trans h1))
theorem act_fresh {w W : World} {T : Tb} {A9 : Option Addr} (hb : Below w.heap.size w W) (hA : A9 = T.AA ∨ A9 = some ⟨W.heap.size, 0, none⟩) : ∀ a, A9 = some a → A9 = T.AA ∨ w.heap.size ≤ a.block := by
 intro a ha
 rcases hA with e | e
 ·exact .inl e
 ·rw [e] at ha
  cases ha
  exact .inr hb.size
/-- What an act does: nothing, or one more. -/
def ActOut (w : World) (B : Nat) (T : Tb) (r : Bool) (s2 : Held) (e : Ending) (w' : World) : Prop :=
 (r = false ∧ e = .returned (.bool false) ∧ Below w.heap.size w w') ∨ ∃ A c, r = true ∧ e = .returned (.bool true) ∧ TbOwn w' B (T.plus A c s2) ∧ Below B w w' ∧ Keep2 w w' T.g (T.AA.map (·.block)) ∧ (∀ a, A = some a → A = T.AA ∨ w.heap.size ≤ a.block)
structure ActI (w : World) (T : Tb) (k : Nat) (x : MAct) (s0 : Held) (ba oa bl ol : Nat) (L : Nat → Bool) (gh : (Nat × Nat)) (s : Nat → Value) (W : World) : Prop where
 g1 : Below w.heap.size w W
 gA : L 15 = true → w.heap.size ≤ gh.1 ∧ gh.1 < W.heap.size ∧ (L 17 = false → Blk W gh.1 43 #[.int .i64 0, .int .i64 0, .int .i64 0, .int .i64 0]) ∧ (L 17 = true → Blk W gh.1 43 #[.int .i64 x.kind, .int .i64 x.fr, .int .i64 x.to, .int .i64 x.drops])
 gB : L 16 = true → w.heap.size ≤ gh.2 ∧ gh.2 < W.heap.size ∧ (L 18 = false → Blk W gh.2 74 #[.int .i64 0, .int .i64 0, .int .i64 0, .int .i64 0]) ∧ (L 18 = true → Blk W gh.2 74 #[.int .i64 (heldAt s0 0), .int .i64 (heldAt s0 1), .int .i64 (heldAt s0 2), .int .i64 (heldAt s0 3)])
 gN : L 15 = true → L 16 = true → gh.1 ≠ gh.2
 f0 : L 0 = true → s 9 = .pointer (some ⟨T.g, 0, none⟩)
 f1 : L 1 = true → s 10 = .pointer (some ⟨T.g, 0, none⟩)
 f2 : L 2 = true → s 11 = .pointer (some ⟨T.g, 0, none⟩)
 f3 : L 3 = true → s 12 = .pointer (some ⟨T.g, 2, none⟩)
 f4 : L 4 = true → s 13 = .slice (some ⟨ba, oa, none⟩) T.na T.ca
 f5 : L 5 = true → s 14 = .int .i64 k
 f6 : L 6 = true → s 15 = .pointer (some ⟨ba, oa + k * 4, none⟩)
 f7 : L 7 = true → s 16 = .agg #[.int .i64 x.kind, .int .i64 x.fr, .int .i64 x.to, .int .i64 x.drops]
 f8 : L 8 = true → s 17 = .pointer (some ⟨T.g, 0, none⟩)
 f9 : L 9 = true → s 18 = .pointer (some ⟨T.g, 0, none⟩)
 f10 : L 10 = true → s 19 = .pointer (some ⟨T.g, 4, none⟩)
 f11 : L 11 = true → s 20 = .slice (some ⟨bl, ol, none⟩) T.nl T.cl
 f12 : L 12 = true → s 21 = .int .i64 k
 f13 : L 13 = true → s 22 = .pointer (some ⟨bl, ol + k * 4, none⟩)
 f14 : L 14 = true → s 23 = .agg #[.int .i64 (heldAt s0 0), .int .i64 (heldAt s0 1), .int .i64 (heldAt s0 2), .int .i64 (heldAt s0 3)]
 f15 : L 15 = true → s 5 = .pointer (some ⟨gh.1, 0, none⟩)
 f16 : L 16 = true → s 6 = .pointer (some ⟨gh.2, 0, none⟩)
set_option maxRecDepth 100000 in
set_option maxHeartbeats 16000000 in
theorem act_core (B : Nat) (T : Tb) (k : Nat) (x : MAct) (s : Held) (f : FuncId) (f2 f3 : Value) (r : Bool) (w : World) (h : TbOwn w B T) (hx : T.m.acts[k]? = some x) (ha : T.L[k]? = some s) (hn : T.nl ≤ 12) (hk : KindOk x)
  (hix : ∀ z : World, (Instr.index 117 kindsV (.int .i64 x.kind)).run Tryd.prog z = .ok (.agg #[.func (.func f) #[] #[], f2, f3]) z) (hen : ∀ args W, (callFunc f args).run Tryd.prog W = .ok (.enter f args) W)
  (hfd : ∀ z : World, (Instr.field 116 (.agg #[.func (.func f) #[] #[], f2, f3]) 0).run Tryd.prog z = .ok (.func (.func f) #[] #[]) z)
  (hK : ∀ W, Below w.heap.size w W → CallsIn Fence.wide 9 Tryd.prog f #[.pointer (some ⟨T.g, 0, none⟩), .agg #[.int .i64 (heldAt s 0), .int .i64 (heldAt s 1), .int .i64 (heldAt s 2), .int .i64 (heldAt s 3)], .agg #[.int .i64 x.kind, .int .i64 x.fr, .int .i64 x.to, .int .i64 x.drops]] W fun e w' => e = .returned (.bool r) ∧ Below W.heap.size W w')
  (hs : s.length = 4 ∧ Small s 2000) (hf : r = true → 0 ≤ sizeA T.m s x ∧ sizeA T.m s x ≤ 2000 ∧ (x.kind = 4 → 0 ≤ fromI T.m x) ∧ (fromI T.m x ≠ toI T.m x ∨ fromI T.m x < 0)) :
  CallsIn Fence.wide 9 Tryd.prog 43 #[.pointer (some ⟨T.g, 0, none⟩), .int .i64 k] w (ActOut w B T r (shiftH s (fromI T.m x) (toI T.m x) (sizeA T.m s x))) := by
 have HNL := Lib.hid hn
 clear hn
 have HT := Lib.hid h
 have HA := Lib.hid h.at_
 have hka : k < T.na := by have := h.mix.lenA; have := (List.getElem?_eq_some_iff.1 hx).1; omega
 obtain ⟨ba, oa, x', hAa, hba0, hx', c0, c1, c2, c3⟩ := h.mix.act hka
 have hba : ba < w.heap.size := Nat.lt_of_lt_of_le hba0 h.le.1
 rw [hx] at hx'
 obtain rfl : x = x' := Option.some.inj hx'
 have hkl : k < T.nl := by have := recs_n heldC_k (by omega) h.at_.all; have := (List.getElem?_eq_some_iff.1 ha).1; omega
 obtain ⟨bl, ol, s', hAL, hbl, ha', cl⟩ := recs_cell heldC_k (by omega) h.at_.all hkl
 rw [ha] at ha'
 obtain rfl : s = s' := Option.some.inj ha'
 have HX := Lib.hid hx
 have HAT := Lib.hid ha
 have HC0 := Lib.hid c0
 have HC1 := Lib.hid c1
 have HC2 := Lib.hid c2
 have HC3 := Lib.hid c3
 have HCL := Lib.hid cl
 have HAA := Lib.hid hAa
 have HAL := Lib.hid hAL
 have HBA := Lib.hid hba
 have HBL := Lib.hid hbl
 have HKA := Lib.hid hka
 have HKL := Lib.hid hkl
 have HKO := Lib.hid hk
 have HF := Lib.hid hf
 have HS := Lib.hid hs
 have HIX := Lib.hid hix
 have HFD := Lib.hid hfd
 have HKK := Lib.hid hK
 have HKI : Hid (inB 1 4 [x.kind] = true) := Lib.hid (by rw [inB_one]; rcases hk with h | h | h | h <;> rw [h] <;> decide)
 clear hx hx' ha ha' c0 c1 c2 c3 cl hAa hAL hba hba0 hbl h hka hkl hk hf hs hix hfd hK
 refine callsIn_of_wp Tryd.func43 rfl trivial ?_ rfl
 simp only [Tryd.ntmps43, List.size_toArray, List.length_cons, List.length_nil, Nat.reduceAdd, Nat.reduceSub, Array.replicate_succ, Array.replicate_zero, List.push_toArray, List.append_toArray, List.nil_append, List.cons_append]
 gi_wp2
 have HLay := Lib.hid (Lay.nil w)
 gi_cut [5, 6] from 9 (fun v5 v6 wx => ∃ g5 g6, v5 = .pointer (some ⟨g5, 0, none⟩) ∧ v6 = .pointer (some ⟨g6, 0, none⟩) ∧ Hid (g5 ≠ g6 ∧ Below w.heap.size w wx ∧ w.heap.size ≤ g5 ∧ w.heap.size ≤ g6 ∧ Blk wx g5 43 #[.int .i64 x.kind, .int .i64 x.fr, .int .i64 x.to, .int .i64 x.drops] ∧ Blk wx g6 74 #[.int .i64 (heldAt s 0), .int .i64 (heldAt s 1), .int .i64 (heldAt s 2), .int .i64 (heldAt s 3)]))
 case first =>
  obtain ⟨s0, rfl⟩ : ∃ s0, s0 = s := ⟨_, rfl⟩
  clear HS HF HKK HLay
  refine wpIn_region_stepsD (by kernel_rfl) (by kernel_rfl) (fun σ : (Nat × Nat) × (Nat → Value) => { tmps := #[.pointer (some ⟨T.g, 0, none⟩), .int .i64 k, undef, undef, .bool false, σ.2 5, σ.2 6, undef, undef, σ.2 9, σ.2 10, σ.2 11, σ.2 12, σ.2 13, σ.2 14, σ.2 15, σ.2 16, σ.2 17, σ.2 18, σ.2 19, σ.2 20, σ.2 21, σ.2 22, σ.2 23, undef, undef, undef, undef, undef, undef, undef, undef, undef, undef, undef, undef, undef, undef, undef, undef, undef, undef, undef, undef, undef, undef, undef, undef, undef, undef, undef, undef, undef, undef, undef, undef, undef, undef, undef, undef, undef, undef, undef], defers := [] })
   (fun L σ W => ActI w T k x s0 ba oa bl ol L σ.1 σ.2 W) ((0, 0), fun k => undef) rfl ?_ ?_ ?_
  ·exact ⟨below_drewN (Below.refl _ _) 1, (fun h => by cases h), (fun h => by cases h), (fun h => by cases h), (fun h => by cases h), (fun h => by cases h), (fun h => by cases h), (fun h => by cases h), (fun h => by cases h), (fun h => by cases h), (fun h => by cases h), (fun h => by cases h), (fun h => by cases h), (fun h => by cases h), (fun h => by cases h), (fun h => by cases h), (fun h => by cases h), (fun h => by cases h), (fun h => by cases h), (fun h => by cases h), (fun h => by cases h)⟩
  ·refine ⟨?_, ?_, ?_, ?_, ?_, ?_, ?_, ?_, ?_, ?_, ?_, ?_, ?_, ?_, ?_, ?_, ?_, ?_, ?_, trivial⟩
   ·rintro L ⟨gh, s⟩ W hu hd hdn H K Q hK
    have HF := Lib.hid H
    clear H hd
    try simp only
    gi_wp2
    exact hK (gh, (upd s 9 (.pointer (some ⟨T.g, 0, none⟩)))) _ { HF.out with f0 := fun _ => rfl }
   ·rintro L ⟨gh, s⟩ W hu hd hdn H K Q hK
    have e0 := H.f0 (hd.at_ 0 rfl)
    have tl := (HA.out.below H.g1).blk.lt
    have HF := Lib.hid H
    clear H hd
    try simp only at e0 ⊢
    gi_wp2
    exact hK (gh, (upd (upd s 9 (.pointer (some ⟨T.g, 0, none⟩))) 10 (.pointer (some ⟨T.g, 0, none⟩)))) _ { HF.out with f0 := fun _ => rfl, f1 := fun _ => rfl }
   ·rintro L ⟨gh, s⟩ W hu hd hdn H K Q hK
    have e1 := H.f1 (hd.at_ 1 rfl)
    have HF := Lib.hid H
    clear H hd
    try simp only at e1 ⊢
    gi_wp2
    exact hK (gh, (upd (upd s 10 (.pointer (some ⟨T.g, 0, none⟩))) 11 (.pointer (some ⟨T.g, 0, none⟩)))) _ { HF.out with f1 := fun _ => rfl, f2 := fun _ => rfl }
   ·rintro L ⟨gh, s⟩ W hu hd hdn H K Q hK
    have e2 := H.f2 (hd.at_ 2 rfl)
    have HF := Lib.hid H
    clear H hd
    try simp only at e2 ⊢
    gi_wp2
    exact hK (gh, (upd (upd s 11 (.pointer (some ⟨T.g, 0, none⟩))) 12 (.pointer (some ⟨T.g, 2, none⟩)))) _ { HF.out with f2 := fun _ => rfl, f3 := fun _ => rfl }
   ·rintro L ⟨gh, s⟩ W hu hd hdn H K Q hK
    have e3 := H.f3 (hd.at_ 3 rfl)
    have t2 : W.cell? ⟨T.g, 2, none⟩ = some (.slice (some ⟨ba, oa, none⟩) T.na T.ca) := by rw [← HAA.out]; exact (HA.out.below H.g1).blk.cell 2
    have HF := Lib.hid H
    clear H hd
    try simp only at e3 ⊢
    gi_wp2
    exact hK (gh, (upd (upd s 12 (.pointer (some ⟨T.g, 2, none⟩))) 13 (.slice (some ⟨ba, oa, none⟩) T.na T.ca))) _ { HF.out with f3 := fun _ => rfl, f4 := fun _ => rfl }
   ·rintro L ⟨gh, s⟩ W hu hd hdn H K Q hK
    have HF := Lib.hid H
    clear H hd
    try simp only
    gi_wp2
    exact hK (gh, (upd s 14 (.int .i64 k))) _ { HF.out with f5 := fun _ => rfl }
   ·rintro L ⟨gh, s⟩ W hu hd hdn H K Q hK
    have e4 := H.f4 (hd.at_ 4 rfl)
    have e5 := H.f5 (hd.at_ 5 rfl)
    have hka := HKA.out
    have HF := Lib.hid H
    clear H hd
    try simp only at e4 e5 ⊢
    gi_wp2
    exact hK (gh, (upd (upd (upd s 13 (.slice (some ⟨ba, oa, none⟩) T.na T.ca)) 14 (.int .i64 k)) 15 (.pointer (some ⟨ba, oa + k * 4, none⟩)))) _ { HF.out with f4 := fun _ => rfl, f5 := fun _ => rfl, f6 := fun _ => rfl }
   ·rintro L ⟨gh, s⟩ W hu hd hdn H K Q hK
    have e6 := H.f6 (hd.at_ 6 rfl)
    have a0 : W.cell? ⟨ba, oa + k * 4, none⟩ = some (.int .i64 x.kind) := (H.g1.cell (p := ⟨ba, oa + k * 4, none⟩) HBA.out).trans HC0.out
    have a1 : W.cell? ⟨ba, oa + k * 4 + 1, none⟩ = some (.int .i64 x.fr) := (H.g1.cell (p := ⟨ba, oa + k * 4 + 1, none⟩) HBA.out).trans HC1.out
    have a2 : W.cell? ⟨ba, oa + k * 4 + 2, none⟩ = some (.int .i64 x.to) := (H.g1.cell (p := ⟨ba, oa + k * 4 + 2, none⟩) HBA.out).trans HC2.out
    have a3 : W.cell? ⟨ba, oa + k * 4 + 3, none⟩ = some (.int .i64 x.drops) := (H.g1.cell (p := ⟨ba, oa + k * 4 + 3, none⟩) HBA.out).trans HC3.out
    have HF := Lib.hid H
    clear H hd
    try simp only at e6 ⊢
    gi_wp2
    exact hK (gh, (upd (upd s 15 (.pointer (some ⟨ba, oa + k * 4, none⟩))) 16 (.agg #[.int .i64 x.kind, .int .i64 x.fr, .int .i64 x.to, .int .i64 x.drops]))) _ { HF.out with f6 := fun _ => rfl, f7 := fun _ => rfl }
   ·rintro L ⟨gh, s⟩ W hu hd hdn H K Q hK
    have HF := Lib.hid H
    clear H hd
    try simp only
    gi_wp2
    exact hK (gh, (upd s 17 (.pointer (some ⟨T.g, 0, none⟩)))) _ { HF.out with f8 := fun _ => rfl }
   ·rintro L ⟨gh, s⟩ W hu hd hdn H K Q hK
    have e8 := H.f8 (hd.at_ 8 rfl)
    have tl := (HA.out.below H.g1).blk.lt
    have HF := Lib.hid H
    clear H hd
    try simp only at e8 ⊢
    gi_wp2
    exact hK (gh, (upd (upd s 17 (.pointer (some ⟨T.g, 0, none⟩))) 18 (.pointer (some ⟨T.g, 0, none⟩)))) _ { HF.out with f8 := fun _ => rfl, f9 := fun _ => rfl }
   ·rintro L ⟨gh, s⟩ W hu hd hdn H K Q hK
    have e9 := H.f9 (hd.at_ 9 rfl)
    have HF := Lib.hid H
    clear H hd
    try simp only at e9 ⊢
    gi_wp2
    exact hK (gh, (upd (upd s 18 (.pointer (some ⟨T.g, 0, none⟩))) 19 (.pointer (some ⟨T.g, 4, none⟩)))) _ { HF.out with f9 := fun _ => rfl, f10 := fun _ => rfl }
   ·rintro L ⟨gh, s⟩ W hu hd hdn H K Q hK
    have e10 := H.f10 (hd.at_ 10 rfl)
    have t4 : W.cell? ⟨T.g, 4, none⟩ = some (.slice (some ⟨bl, ol, none⟩) T.nl T.cl) := by rw [← HAL.out]; exact (HA.out.below H.g1).blk.cell 4
    have HF := Lib.hid H
    clear H hd
    try simp only at e10 ⊢
    gi_wp2
    exact hK (gh, (upd (upd s 19 (.pointer (some ⟨T.g, 4, none⟩))) 20 (.slice (some ⟨bl, ol, none⟩) T.nl T.cl))) _ { HF.out with f10 := fun _ => rfl, f11 := fun _ => rfl }
   ·rintro L ⟨gh, s⟩ W hu hd hdn H K Q hK
    have HF := Lib.hid H
    clear H hd
    try simp only
    gi_wp2
    exact hK (gh, (upd s 21 (.int .i64 k))) _ { HF.out with f12 := fun _ => rfl }
   ·rintro L ⟨gh, s⟩ W hu hd hdn H K Q hK
    have e11 := H.f11 (hd.at_ 11 rfl)
    have e12 := H.f12 (hd.at_ 12 rfl)
    have hkl := HKL.out
    have HF := Lib.hid H
    clear H hd
    try simp only at e11 e12 ⊢
    gi_wp2
    exact hK (gh, (upd (upd (upd s 20 (.slice (some ⟨bl, ol, none⟩) T.nl T.cl)) 21 (.int .i64 k)) 22 (.pointer (some ⟨bl, ol + k * 4, none⟩)))) _ { HF.out with f11 := fun _ => rfl, f12 := fun _ => rfl, f13 := fun _ => rfl }
   ·rintro L ⟨gh, s⟩ W hu hd hdn H K Q hK
    have e13 := H.f13 (hd.at_ 13 rfl)
    have l0 : W.cell? ⟨bl, ol + k * 4, none⟩ = some (.int .i64 (heldAt s0 0)) := (H.g1.cell (p := ⟨bl, ol + k * 4, none⟩) HBL.out).trans (HCL.out 0 _ rfl)
    have l1 : W.cell? ⟨bl, ol + k * 4 + 1, none⟩ = some (.int .i64 (heldAt s0 1)) := (H.g1.cell (p := ⟨bl, ol + k * 4 + 1, none⟩) HBL.out).trans (HCL.out 1 _ rfl)
    have l2 : W.cell? ⟨bl, ol + k * 4 + 2, none⟩ = some (.int .i64 (heldAt s0 2)) := (H.g1.cell (p := ⟨bl, ol + k * 4 + 2, none⟩) HBL.out).trans (HCL.out 2 _ rfl)
    have l3 : W.cell? ⟨bl, ol + k * 4 + 3, none⟩ = some (.int .i64 (heldAt s0 3)) := (H.g1.cell (p := ⟨bl, ol + k * 4 + 3, none⟩) HBL.out).trans (HCL.out 3 _ rfl)
    have HF := Lib.hid H
    clear H hd
    try simp only at e13 ⊢
    gi_wp2
    exact hK (gh, (upd (upd s 22 (.pointer (some ⟨bl, ol + k * 4, none⟩))) 23 (.agg #[.int .i64 (heldAt s0 0), .int .i64 (heldAt s0 1), .int .i64 (heldAt s0 2), .int .i64 (heldAt s0 3)]))) _ { HF.out with f13 := fun _ => rfl, f14 := fun _ => rfl }
   ·rintro L ⟨gh, s⟩ W hu hd hdn H K Q hK
    have h17 : L 17 = false := by
     cases hc : L 17 with
     | false => rfl
     | true => exact hdn.no 17 15 hc rfl hu
    have HF := Lib.hid H
    clear H hd
    try simp only
    gi_wp2
    have hb : Below W.heap.size W (W.alloc (.cells #[.int .i64 0, .int .i64 0, .int .i64 0, .int .i64 0] 43)) := (Below.refl _ _).alloc (Nat.le_refl _) _
    exact hK ((W.heap.size, gh.2), (upd s 5 (.pointer (some ⟨W.heap.size, 0, none⟩)))) _ { HF.out with g1 := HF.out.g1.trans (hb.mono HF.out.g1.size), gA := fun _ => ⟨HF.out.g1.size, by simp, fun _ => Blk.new W _ _, fun h => absurd (h17.symm.trans h) (by decide)⟩, gB := fun h => ⟨(HF.out.gB h).1, Nat.lt_of_lt_of_le (HF.out.gB h).2.1 hb.size, fun q => ((HF.out.gB h).2.2.1 q).below hb (HF.out.gB h).2.1, fun q => ((HF.out.gB h).2.2.2 q).below hb (HF.out.gB h).2.1⟩, gN := fun _ h => Nat.ne_of_gt (HF.out.gB h).2.1, f15 := fun _ => rfl }
   ·rintro L ⟨gh, s⟩ W hu hd hdn H K Q hK
    have h18 : L 18 = false := by
     cases hc : L 18 with
     | false => rfl
     | true => exact hdn.no 18 16 hc rfl hu
    have HF := Lib.hid H
    clear H hd
    try simp only
    gi_wp2
    have hb : Below W.heap.size W (W.alloc (.cells #[.int .i64 0, .int .i64 0, .int .i64 0, .int .i64 0] 74)) := (Below.refl _ _).alloc (Nat.le_refl _) _
    exact hK ((gh.1, W.heap.size), (upd s 6 (.pointer (some ⟨W.heap.size, 0, none⟩)))) _ { HF.out with g1 := HF.out.g1.trans (hb.mono HF.out.g1.size), gB := fun _ => ⟨HF.out.g1.size, by simp, fun _ => Blk.new W _ _, fun h => absurd (h18.symm.trans h) (by decide)⟩, gA := fun h => ⟨(HF.out.gA h).1, Nat.lt_of_lt_of_le (HF.out.gA h).2.1 hb.size, fun q => ((HF.out.gA h).2.2.1 q).below hb (HF.out.gA h).2.1, fun q => ((HF.out.gA h).2.2.2 q).below hb (HF.out.gA h).2.1⟩, gN := fun h _ => Nat.ne_of_lt (HF.out.gA h).2.1, f16 := fun _ => rfl }
   ·rintro L ⟨gh, s⟩ W hu hd hdn H K Q hK
    have e15 := H.f15 (hd.at_ 15 rfl)
    have e7 := H.f7 (hd.at_ 7 rfl)
    have d15 := hd.at_ 15 rfl
    have RA := (H.gA d15).2.2.1 hu
    have y0 := RA.cell 0
    have z0 := RA.frozen 0
    have y1 := RA.cell 1
    have z1 := RA.frozen 1
    have y2 := RA.cell 2
    have z2 := RA.frozen 2
    have y3 := RA.cell 3
    have z3 := RA.frozen 3
    have rl := RA.lt
    have HRA := Lib.hid RA
    have HGE := Lib.hid (H.gA d15).1
    have HD15 := Lib.hid d15
    clear RA d15
    have HF := Lib.hid H
    clear H hd
    try simp only at e15 e7 ⊢
    gi_wp2
    have R := ret4' HRA.out (Below.refl gh.1 W) (Nat.le_refl _) (.int .i64 x.kind) (.int .i64 x.fr) (.int .i64 x.to) (.int .i64 x.drops)
    exact hK (gh, (upd (upd s 5 (.pointer (some ⟨gh.1, 0, none⟩))) 16 (.agg #[.int .i64 x.kind, .int .i64 x.fr, .int .i64 x.to, .int .i64 x.drops]))) _ { HF.out with g1 := HF.out.g1.trans (R.2.1.mono HGE.out), gA := fun _ => ⟨HGE.out, R.1.lt, (fun h => by cases h), fun _ => R.1⟩, gB := fun h => ⟨(HF.out.gB h).1, Nat.lt_of_lt_of_le (HF.out.gB h).2.1 R.2.2.size, fun q => ((HF.out.gB h).2.2.1 q).grown R.2.2 (fun e => HF.out.gN HD15.out h (Option.some.inj e).symm), fun q => ((HF.out.gB h).2.2.2 q).grown R.2.2 (fun e => HF.out.gN HD15.out h (Option.some.inj e).symm)⟩, f7 := fun _ => rfl, f15 := fun _ => rfl }
   ·rintro L ⟨gh, s⟩ W hu hd hdn H K Q hK
    have e16 := H.f16 (hd.at_ 16 rfl)
    have e14 := H.f14 (hd.at_ 14 rfl)
    have d16 := hd.at_ 16 rfl
    have RB := (H.gB d16).2.2.1 hu
    have y0 := RB.cell 0
    have z0 := RB.frozen 0
    have y1 := RB.cell 1
    have z1 := RB.frozen 1
    have y2 := RB.cell 2
    have z2 := RB.frozen 2
    have y3 := RB.cell 3
    have z3 := RB.frozen 3
    have rl := RB.lt
    have HRB := Lib.hid RB
    have HGE := Lib.hid (H.gB d16).1
    have HD16 := Lib.hid d16
    clear RB d16
    have HF := Lib.hid H
    clear H hd
    try simp only at e16 e14 ⊢
    gi_wp2
    have R := ret4' HRB.out (Below.refl gh.2 W) (Nat.le_refl _) (.int .i64 (heldAt s0 0)) (.int .i64 (heldAt s0 1)) (.int .i64 (heldAt s0 2)) (.int .i64 (heldAt s0 3))
    exact hK (gh, (upd (upd s 6 (.pointer (some ⟨gh.2, 0, none⟩))) 23 (.agg #[.int .i64 (heldAt s0 0), .int .i64 (heldAt s0 1), .int .i64 (heldAt s0 2), .int .i64 (heldAt s0 3)]))) _ { HF.out with g1 := HF.out.g1.trans (R.2.1.mono HGE.out), gB := fun _ => ⟨HGE.out, R.1.lt, (fun h => by cases h), fun _ => R.1⟩, gA := fun h => ⟨(HF.out.gA h).1, Nat.lt_of_lt_of_le (HF.out.gA h).2.1 R.2.2.size, fun q => ((HF.out.gA h).2.2.1 q).grown R.2.2 (fun e => HF.out.gN h HD16.out (Option.some.inj e)), fun q => ((HF.out.gA h).2.2.2 q).grown R.2.2 (fun e => HF.out.gN h HD16.out (Option.some.inj e))⟩, f14 := fun _ => rfl, f16 := fun _ => rfl }
  ·rintro L ⟨gh, s⟩ W hall H
   obtain ⟨g1, gA, gB, gN, f0, f1, f2, f3, f4, f5, f6, f7, f8, f9, f10, f11, f12, f13, f14, f15, f16⟩ := H
   have a15 := hall 15 (by decide)
   have a16 := hall 16 (by decide)
   have GA := gA a15
   have GB := gB a16
   have GN := gN a15 a16
   have GA2 := GA.2.2.2 (hall 17 (by decide))
   have GB2 := GB.2.2.2 (hall 18 (by decide))
   have e5 := f15 a15
   have e6 := f16 a16
   have HGG := Lib.hid (And.intro GN (And.intro g1 (And.intro GA.1 (And.intro GB.1 (And.intro GA2 GB2)))))
   clear f16 f15 f14 f13 f12 f11 f10 f9 f8 f7 f6 f5 f4 f3 f2 f1 f0 gN gB gA g1 GA GB GN GA2 GB2 a15 a16 hall
   try simp only at e5 e6 ⊢
   gi_wp2
   gi_meet
   exact ⟨_, _, rfl, rfl, HGG⟩
 case rest =>
  obtain ⟨g5, g6, rfl, rfl, HC⟩ := hcut
  rename World => C1
  replace HLay := Lib.hid (((show Lay w C1 [] from ⟨HC.out.2.1, fun b hb => by simp at hb⟩).add HC.out.2.2.1 HC.out.2.2.2.2.1).add HC.out.2.2.2.1 HC.out.2.2.2.2.2)
  have HN56 := Lib.hid HC.out.1
  clear HC
  gi_wp2
  refine wpIn_flow_old [([true, true], 2), ([], 3), ([false, false, false, false, true, true, false, true, true, false, false, true, true, true], 6), ([false, false, false, false, false, false, false, false, false, true, true], 14)] [false, false, false, false, false, false, false, false, false, false, false, false, false, false, false, true, true] [] (by kernel_rfl) (by kernel_rfl) (by kernel_rfl) (below_drewN (Below.refl _ _) 1) ?_
  refine wpFlow_cons (A := ?AF1) rfl ?hq1 ?_
  case hq1 =>
   rintro σ hσ of hof hcl
   have HOF := Lib.hid hof
   have HCL := Lib.hid hcl
   clear hof hcl
   have c0_ : ∀ z, (of z).cell? ⟨g5, 0, none⟩ = some (.int .i64 x.kind) := fun z => ((HLay.out.below (HOF.out z)).blk 0 rfl).cell 0
   have c1_ : ∀ z, (of z).cell? ⟨g5, 1, none⟩ = some (.int .i64 x.fr) := fun z => ((HLay.out.below (HOF.out z)).blk 0 rfl).cell 1
   have c2_ : ∀ z, (of z).cell? ⟨g5, 2, none⟩ = some (.int .i64 x.to) := fun z => ((HLay.out.below (HOF.out z)).blk 0 rfl).cell 2
   have c3_ : ∀ z, (of z).cell? ⟨g5, 3, none⟩ = some (.int .i64 x.drops) := fun z => ((HLay.out.below (HOF.out z)).blk 0 rfl).cell 3
   have c4_ : ∀ z, (of z).cell? ⟨g6, 0, none⟩ = some (.int .i64 (heldAt s 0)) := fun z => ((HLay.out.below (HOF.out z)).blk 1 rfl).cell 0
   have c5_ : ∀ z, (of z).cell? ⟨g6, 1, none⟩ = some (.int .i64 (heldAt s 1)) := fun z => ((HLay.out.below (HOF.out z)).blk 1 rfl).cell 1
   have c6_ : ∀ z, (of z).cell? ⟨g6, 2, none⟩ = some (.int .i64 (heldAt s 2)) := fun z => ((HLay.out.below (HOF.out z)).blk 1 rfl).cell 2
   have c7_ : ∀ z, (of z).cell? ⟨g6, 3, none⟩ = some (.int .i64 (heldAt s 3)) := fun z => ((HLay.out.below (HOF.out z)).blk 1 rfl).cell 3
   have hfw : ∀ f, Fence.wide.fn f := fun _ => trivial
   have hix : ∀ z : World, (Instr.index 117 kindsV (.int .i64 x.kind)).run Tryd.prog z = .ok (.agg #[.func (.func f) #[] #[], f2, f3]) z := HIX.out
   unfold kindsV at hix
   have hfd := HFD.out
   simp only [pickB]
   repeat (gi_big_quiet_step (fail))
   refine wpQuietIn_nil ?_
   exact rfl
  intro W1 hW
  replace HLay := Lib.hid (HLay.out.below hW)
  clear hW
  gi_wp2
  refine ⟨trivial, (Below.refl _ _).alloc (Nat.le_refl _) _, ?_⟩
  have hb : Below W1.heap.size W1 (W1.alloc (.cells #[.int .i64 x.kind] 3)) := (Below.refl _ _).alloc (Nat.le_refl _) _
  replace HLay := Lib.hid (HLay.out.below hb)
  have HPl := Lib.hid (show IntsAt (W1.alloc (.cells #[.int .i64 x.kind] 3)) (W1.alloc (.cells #[.int .i64 x.kind] 3)).heap.size (some ⟨W1.heap.size, 0, none⟩) 1 [x.kind] from IntsAt.new W1 3 [x.kind] _ (by simp))
  obtain ⟨P3, hP⟩ : ∃ P, W1.heap.size = P := ⟨_, rfl⟩
  rw [hP] at HPl ⊢
  generalize (W1.alloc (.cells #[.int .i64 x.kind] 3)) = V2 at *
  clear hb hP
  refine wpFlow_cons rfl Quietly.none ?_
  intro W4 hW
  replace HLay := Lib.hid (HLay.out.below hW)
  replace HPl := Lib.hid ((HPl.out.below hW).more hW.size)
  clear hW
  gi_wp2
  refine ⟨trivial, (callsIn_wide.2 (in_any 1 4 (some ⟨P3, 0, none⟩) 1 1 [x.kind] W4 HPl.out (by decide))).mono ?_⟩
  rintro e W5 ⟨rfl, hb⟩
  replace HLay := Lib.hid (HLay.out.below hb)
  replace HPl := Lib.hid ((HPl.out.below hb).more hb.size)
  rw [HKI.out]
  gi_wp2
  refine ⟨trivial, hb, ?_⟩
  clear hb
  clear HPl
  refine wpFlow_cons (A := ?AF2) rfl ?hq2 ?_
  case hq2 =>
   rintro σ hσ of hof hcl
   have HOF := Lib.hid hof
   have HCL := Lib.hid hcl
   clear hof hcl
   have c0_ : ∀ z, (of z).cell? ⟨g5, 0, none⟩ = some (.int .i64 x.kind) := fun z => ((HLay.out.below (HOF.out z)).blk 0 rfl).cell 0
   have c1_ : ∀ z, (of z).cell? ⟨g5, 1, none⟩ = some (.int .i64 x.fr) := fun z => ((HLay.out.below (HOF.out z)).blk 0 rfl).cell 1
   have c2_ : ∀ z, (of z).cell? ⟨g5, 2, none⟩ = some (.int .i64 x.to) := fun z => ((HLay.out.below (HOF.out z)).blk 0 rfl).cell 2
   have c3_ : ∀ z, (of z).cell? ⟨g5, 3, none⟩ = some (.int .i64 x.drops) := fun z => ((HLay.out.below (HOF.out z)).blk 0 rfl).cell 3
   have c4_ : ∀ z, (of z).cell? ⟨g6, 0, none⟩ = some (.int .i64 (heldAt s 0)) := fun z => ((HLay.out.below (HOF.out z)).blk 1 rfl).cell 0
   have c5_ : ∀ z, (of z).cell? ⟨g6, 1, none⟩ = some (.int .i64 (heldAt s 1)) := fun z => ((HLay.out.below (HOF.out z)).blk 1 rfl).cell 1
   have c6_ : ∀ z, (of z).cell? ⟨g6, 2, none⟩ = some (.int .i64 (heldAt s 2)) := fun z => ((HLay.out.below (HOF.out z)).blk 1 rfl).cell 2
   have c7_ : ∀ z, (of z).cell? ⟨g6, 3, none⟩ = some (.int .i64 (heldAt s 3)) := fun z => ((HLay.out.below (HOF.out z)).blk 1 rfl).cell 3
   have hfw : ∀ f, Fence.wide.fn f := fun _ => trivial
   have hix : ∀ z : World, (Instr.index 117 kindsV (.int .i64 x.kind)).run Tryd.prog z = .ok (.agg #[.func (.func f) #[] #[], f2, f3]) z := HIX.out
   unfold kindsV at hix
   have hfd := HFD.out
   simp only [pickB]
   repeat (gi_big_quiet_step (fail))
   refine wpQuietIn_nil ?_
   exact rfl
  intro W6 hW
  replace HLay := Lib.hid (HLay.out.below hW)
  clear hW
  gi_wp2
  refine ⟨trivial, (callsIn_wide.2 (kinds_any W6)).mono ?_⟩
  rintro e W7 ⟨rfl, hb⟩
  replace HLay := Lib.hid (HLay.out.below hb)
  gi_wp2
  refine ⟨trivial, hb, ?_⟩
  clear hb
  refine wpFlow_cons (A := ?AF3) rfl ?hq3 ?_
  case hq3 =>
   rintro σ hσ of hof hcl
   have HOF := Lib.hid hof
   have HCL := Lib.hid hcl
   clear hof hcl
   have c0_ : ∀ z, (of z).cell? ⟨g5, 0, none⟩ = some (.int .i64 x.kind) := fun z => ((HLay.out.below (HOF.out z)).blk 0 rfl).cell 0
   have c1_ : ∀ z, (of z).cell? ⟨g5, 1, none⟩ = some (.int .i64 x.fr) := fun z => ((HLay.out.below (HOF.out z)).blk 0 rfl).cell 1
   have c2_ : ∀ z, (of z).cell? ⟨g5, 2, none⟩ = some (.int .i64 x.to) := fun z => ((HLay.out.below (HOF.out z)).blk 0 rfl).cell 2
   have c3_ : ∀ z, (of z).cell? ⟨g5, 3, none⟩ = some (.int .i64 x.drops) := fun z => ((HLay.out.below (HOF.out z)).blk 0 rfl).cell 3
   have c4_ : ∀ z, (of z).cell? ⟨g6, 0, none⟩ = some (.int .i64 (heldAt s 0)) := fun z => ((HLay.out.below (HOF.out z)).blk 1 rfl).cell 0
   have c5_ : ∀ z, (of z).cell? ⟨g6, 1, none⟩ = some (.int .i64 (heldAt s 1)) := fun z => ((HLay.out.below (HOF.out z)).blk 1 rfl).cell 1
   have c6_ : ∀ z, (of z).cell? ⟨g6, 2, none⟩ = some (.int .i64 (heldAt s 2)) := fun z => ((HLay.out.below (HOF.out z)).blk 1 rfl).cell 2
   have c7_ : ∀ z, (of z).cell? ⟨g6, 3, none⟩ = some (.int .i64 (heldAt s 3)) := fun z => ((HLay.out.below (HOF.out z)).blk 1 rfl).cell 3
   have hfw : ∀ f, Fence.wide.fn f := fun _ => trivial
   have hix : ∀ z : World, (Instr.index 117 kindsV (.int .i64 x.kind)).run Tryd.prog z = .ok (.agg #[.func (.func f) #[] #[], f2, f3]) z := HIX.out
   unfold kindsV at hix
   have hfd := HFD.out
   simp only [pickB]
   repeat (gi_big_quiet_step (fail))
   refine wpQuietIn_nil ?_
   exact rfl
  intro W8 hW
  replace HLay := Lib.hid (HLay.out.below hW)
  clear hW
  gi_wp2
  refine ⟨trivial, (callsIn_wide.2 (callsIn_wide.1 (HKK.out W8 HLay.out.1))).mono ?_⟩
  rintro e W9 ⟨rfl, hb⟩
  replace HLay := Lib.hid (HLay.out.below hb)
  gi_wp2
  refine ⟨trivial, hb, ?_⟩
  clear hb
  refine wpFlow_nil (A := ?AF4) ?hq4 ?_
  case hq4 =>
   rintro σ hσ of hof hcl
   have HOF := Lib.hid hof
   have HCL := Lib.hid hcl
   clear hof hcl
   have c0_ : ∀ z, (of z).cell? ⟨g5, 0, none⟩ = some (.int .i64 x.kind) := fun z => ((HLay.out.below (HOF.out z)).blk 0 rfl).cell 0
   have c1_ : ∀ z, (of z).cell? ⟨g5, 1, none⟩ = some (.int .i64 x.fr) := fun z => ((HLay.out.below (HOF.out z)).blk 0 rfl).cell 1
   have c2_ : ∀ z, (of z).cell? ⟨g5, 2, none⟩ = some (.int .i64 x.to) := fun z => ((HLay.out.below (HOF.out z)).blk 0 rfl).cell 2
   have c3_ : ∀ z, (of z).cell? ⟨g5, 3, none⟩ = some (.int .i64 x.drops) := fun z => ((HLay.out.below (HOF.out z)).blk 0 rfl).cell 3
   have c4_ : ∀ z, (of z).cell? ⟨g6, 0, none⟩ = some (.int .i64 (heldAt s 0)) := fun z => ((HLay.out.below (HOF.out z)).blk 1 rfl).cell 0
   have c5_ : ∀ z, (of z).cell? ⟨g6, 1, none⟩ = some (.int .i64 (heldAt s 1)) := fun z => ((HLay.out.below (HOF.out z)).blk 1 rfl).cell 1
   have c6_ : ∀ z, (of z).cell? ⟨g6, 2, none⟩ = some (.int .i64 (heldAt s 2)) := fun z => ((HLay.out.below (HOF.out z)).blk 1 rfl).cell 2
   have c7_ : ∀ z, (of z).cell? ⟨g6, 3, none⟩ = some (.int .i64 (heldAt s 3)) := fun z => ((HLay.out.below (HOF.out z)).blk 1 rfl).cell 3
   have hfw : ∀ f, Fence.wide.fn f := fun _ => trivial
   simp only [pickB]
   repeat (gi_big_quiet_step (fail))
   refine wpQuietIn_nil ?_
   exact rfl
  intro W10 hW
  replace HLay := Lib.hid (HLay.out.below hW)
  clear hW
  simp only [pickB]
  refine wpT_nil ?_
  cases r with
  | false =>
   gi_wp2
   refine bodyPost_ret (v := .bool false) (by simp [results, Tryd.results43, go_sem]) rfl ?_
   exact .inl ⟨rfl, rfl, HLay.out.1⟩
  | true =>
   have x0_0 := (HLay.out.blk 0 rfl).cell 0
   have x0_1 := (HLay.out.blk 0 rfl).cell 1
   have x0_2 := (HLay.out.blk 0 rfl).cell 2
   have x0_3 := (HLay.out.blk 0 rfl).cell 3
   have l0_ := HLay.out.lt 0 rfl
   gi_wp2
   clear x0_0 x0_1 x0_2 x0_3 l0_
   refine ⟨trivial, (callsIn_wide.2 (callsIn_wide.1 (ends_in T x W10 (HA.out.below HLay.out.1) HKO.out))).mono ?_⟩
   rintro e W11 ⟨rfl, hb⟩
   replace HLay := Lib.hid (HLay.out.below hb)
   clear hb
   have hv4 : T.m.vessels.length ≤ 4 := by have := HT.out.mix.lenV; have := HT.out.small; omega
   have HFR := Lib.hid (fromI_small hv4 x)
   have HTO := Lib.hid (toI_small hv4 x)
   have HFG : Hid (-1 ≤ fromI T.m x) := Lib.hid (by unfold fromI; split; omega; exact idxV_ge _ _)
   have HTG : Hid (-1 ≤ toI T.m x) := Lib.hid (by unfold toI; split; exact idxV_ge _ _; omega)
   have HSZ := Lib.hid (HF.out (by first | rfl | trivial))
   have HRES : Hid (shiftH s (fromI T.m x) (toI T.m x) (sizeA T.m s x) = shiftH s (fromI T.m x) (toI T.m x) (sizeA T.m s x)) := Lib.hid rfl
   gi_wp2
   refine Gr.wpIn_flow_old (G := UpRow (T.AA.map (·.block))) [([true, true, true, true, true, true, true, true, true, true], 10), ([], 11), ([], 12), ([], 13)] [false, false, false, false, false, false, false, false, false, false, false, false, false, false, true, true] [false, false, false, false, false, false, false, false, false, false, false, false, false, false, false, false, true] (by kernel_rfl) (by kernel_rfl) (by kernel_rfl) (below_drewN (Below.refl _ _) 1) ?_
   have HUP : Hid (UpRow (T.AA.map (·.block)) W11 W11) := Lib.hid (grown_refl _ _)
   have HNG : Hid (some T.g ≠ (T.AA.map (·.block))) := Lib.hid (ne_row HT.out.ne)
   have HN6 : Hid (∀ b : Nat, w.heap.size ≤ b → some b ≠ (T.AA.map (·.block))) := Lib.hid (fun b hb => ne_row (fun a ha => by have := (HT.out.own.lt ha).2; omega))
   refine Gr.wpFlow_cons (A := ?AFu) rfl ?hqu ?_
   case hqu =>
    rintro σ hσ of hof hcl
    have HOF : Hid (∀ z, W11.grownBy (of z) (T.AA.map (·.block))) := Lib.hid hof
    clear hof hcl
    have t4 : ∀ z, (of z).cell? ⟨T.g, 4, none⟩ = some (.slice T.AA T.nl T.cl) := fun z => (((HA.out.below HLay.out.1).blk).grown (HOF.out z) HNG.out).cell 4
    have l0 : ∀ z, (of z).cell? ⟨g6, 0, none⟩ = some (.int .i64 (heldAt s 0)) := fun z => ((HLay.out.blk 1 rfl).grown (HOF.out z) (HN6.out _ (HLay.out.ge 1 rfl))).cell 0
    have l1 : ∀ z, (of z).cell? ⟨g6, 1, none⟩ = some (.int .i64 (heldAt s 1)) := fun z => ((HLay.out.blk 1 rfl).grown (HOF.out z) (HN6.out _ (HLay.out.ge 1 rfl))).cell 1
    have l2 : ∀ z, (of z).cell? ⟨g6, 2, none⟩ = some (.int .i64 (heldAt s 2)) := fun z => ((HLay.out.blk 1 rfl).grown (HOF.out z) (HN6.out _ (HLay.out.ge 1 rfl))).cell 2
    have l3 : ∀ z, (of z).cell? ⟨g6, 3, none⟩ = some (.int .i64 (heldAt s 3)) := fun z => ((HLay.out.blk 1 rfl).grown (HOF.out z) (HN6.out _ (HLay.out.ge 1 rfl))).cell 3
    simp only [pickB]
    repeat (gi_big_quiet_step (fail))
    refine wpQuietIn_nil ?_
    exact rfl
   intro W12 hW
   replace HLay := Lib.hid (HLay.out.below hW)
   replace HUP : Hid (UpRow (T.AA.map (·.block)) W11 _) := Lib.hid (grown_below HUP.out hW)
   clear hW
   gi_wp2
   refine ⟨trivial, (callsIn_wide.2 (callsIn_wide.1 (size_in T k x s W12 (HA.out.below HLay.out.1) HX.out HAT.out HKO.out (fun e => HSZ.out.2.2.1 e)))).mono ?_⟩
   rintro e W13 ⟨rfl, hb⟩
   replace HLay := Lib.hid (HLay.out.below hb)
   replace HUP : Hid (UpRow (T.AA.map (·.block)) W11 _) := Lib.hid (grown_below HUP.out hb)
   gi_wp2
   refine ⟨trivial, grown_of_below hb _, ?_⟩
   clear hb
   refine Gr.wpFlow_cons rfl Gr.Quietly.none ?_
   intro W14 hW
   replace HLay := Lib.hid (HLay.out.below hW)
   replace HUP : Hid (UpRow (T.AA.map (·.block)) W11 _) := Lib.hid (grown_below HUP.out hW)
   clear hW
   gi_wp2
   refine ⟨trivial, (callsIn_wide.2 (shift_any s (fromI T.m x) (toI T.m x) (sizeA T.m s x) W14 HS.out.1 HS.out.2 ⟨by have := HSZ.out.1; omega, by have := HSZ.out.2.1; omega⟩ ⟨HFG.out, HFR.out⟩ ⟨HTG.out, HTO.out⟩ HSZ.out.2.2.2)).mono ?_⟩
   rintro e W15 ⟨rfl, hb⟩
   replace HLay := Lib.hid (HLay.out.below hb)
   replace HUP : Hid (UpRow (T.AA.map (·.block)) W11 _) := Lib.hid (grown_below HUP.out hb)
   gi_wp2
   refine ⟨trivial, grown_of_below hb _, ?_⟩
   clear hb
   refine Gr.wpFlow_cons rfl Gr.Quietly.none ?_
   obtain ⟨s2, hs2⟩ : ∃ s2, shiftH s (fromI T.m x) (toI T.m x) (sizeA T.m s x) = s2 := ⟨_, rfl⟩
   rw [hs2]
   have HS2 := Lib.hid hs2
   clear hs2 HRES
   intro W16 hW
   replace HLay := Lib.hid (HLay.out.below hW)
   replace HUP : Hid (UpRow (T.AA.map (·.block)) W11 _) := Lib.hid (grown_below HUP.out hW)
   clear hW
   gi_wp2
   have hb : Below W16.heap.size W16 (W16.alloc (.cells #[.int .i64 (heldAt s2 0), .int .i64 (heldAt s2 1), .int .i64 (heldAt s2 2), .int .i64 (heldAt s2 3)] 74)) := (Below.refl _ _).alloc (Nat.le_refl _) _
   refine ⟨trivial, grown_of_below hb _, ?_⟩
   replace HLay := Lib.hid (HLay.out.below hb)
   replace HUP : Hid (UpRow (T.AA.map (·.block)) W11 _) := Lib.hid (grown_below HUP.out hb)
   have HPl := Lib.hid (show Reads (W16.alloc (.cells #[.int .i64 (heldAt s2 0), .int .i64 (heldAt s2 1), .int .i64 (heldAt s2 2), .int .i64 (heldAt s2 3)] 74)) ((W16.alloc (.cells #[.int .i64 (heldAt s2 0), .int .i64 (heldAt s2 1), .int .i64 (heldAt s2 2), .int .i64 (heldAt s2 3)] 74))).heap.size 4 (some ⟨W16.heap.size, 0, none⟩) 1 (heldC s2) from reads_new W16 74 (heldC s2) rfl)
   generalize (W16.alloc (.cells #[.int .i64 (heldAt s2 0), .int .i64 (heldAt s2 1), .int .i64 (heldAt s2 2), .int .i64 (heldAt s2 3)] 74)) = V17 at *
   clear hb
   refine Gr.wpFlow_cons rfl Gr.Quietly.none ?_
   intro W18 hW
   replace HLay := Lib.hid (HLay.out.below hW)
   replace HUP : Hid (UpRow (T.AA.map (·.block)) W11 _) := Lib.hid (grown_below HUP.out hW)
   replace HPl := Lib.hid ((HPl.out.below hW).more hW.size)
   clear hW
   have HO9 : Hid (Own W18 B 74 4 T.AA T.nl T.cl (T.L.flatMap heldC)) := Lib.hid (HT.out.own.below HLay.out.1 (Nat.le_refl _))
   have hbz : B ≤ W18.heap.size := Nat.le_trans HT.out.le.1 HLay.out.1.size
   gi_wp2_with (first | (gi_at_builtin; refine wpListIn_append_any rfl (.tmp 51) (.tmp 59) (by rfl) elem_drops rfl HO9.out rfl HPl.out (held_one s2) (by have := HT.out.small; unfold maxLen; omega) (by have := HT.out.small; omega) hbz ?_) | fail)
   rintro A9 c9 V19 hown hg hA
   have HOW := Lib.hid hown
   have HGR := Lib.hid hg
   have HA9 := Lib.hid hA
   clear hown hg hA
   gi_wp2
   refine ⟨trivial, HGR.out, ?_⟩
   refine Gr.wpFlow_nil (A := ?AFv) ?hqv ?_
   case hqv =>
    rintro σ hσ of hof hcl
    clear hof hcl
    simp only [pickB]
    repeat (gi_big_quiet_step (fail))
    refine wpQuietIn_nil ?_
    exact rfl
   intro W20 hW
   have hbk : Blk W20 T.g 77 T.cells := (((HA.out.below HLay.out.1).blk).grown HGR.out HNG.out).below hW (((HA.out.below HLay.out.1).blk).grown HGR.out HNG.out).lt
   have HBK := Lib.hid hbk
   have HWB := Lib.hid hW
   have z4 := hbk.frozen 4
   have y4 : W20.cell? ⟨T.g, 4, none⟩ = some (.slice T.AA T.nl T.cl) := hbk.cell 4
   have tl := hbk.lt
   clear hbk hW
   simp only [pickB]
   refine wpT_cons ?_
   gi_wp2
   refine wpT_nil ?_
   gi_wp2
   refine bodyPost_ret (v := .bool true) (by simp [results, Tryd.results43, go_sem]) rfl ?_
   refine .inr ⟨A9, c9, rfl, rfl, ?_, ?_, act_keep HT.out HLay.out.1 HGR.out HWB.out, act_fresh HLay.out.1 HA9.out⟩
   ·rw [HS2.out]
    exact act_own HT.out HLay.out.1 HGR.out HWB.out HOW.out HA9.out HBK.out HNL.out
   ·exact act_below HT.out HLay.out.1 HGR.out HWB.out

set_option maxRecDepth 100000 in
set_option maxHeartbeats 16000000 in
theorem act_bad (B : Nat) (T : Tb) (k : Nat) (x : MAct) (s : Held) (w : World) (h : TbOwn w B T) (hx : T.m.acts[k]? = some x) (ha : T.L[k]? = some s) (hk : ¬ KindOk x) :
  CallsIn Fence.wide 9 Tryd.prog 43 #[.pointer (some ⟨T.g, 0, none⟩), .int .i64 k] w fun e w' => e = .returned (.bool false) ∧ Below w.heap.size w w' := by
 have HT := Lib.hid h
 have HA := Lib.hid h.at_
 have hka : k < T.na := by have := h.mix.lenA; have := (List.getElem?_eq_some_iff.1 hx).1; omega
 obtain ⟨ba, oa, x', hAa, hba0, hx', c0, c1, c2, c3⟩ := h.mix.act hka
 have hba : ba < w.heap.size := Nat.lt_of_lt_of_le hba0 h.le.1
 rw [hx] at hx'
 obtain rfl : x = x' := Option.some.inj hx'
 have hkl : k < T.nl := by have := recs_n heldC_k (by omega) h.at_.all; have := (List.getElem?_eq_some_iff.1 ha).1; omega
 obtain ⟨bl, ol, s', hAL, hbl, ha', cl⟩ := recs_cell heldC_k (by omega) h.at_.all hkl
 rw [ha] at ha'
 obtain rfl : s = s' := Option.some.inj ha'
 have HX := Lib.hid hx
 have HAT := Lib.hid ha
 have HC0 := Lib.hid c0
 have HC1 := Lib.hid c1
 have HC2 := Lib.hid c2
 have HC3 := Lib.hid c3
 have HCL := Lib.hid cl
 have HAA := Lib.hid hAa
 have HAL := Lib.hid hAL
 have HBA := Lib.hid hba
 have HBL := Lib.hid hbl
 have HKA := Lib.hid hka
 have HKL := Lib.hid hkl
 have HKI : Hid (inB 1 4 [x.kind] = false) := Lib.hid (by rw [inB_one]; exact decide_eq_false (fun h => hk (by unfold KindOk; omega)))
 clear hx hx' ha ha' c0 c1 c2 c3 cl hAa hAL hba hba0 hbl h hka hkl hk
 refine callsIn_of_wp Tryd.func43 rfl trivial ?_ rfl
 simp only [Tryd.ntmps43, List.size_toArray, List.length_cons, List.length_nil, Nat.reduceAdd, Nat.reduceSub, Array.replicate_succ, Array.replicate_zero, List.push_toArray, List.append_toArray, List.nil_append, List.cons_append]
 gi_wp2
 have HLay := Lib.hid (Lay.nil w)
 gi_cut [5, 6] from 9 (fun v5 v6 wx => ∃ g5 g6, v5 = .pointer (some ⟨g5, 0, none⟩) ∧ v6 = .pointer (some ⟨g6, 0, none⟩) ∧ Hid (g5 ≠ g6 ∧ Below w.heap.size w wx ∧ w.heap.size ≤ g5 ∧ w.heap.size ≤ g6 ∧ Blk wx g5 43 #[.int .i64 x.kind, .int .i64 x.fr, .int .i64 x.to, .int .i64 x.drops] ∧ Blk wx g6 74 #[.int .i64 (heldAt s 0), .int .i64 (heldAt s 1), .int .i64 (heldAt s 2), .int .i64 (heldAt s 3)]))
 case first =>
  obtain ⟨s0, rfl⟩ : ∃ s0, s0 = s := ⟨_, rfl⟩
  clear HLay
  refine wpIn_region_stepsD (by kernel_rfl) (by kernel_rfl) (fun σ : (Nat × Nat) × (Nat → Value) => { tmps := #[.pointer (some ⟨T.g, 0, none⟩), .int .i64 k, undef, undef, .bool false, σ.2 5, σ.2 6, undef, undef, σ.2 9, σ.2 10, σ.2 11, σ.2 12, σ.2 13, σ.2 14, σ.2 15, σ.2 16, σ.2 17, σ.2 18, σ.2 19, σ.2 20, σ.2 21, σ.2 22, σ.2 23, undef, undef, undef, undef, undef, undef, undef, undef, undef, undef, undef, undef, undef, undef, undef, undef, undef, undef, undef, undef, undef, undef, undef, undef, undef, undef, undef, undef, undef, undef, undef, undef, undef, undef, undef, undef, undef, undef, undef], defers := [] })
   (fun L σ W => ActI w T k x s0 ba oa bl ol L σ.1 σ.2 W) ((0, 0), fun k => undef) rfl ?_ ?_ ?_
  ·exact ⟨below_drewN (Below.refl _ _) 1, (fun h => by cases h), (fun h => by cases h), (fun h => by cases h), (fun h => by cases h), (fun h => by cases h), (fun h => by cases h), (fun h => by cases h), (fun h => by cases h), (fun h => by cases h), (fun h => by cases h), (fun h => by cases h), (fun h => by cases h), (fun h => by cases h), (fun h => by cases h), (fun h => by cases h), (fun h => by cases h), (fun h => by cases h), (fun h => by cases h), (fun h => by cases h), (fun h => by cases h)⟩
  ·refine ⟨?_, ?_, ?_, ?_, ?_, ?_, ?_, ?_, ?_, ?_, ?_, ?_, ?_, ?_, ?_, ?_, ?_, ?_, ?_, trivial⟩
   ·rintro L ⟨gh, s⟩ W hu hd hdn H K Q hK
    have HF := Lib.hid H
    clear H hd
    try simp only
    gi_wp2
    exact hK (gh, (upd s 9 (.pointer (some ⟨T.g, 0, none⟩)))) _ { HF.out with f0 := fun _ => rfl }
   ·rintro L ⟨gh, s⟩ W hu hd hdn H K Q hK
    have e0 := H.f0 (hd.at_ 0 rfl)
    have tl := (HA.out.below H.g1).blk.lt
    have HF := Lib.hid H
    clear H hd
    try simp only at e0 ⊢
    gi_wp2
    exact hK (gh, (upd (upd s 9 (.pointer (some ⟨T.g, 0, none⟩))) 10 (.pointer (some ⟨T.g, 0, none⟩)))) _ { HF.out with f0 := fun _ => rfl, f1 := fun _ => rfl }
   ·rintro L ⟨gh, s⟩ W hu hd hdn H K Q hK
    have e1 := H.f1 (hd.at_ 1 rfl)
    have HF := Lib.hid H
    clear H hd
    try simp only at e1 ⊢
    gi_wp2
    exact hK (gh, (upd (upd s 10 (.pointer (some ⟨T.g, 0, none⟩))) 11 (.pointer (some ⟨T.g, 0, none⟩)))) _ { HF.out with f1 := fun _ => rfl, f2 := fun _ => rfl }
   ·rintro L ⟨gh, s⟩ W hu hd hdn H K Q hK
    have e2 := H.f2 (hd.at_ 2 rfl)
    have HF := Lib.hid H
    clear H hd
    try simp only at e2 ⊢
    gi_wp2
    exact hK (gh, (upd (upd s 11 (.pointer (some ⟨T.g, 0, none⟩))) 12 (.pointer (some ⟨T.g, 2, none⟩)))) _ { HF.out with f2 := fun _ => rfl, f3 := fun _ => rfl }
   ·rintro L ⟨gh, s⟩ W hu hd hdn H K Q hK
    have e3 := H.f3 (hd.at_ 3 rfl)
    have t2 : W.cell? ⟨T.g, 2, none⟩ = some (.slice (some ⟨ba, oa, none⟩) T.na T.ca) := by rw [← HAA.out]; exact (HA.out.below H.g1).blk.cell 2
    have HF := Lib.hid H
    clear H hd
    try simp only at e3 ⊢
    gi_wp2
    exact hK (gh, (upd (upd s 12 (.pointer (some ⟨T.g, 2, none⟩))) 13 (.slice (some ⟨ba, oa, none⟩) T.na T.ca))) _ { HF.out with f3 := fun _ => rfl, f4 := fun _ => rfl }
   ·rintro L ⟨gh, s⟩ W hu hd hdn H K Q hK
    have HF := Lib.hid H
    clear H hd
    try simp only
    gi_wp2
    exact hK (gh, (upd s 14 (.int .i64 k))) _ { HF.out with f5 := fun _ => rfl }
   ·rintro L ⟨gh, s⟩ W hu hd hdn H K Q hK
    have e4 := H.f4 (hd.at_ 4 rfl)
    have e5 := H.f5 (hd.at_ 5 rfl)
    have hka := HKA.out
    have HF := Lib.hid H
    clear H hd
    try simp only at e4 e5 ⊢
    gi_wp2
    exact hK (gh, (upd (upd (upd s 13 (.slice (some ⟨ba, oa, none⟩) T.na T.ca)) 14 (.int .i64 k)) 15 (.pointer (some ⟨ba, oa + k * 4, none⟩)))) _ { HF.out with f4 := fun _ => rfl, f5 := fun _ => rfl, f6 := fun _ => rfl }
   ·rintro L ⟨gh, s⟩ W hu hd hdn H K Q hK
    have e6 := H.f6 (hd.at_ 6 rfl)
    have a0 : W.cell? ⟨ba, oa + k * 4, none⟩ = some (.int .i64 x.kind) := (H.g1.cell (p := ⟨ba, oa + k * 4, none⟩) HBA.out).trans HC0.out
    have a1 : W.cell? ⟨ba, oa + k * 4 + 1, none⟩ = some (.int .i64 x.fr) := (H.g1.cell (p := ⟨ba, oa + k * 4 + 1, none⟩) HBA.out).trans HC1.out
    have a2 : W.cell? ⟨ba, oa + k * 4 + 2, none⟩ = some (.int .i64 x.to) := (H.g1.cell (p := ⟨ba, oa + k * 4 + 2, none⟩) HBA.out).trans HC2.out
    have a3 : W.cell? ⟨ba, oa + k * 4 + 3, none⟩ = some (.int .i64 x.drops) := (H.g1.cell (p := ⟨ba, oa + k * 4 + 3, none⟩) HBA.out).trans HC3.out
    have HF := Lib.hid H
    clear H hd
    try simp only at e6 ⊢
    gi_wp2
    exact hK (gh, (upd (upd s 15 (.pointer (some ⟨ba, oa + k * 4, none⟩))) 16 (.agg #[.int .i64 x.kind, .int .i64 x.fr, .int .i64 x.to, .int .i64 x.drops]))) _ { HF.out with f6 := fun _ => rfl, f7 := fun _ => rfl }
   ·rintro L ⟨gh, s⟩ W hu hd hdn H K Q hK
    have HF := Lib.hid H
    clear H hd
    try simp only
    gi_wp2
    exact hK (gh, (upd s 17 (.pointer (some ⟨T.g, 0, none⟩)))) _ { HF.out with f8 := fun _ => rfl }
   ·rintro L ⟨gh, s⟩ W hu hd hdn H K Q hK
    have e8 := H.f8 (hd.at_ 8 rfl)
    have tl := (HA.out.below H.g1).blk.lt
    have HF := Lib.hid H
    clear H hd
    try simp only at e8 ⊢
    gi_wp2
    exact hK (gh, (upd (upd s 17 (.pointer (some ⟨T.g, 0, none⟩))) 18 (.pointer (some ⟨T.g, 0, none⟩)))) _ { HF.out with f8 := fun _ => rfl, f9 := fun _ => rfl }
   ·rintro L ⟨gh, s⟩ W hu hd hdn H K Q hK
    have e9 := H.f9 (hd.at_ 9 rfl)
    have HF := Lib.hid H
    clear H hd
    try simp only at e9 ⊢
    gi_wp2
    exact hK (gh, (upd (upd s 18 (.pointer (some ⟨T.g, 0, none⟩))) 19 (.pointer (some ⟨T.g, 4, none⟩)))) _ { HF.out with f9 := fun _ => rfl, f10 := fun _ => rfl }
   ·rintro L ⟨gh, s⟩ W hu hd hdn H K Q hK
    have e10 := H.f10 (hd.at_ 10 rfl)
    have t4 : W.cell? ⟨T.g, 4, none⟩ = some (.slice (some ⟨bl, ol, none⟩) T.nl T.cl) := by rw [← HAL.out]; exact (HA.out.below H.g1).blk.cell 4
    have HF := Lib.hid H
    clear H hd
    try simp only at e10 ⊢
    gi_wp2
    exact hK (gh, (upd (upd s 19 (.pointer (some ⟨T.g, 4, none⟩))) 20 (.slice (some ⟨bl, ol, none⟩) T.nl T.cl))) _ { HF.out with f10 := fun _ => rfl, f11 := fun _ => rfl }
   ·rintro L ⟨gh, s⟩ W hu hd hdn H K Q hK
    have HF := Lib.hid H
    clear H hd
    try simp only
    gi_wp2
    exact hK (gh, (upd s 21 (.int .i64 k))) _ { HF.out with f12 := fun _ => rfl }
   ·rintro L ⟨gh, s⟩ W hu hd hdn H K Q hK
    have e11 := H.f11 (hd.at_ 11 rfl)
    have e12 := H.f12 (hd.at_ 12 rfl)
    have hkl := HKL.out
    have HF := Lib.hid H
    clear H hd
    try simp only at e11 e12 ⊢
    gi_wp2
    exact hK (gh, (upd (upd (upd s 20 (.slice (some ⟨bl, ol, none⟩) T.nl T.cl)) 21 (.int .i64 k)) 22 (.pointer (some ⟨bl, ol + k * 4, none⟩)))) _ { HF.out with f11 := fun _ => rfl, f12 := fun _ => rfl, f13 := fun _ => rfl }
   ·rintro L ⟨gh, s⟩ W hu hd hdn H K Q hK
    have e13 := H.f13 (hd.at_ 13 rfl)
    have l0 : W.cell? ⟨bl, ol + k * 4, none⟩ = some (.int .i64 (heldAt s0 0)) := (H.g1.cell (p := ⟨bl, ol + k * 4, none⟩) HBL.out).trans (HCL.out 0 _ rfl)
    have l1 : W.cell? ⟨bl, ol + k * 4 + 1, none⟩ = some (.int .i64 (heldAt s0 1)) := (H.g1.cell (p := ⟨bl, ol + k * 4 + 1, none⟩) HBL.out).trans (HCL.out 1 _ rfl)
    have l2 : W.cell? ⟨bl, ol + k * 4 + 2, none⟩ = some (.int .i64 (heldAt s0 2)) := (H.g1.cell (p := ⟨bl, ol + k * 4 + 2, none⟩) HBL.out).trans (HCL.out 2 _ rfl)
    have l3 : W.cell? ⟨bl, ol + k * 4 + 3, none⟩ = some (.int .i64 (heldAt s0 3)) := (H.g1.cell (p := ⟨bl, ol + k * 4 + 3, none⟩) HBL.out).trans (HCL.out 3 _ rfl)
    have HF := Lib.hid H
    clear H hd
    try simp only at e13 ⊢
    gi_wp2
    exact hK (gh, (upd (upd s 22 (.pointer (some ⟨bl, ol + k * 4, none⟩))) 23 (.agg #[.int .i64 (heldAt s0 0), .int .i64 (heldAt s0 1), .int .i64 (heldAt s0 2), .int .i64 (heldAt s0 3)]))) _ { HF.out with f13 := fun _ => rfl, f14 := fun _ => rfl }
   ·rintro L ⟨gh, s⟩ W hu hd hdn H K Q hK
    have h17 : L 17 = false := by
     cases hc : L 17 with
     | false => rfl
     | true => exact hdn.no 17 15 hc rfl hu
    have HF := Lib.hid H
    clear H hd
    try simp only
    gi_wp2
    have hb : Below W.heap.size W (W.alloc (.cells #[.int .i64 0, .int .i64 0, .int .i64 0, .int .i64 0] 43)) := (Below.refl _ _).alloc (Nat.le_refl _) _
    exact hK ((W.heap.size, gh.2), (upd s 5 (.pointer (some ⟨W.heap.size, 0, none⟩)))) _ { HF.out with g1 := HF.out.g1.trans (hb.mono HF.out.g1.size), gA := fun _ => ⟨HF.out.g1.size, by simp, fun _ => Blk.new W _ _, fun h => absurd (h17.symm.trans h) (by decide)⟩, gB := fun h => ⟨(HF.out.gB h).1, Nat.lt_of_lt_of_le (HF.out.gB h).2.1 hb.size, fun q => ((HF.out.gB h).2.2.1 q).below hb (HF.out.gB h).2.1, fun q => ((HF.out.gB h).2.2.2 q).below hb (HF.out.gB h).2.1⟩, gN := fun _ h => Nat.ne_of_gt (HF.out.gB h).2.1, f15 := fun _ => rfl }
   ·rintro L ⟨gh, s⟩ W hu hd hdn H K Q hK
    have h18 : L 18 = false := by
     cases hc : L 18 with
     | false => rfl
     | true => exact hdn.no 18 16 hc rfl hu
    have HF := Lib.hid H
    clear H hd
    try simp only
    gi_wp2
    have hb : Below W.heap.size W (W.alloc (.cells #[.int .i64 0, .int .i64 0, .int .i64 0, .int .i64 0] 74)) := (Below.refl _ _).alloc (Nat.le_refl _) _
    exact hK ((gh.1, W.heap.size), (upd s 6 (.pointer (some ⟨W.heap.size, 0, none⟩)))) _ { HF.out with g1 := HF.out.g1.trans (hb.mono HF.out.g1.size), gB := fun _ => ⟨HF.out.g1.size, by simp, fun _ => Blk.new W _ _, fun h => absurd (h18.symm.trans h) (by decide)⟩, gA := fun h => ⟨(HF.out.gA h).1, Nat.lt_of_lt_of_le (HF.out.gA h).2.1 hb.size, fun q => ((HF.out.gA h).2.2.1 q).below hb (HF.out.gA h).2.1, fun q => ((HF.out.gA h).2.2.2 q).below hb (HF.out.gA h).2.1⟩, gN := fun h _ => Nat.ne_of_lt (HF.out.gA h).2.1, f16 := fun _ => rfl }
   ·rintro L ⟨gh, s⟩ W hu hd hdn H K Q hK
    have e15 := H.f15 (hd.at_ 15 rfl)
    have e7 := H.f7 (hd.at_ 7 rfl)
    have d15 := hd.at_ 15 rfl
    have RA := (H.gA d15).2.2.1 hu
    have y0 := RA.cell 0
    have z0 := RA.frozen 0
    have y1 := RA.cell 1
    have z1 := RA.frozen 1
    have y2 := RA.cell 2
    have z2 := RA.frozen 2
    have y3 := RA.cell 3
    have z3 := RA.frozen 3
    have rl := RA.lt
    have HRA := Lib.hid RA
    have HGE := Lib.hid (H.gA d15).1
    have HD15 := Lib.hid d15
    clear RA d15
    have HF := Lib.hid H
    clear H hd
    try simp only at e15 e7 ⊢
    gi_wp2
    have R := ret4' HRA.out (Below.refl gh.1 W) (Nat.le_refl _) (.int .i64 x.kind) (.int .i64 x.fr) (.int .i64 x.to) (.int .i64 x.drops)
    exact hK (gh, (upd (upd s 5 (.pointer (some ⟨gh.1, 0, none⟩))) 16 (.agg #[.int .i64 x.kind, .int .i64 x.fr, .int .i64 x.to, .int .i64 x.drops]))) _ { HF.out with g1 := HF.out.g1.trans (R.2.1.mono HGE.out), gA := fun _ => ⟨HGE.out, R.1.lt, (fun h => by cases h), fun _ => R.1⟩, gB := fun h => ⟨(HF.out.gB h).1, Nat.lt_of_lt_of_le (HF.out.gB h).2.1 R.2.2.size, fun q => ((HF.out.gB h).2.2.1 q).grown R.2.2 (fun e => HF.out.gN HD15.out h (Option.some.inj e).symm), fun q => ((HF.out.gB h).2.2.2 q).grown R.2.2 (fun e => HF.out.gN HD15.out h (Option.some.inj e).symm)⟩, f7 := fun _ => rfl, f15 := fun _ => rfl }
   ·rintro L ⟨gh, s⟩ W hu hd hdn H K Q hK
    have e16 := H.f16 (hd.at_ 16 rfl)
    have e14 := H.f14 (hd.at_ 14 rfl)
    have d16 := hd.at_ 16 rfl
    have RB := (H.gB d16).2.2.1 hu
    have y0 := RB.cell 0
    have z0 := RB.frozen 0
    have y1 := RB.cell 1
    have z1 := RB.frozen 1
    have y2 := RB.cell 2
    have z2 := RB.frozen 2
    have y3 := RB.cell 3
    have z3 := RB.frozen 3
    have rl := RB.lt
    have HRB := Lib.hid RB
    have HGE := Lib.hid (H.gB d16).1
    have HD16 := Lib.hid d16
    clear RB d16
    have HF := Lib.hid H
    clear H hd
    try simp only at e16 e14 ⊢
    gi_wp2
    have R := ret4' HRB.out (Below.refl gh.2 W) (Nat.le_refl _) (.int .i64 (heldAt s0 0)) (.int .i64 (heldAt s0 1)) (.int .i64 (heldAt s0 2)) (.int .i64 (heldAt s0 3))
    exact hK (gh, (upd (upd s 6 (.pointer (some ⟨gh.2, 0, none⟩))) 23 (.agg #[.int .i64 (heldAt s0 0), .int .i64 (heldAt s0 1), .int .i64 (heldAt s0 2), .int .i64 (heldAt s0 3)]))) _ { HF.out with g1 := HF.out.g1.trans (R.2.1.mono HGE.out), gB := fun _ => ⟨HGE.out, R.1.lt, (fun h => by cases h), fun _ => R.1⟩, gA := fun h => ⟨(HF.out.gA h).1, Nat.lt_of_lt_of_le (HF.out.gA h).2.1 R.2.2.size, fun q => ((HF.out.gA h).2.2.1 q).grown R.2.2 (fun e => HF.out.gN h HD16.out (Option.some.inj e)), fun q => ((HF.out.gA h).2.2.2 q).grown R.2.2 (fun e => HF.out.gN h HD16.out (Option.some.inj e))⟩, f14 := fun _ => rfl, f16 := fun _ => rfl }
  ·rintro L ⟨gh, s⟩ W hall H
   obtain ⟨g1, gA, gB, gN, f0, f1, f2, f3, f4, f5, f6, f7, f8, f9, f10, f11, f12, f13, f14, f15, f16⟩ := H
   have a15 := hall 15 (by decide)
   have a16 := hall 16 (by decide)
   have GA := gA a15
   have GB := gB a16
   have GN := gN a15 a16
   have GA2 := GA.2.2.2 (hall 17 (by decide))
   have GB2 := GB.2.2.2 (hall 18 (by decide))
   have e5 := f15 a15
   have e6 := f16 a16
   have HGG := Lib.hid (And.intro GN (And.intro g1 (And.intro GA.1 (And.intro GB.1 (And.intro GA2 GB2)))))
   clear f16 f15 f14 f13 f12 f11 f10 f9 f8 f7 f6 f5 f4 f3 f2 f1 f0 gN gB gA g1 GA GB GN GA2 GB2 a15 a16 hall
   try simp only at e5 e6 ⊢
   gi_wp2
   gi_meet
   exact ⟨_, _, rfl, rfl, HGG⟩
 case rest =>
  obtain ⟨g5, g6, rfl, rfl, HC⟩ := hcut
  rename World => C1
  replace HLay := Lib.hid (((show Lay w C1 [] from ⟨HC.out.2.1, fun b hb => by simp at hb⟩).add HC.out.2.2.1 HC.out.2.2.2.2.1).add HC.out.2.2.2.1 HC.out.2.2.2.2.2)
  have HN56 := Lib.hid HC.out.1
  clear HC
  gi_wp2
  refine wpIn_flow_old [([true, true], 2), ([], 3), ([false, false, false, false, true, true, false, true, true, false, false, true, true, true], 6), ([false, false, false, false, false, false, false, false, false, true, true], 14)] [false, false, false, false, false, false, false, false, false, false, false, false, false, false, false, true, true] [] (by kernel_rfl) (by kernel_rfl) (by kernel_rfl) (below_drewN (Below.refl _ _) 1) ?_
  refine wpFlow_cons (A := ?AF1) rfl ?hq1 ?_
  case hq1 =>
   rintro σ hσ of hof hcl
   have HOF := Lib.hid hof
   have HCL := Lib.hid hcl
   clear hof hcl
   have c0_ : ∀ z, (of z).cell? ⟨g5, 0, none⟩ = some (.int .i64 x.kind) := fun z => ((HLay.out.below (HOF.out z)).blk 0 rfl).cell 0
   have c1_ : ∀ z, (of z).cell? ⟨g5, 1, none⟩ = some (.int .i64 x.fr) := fun z => ((HLay.out.below (HOF.out z)).blk 0 rfl).cell 1
   have c2_ : ∀ z, (of z).cell? ⟨g5, 2, none⟩ = some (.int .i64 x.to) := fun z => ((HLay.out.below (HOF.out z)).blk 0 rfl).cell 2
   have c3_ : ∀ z, (of z).cell? ⟨g5, 3, none⟩ = some (.int .i64 x.drops) := fun z => ((HLay.out.below (HOF.out z)).blk 0 rfl).cell 3
   have c4_ : ∀ z, (of z).cell? ⟨g6, 0, none⟩ = some (.int .i64 (heldAt s 0)) := fun z => ((HLay.out.below (HOF.out z)).blk 1 rfl).cell 0
   have c5_ : ∀ z, (of z).cell? ⟨g6, 1, none⟩ = some (.int .i64 (heldAt s 1)) := fun z => ((HLay.out.below (HOF.out z)).blk 1 rfl).cell 1
   have c6_ : ∀ z, (of z).cell? ⟨g6, 2, none⟩ = some (.int .i64 (heldAt s 2)) := fun z => ((HLay.out.below (HOF.out z)).blk 1 rfl).cell 2
   have c7_ : ∀ z, (of z).cell? ⟨g6, 3, none⟩ = some (.int .i64 (heldAt s 3)) := fun z => ((HLay.out.below (HOF.out z)).blk 1 rfl).cell 3
   have hfw : ∀ f, Fence.wide.fn f := fun _ => trivial
   simp only [pickB]
   repeat (gi_big_quiet_step (fail))
   refine wpQuietIn_nil ?_
   exact rfl
  intro W1 hW
  replace HLay := Lib.hid (HLay.out.below hW)
  clear hW
  gi_wp2
  refine ⟨trivial, (Below.refl _ _).alloc (Nat.le_refl _) _, ?_⟩
  have hb : Below W1.heap.size W1 (W1.alloc (.cells #[.int .i64 x.kind] 3)) := (Below.refl _ _).alloc (Nat.le_refl _) _
  replace HLay := Lib.hid (HLay.out.below hb)
  have HPl := Lib.hid (show IntsAt (W1.alloc (.cells #[.int .i64 x.kind] 3)) (W1.alloc (.cells #[.int .i64 x.kind] 3)).heap.size (some ⟨W1.heap.size, 0, none⟩) 1 [x.kind] from IntsAt.new W1 3 [x.kind] _ (by simp))
  obtain ⟨P3, hP⟩ : ∃ P, W1.heap.size = P := ⟨_, rfl⟩
  rw [hP] at HPl ⊢
  generalize (W1.alloc (.cells #[.int .i64 x.kind] 3)) = V2 at *
  clear hb hP
  refine wpFlow_cons rfl Quietly.none ?_
  intro W4 hW
  replace HLay := Lib.hid (HLay.out.below hW)
  replace HPl := Lib.hid ((HPl.out.below hW).more hW.size)
  clear hW
  gi_wp2
  refine ⟨trivial, (callsIn_wide.2 (in_any 1 4 (some ⟨P3, 0, none⟩) 1 1 [x.kind] W4 HPl.out (by decide))).mono ?_⟩
  rintro e W5 ⟨rfl, hb⟩
  replace HLay := Lib.hid (HLay.out.below hb)
  replace HPl := Lib.hid ((HPl.out.below hb).more hb.size)
  rw [HKI.out]
  gi_wp2
  refine ⟨trivial, hb, ?_⟩
  clear hb
  clear HPl
  refine wpFlow_cons (A := ?AF2) rfl ?hq2 ?_
  case hq2 =>
   rintro σ hσ of hof hcl
   have HOF := Lib.hid hof
   have HCL := Lib.hid hcl
   clear hof hcl
   have c0_ : ∀ z, (of z).cell? ⟨g5, 0, none⟩ = some (.int .i64 x.kind) := fun z => ((HLay.out.below (HOF.out z)).blk 0 rfl).cell 0
   have c1_ : ∀ z, (of z).cell? ⟨g5, 1, none⟩ = some (.int .i64 x.fr) := fun z => ((HLay.out.below (HOF.out z)).blk 0 rfl).cell 1
   have c2_ : ∀ z, (of z).cell? ⟨g5, 2, none⟩ = some (.int .i64 x.to) := fun z => ((HLay.out.below (HOF.out z)).blk 0 rfl).cell 2
   have c3_ : ∀ z, (of z).cell? ⟨g5, 3, none⟩ = some (.int .i64 x.drops) := fun z => ((HLay.out.below (HOF.out z)).blk 0 rfl).cell 3
   have c4_ : ∀ z, (of z).cell? ⟨g6, 0, none⟩ = some (.int .i64 (heldAt s 0)) := fun z => ((HLay.out.below (HOF.out z)).blk 1 rfl).cell 0
   have c5_ : ∀ z, (of z).cell? ⟨g6, 1, none⟩ = some (.int .i64 (heldAt s 1)) := fun z => ((HLay.out.below (HOF.out z)).blk 1 rfl).cell 1
   have c6_ : ∀ z, (of z).cell? ⟨g6, 2, none⟩ = some (.int .i64 (heldAt s 2)) := fun z => ((HLay.out.below (HOF.out z)).blk 1 rfl).cell 2
   have c7_ : ∀ z, (of z).cell? ⟨g6, 3, none⟩ = some (.int .i64 (heldAt s 3)) := fun z => ((HLay.out.below (HOF.out z)).blk 1 rfl).cell 3
   have hfw : ∀ f, Fence.wide.fn f := fun _ => trivial
   simp only [pickB]
   repeat (gi_big_quiet_step (fail))
   refine wpQuietIn_nil ?_
   exact rfl
  intro W6 hW
  replace HLay := Lib.hid (HLay.out.below hW)
  clear hW
  gi_wp2
  refine ⟨trivial, ?_⟩
  gi_wp2
  refine ⟨trivial, Below.refl _ _, ?_⟩
  refine wpFlow_cons (A := ?AF3) rfl ?hq3 ?_
  case hq3 =>
   rintro σ hσ of hof hcl
   have HOF := Lib.hid hof
   have HCL := Lib.hid hcl
   clear hof hcl
   have c0_ : ∀ z, (of z).cell? ⟨g5, 0, none⟩ = some (.int .i64 x.kind) := fun z => ((HLay.out.below (HOF.out z)).blk 0 rfl).cell 0
   have c1_ : ∀ z, (of z).cell? ⟨g5, 1, none⟩ = some (.int .i64 x.fr) := fun z => ((HLay.out.below (HOF.out z)).blk 0 rfl).cell 1
   have c2_ : ∀ z, (of z).cell? ⟨g5, 2, none⟩ = some (.int .i64 x.to) := fun z => ((HLay.out.below (HOF.out z)).blk 0 rfl).cell 2
   have c3_ : ∀ z, (of z).cell? ⟨g5, 3, none⟩ = some (.int .i64 x.drops) := fun z => ((HLay.out.below (HOF.out z)).blk 0 rfl).cell 3
   have c4_ : ∀ z, (of z).cell? ⟨g6, 0, none⟩ = some (.int .i64 (heldAt s 0)) := fun z => ((HLay.out.below (HOF.out z)).blk 1 rfl).cell 0
   have c5_ : ∀ z, (of z).cell? ⟨g6, 1, none⟩ = some (.int .i64 (heldAt s 1)) := fun z => ((HLay.out.below (HOF.out z)).blk 1 rfl).cell 1
   have c6_ : ∀ z, (of z).cell? ⟨g6, 2, none⟩ = some (.int .i64 (heldAt s 2)) := fun z => ((HLay.out.below (HOF.out z)).blk 1 rfl).cell 2
   have c7_ : ∀ z, (of z).cell? ⟨g6, 3, none⟩ = some (.int .i64 (heldAt s 3)) := fun z => ((HLay.out.below (HOF.out z)).blk 1 rfl).cell 3
   have hfw : ∀ f, Fence.wide.fn f := fun _ => trivial
   simp only [pickB]
   repeat (gi_big_quiet_step (fail))
   refine wpQuietIn_nil ?_
   exact rfl
  intro W7 hW
  replace HLay := Lib.hid (HLay.out.below hW)
  clear hW
  gi_wp2
  refine ⟨fun _ _ => trivial, ?_⟩
  gi_wp2
  refine ⟨trivial, Below.refl _ _, ?_⟩
  refine wpFlow_nil (A := ?AF4) ?hq4 ?_
  case hq4 =>
   rintro σ hσ of hof hcl
   have HOF := Lib.hid hof
   have HCL := Lib.hid hcl
   clear hof hcl
   have c0_ : ∀ z, (of z).cell? ⟨g5, 0, none⟩ = some (.int .i64 x.kind) := fun z => ((HLay.out.below (HOF.out z)).blk 0 rfl).cell 0
   have c1_ : ∀ z, (of z).cell? ⟨g5, 1, none⟩ = some (.int .i64 x.fr) := fun z => ((HLay.out.below (HOF.out z)).blk 0 rfl).cell 1
   have c2_ : ∀ z, (of z).cell? ⟨g5, 2, none⟩ = some (.int .i64 x.to) := fun z => ((HLay.out.below (HOF.out z)).blk 0 rfl).cell 2
   have c3_ : ∀ z, (of z).cell? ⟨g5, 3, none⟩ = some (.int .i64 x.drops) := fun z => ((HLay.out.below (HOF.out z)).blk 0 rfl).cell 3
   have c4_ : ∀ z, (of z).cell? ⟨g6, 0, none⟩ = some (.int .i64 (heldAt s 0)) := fun z => ((HLay.out.below (HOF.out z)).blk 1 rfl).cell 0
   have c5_ : ∀ z, (of z).cell? ⟨g6, 1, none⟩ = some (.int .i64 (heldAt s 1)) := fun z => ((HLay.out.below (HOF.out z)).blk 1 rfl).cell 1
   have c6_ : ∀ z, (of z).cell? ⟨g6, 2, none⟩ = some (.int .i64 (heldAt s 2)) := fun z => ((HLay.out.below (HOF.out z)).blk 1 rfl).cell 2
   have c7_ : ∀ z, (of z).cell? ⟨g6, 3, none⟩ = some (.int .i64 (heldAt s 3)) := fun z => ((HLay.out.below (HOF.out z)).blk 1 rfl).cell 3
   have hfw : ∀ f, Fence.wide.fn f := fun _ => trivial
   simp only [pickB]
   repeat (gi_big_quiet_step (fail))
   refine wpQuietIn_nil ?_
   exact rfl
  intro W8 hW
  replace HLay := Lib.hid (HLay.out.below hW)
  clear hW
  simp only [pickB]
  refine wpT_nil ?_
  gi_wp2
  refine bodyPost_ret (v := .bool false) (by simp [results, Tryd.results43, go_sem]) rfl ?_
  exact ⟨rfl, HLay.out.1⟩

end Go.Proofs.YtjdgdeiedkickaaDoor.Mx
/- An act more, whatever its kind; rising. -/
namespace Go.Proofs.YtjdgdeiedkickaaDoor.Mx
open Go.RowKit

theorem some_dec {α : Type} {P : Prop} [Decidable P] {a : α} : (if P then some a else none).isSome = decide P := by
 by_cases h : P
 ·rw [if_pos h, decide_eq_true h]; rfl
 ·rw [if_neg h, decide_eq_false h]; rfl
theorem done1 (m : Mix) (s : Held) (fr to dr : Int) : right1B m s ⟨1, fr, to, dr⟩ = (doneM m s ⟨1, fr, to, dr⟩).isSome := by
 unfold right1B roomB roomJ doneM
 dsimp only
 rw [if_pos rfl, some_dec, ← Bool.decide_and, decide_eq_decide]
theorem done2 (m : Mix) (s : Held) (fr to dr : Int) : right2B m s ⟨2, fr, to, dr⟩ = (doneM m s ⟨2, fr, to, dr⟩).isSome := by
 unfold right2B heldB heldJ roomB roomJ doneM
 dsimp only
 rw [if_neg (by decide), if_pos rfl]
 by_cases h : idxV m.vessels fr < 0
 ·rw [if_pos h]
  simp
  intro _ h0
  omega
 ·rw [if_neg h, some_dec, ← decide_not, ← Bool.decide_and, ← Bool.decide_and, decide_eq_decide]
  constructor
  ·rintro ⟨h1, ⟨h2, h3⟩, h4, h5, h6⟩; exact ⟨h1, h3, h4, h6⟩
  ·rintro ⟨h1, h2, h3, h4⟩; exact ⟨h1, ⟨by omega, h2⟩, h3, by omega, h4⟩
theorem done3 (m : Mix) (s : Held) (fr to dr : Int) : right3B m s ⟨3, fr, to, dr⟩ = (doneM m s ⟨3, fr, to, dr⟩).isSome := by
 unfold right3B heldB heldJ doneM
 dsimp only
 rw [if_neg (show ¬ (3 : Int) = 1 by decide), if_neg (show ¬ (3 : Int) = 2 by decide), if_pos (show (3 : Int) = 3 from rfl)]
 by_cases h : idxV m.vessels fr < 0
 ·rw [if_pos h]
  simp
  intro _ h0
  omega
 ·rw [if_neg h, some_dec, ← Bool.decide_and, decide_eq_decide]
  constructor
  ·rintro ⟨h1, h2, h3⟩; exact ⟨h1, h3⟩
  ·rintro ⟨h1, h2⟩; exact ⟨h1, by omega, h2⟩
theorem done4 (m : Mix) (s : Held) (fr to dr : Int) : right4B m s ⟨4, fr, to, dr⟩ = (doneM m s ⟨4, fr, to, dr⟩).isSome := by
 unfold right4B doneM
 dsimp only
 rw [if_neg (show ¬ (4 : Int) = 1 by decide), if_neg (show ¬ (4 : Int) = 2 by decide), if_neg (show ¬ (4 : Int) = 3 by decide), if_pos (show (4 : Int) = 4 from rfl)]
 by_cases h : idxV m.vessels fr < 0
 ·rw [if_pos h]
  simp
  intro _ _
  omega
 ·rw [if_neg h, some_dec, ← Bool.decide_and, decide_eq_decide]
  constructor
  ·rintro ⟨h1, h2⟩; exact h1
  ·intro h1; exact ⟨h1, by omega⟩
theorem done_bad {m : Mix} {s : Held} {x : MAct} (h : ¬ KindOk x) : (doneM m s x).isSome = false := by
 unfold KindOk at h
 unfold doneM
 rw [if_neg (by omega), if_neg (show ¬ x.kind = 2 by omega), if_neg (show ¬ x.kind = 3 by omega), if_neg (show ¬ x.kind = 4 by omega)]
 split <;> rfl
theorem size_small {m : Mix} {s : Held} {x : MAct} (hv : m.vessels.length ≤ 4) (hz : VesOk m) (hs : s.length = 4 ∧ ∀ q : Nat, 0 ≤ heldAt s q ∧ heldAt s q ≤ 1000) (h : (doneM m s x).isSome = true) :
  0 ≤ sizeA m s x ∧ sizeA m s x ≤ 2000 ∧ (x.kind = 4 → 0 ≤ fromI m x) ∧ (fromI m x ≠ toI m x ∨ fromI m x < 0) := by
 obtain ⟨s', hd⟩ := Option.isSome_iff_exists.1 h
 obtain ⟨hok, _⟩ := done_ok hd hs.1 hv
 have hap : fromI m x ≠ toI m x ∨ fromI m x < 0 := by
  unfold fromI toI
  by_cases e1 : x.kind = 1
  ·right; rw [if_pos e1]; decide
  ·by_cases e2 : x.kind = 2
   ·left
    have := hok.apart e2
    simp only [e2]
    simpa using this
   ·left
    have := hok.from_ e1
    rw [if_neg e1, if_neg (by omega)]
    omega
 have hh : ∀ j : Int, 0 ≤ heldAt s j ∧ heldAt s j ≤ 1000 := fun j => by rw [heldAt_nat]; exact hs.2 _
 refine ⟨?_, ?_, fun e4 => by unfold fromI; rw [if_neg (by omega)]; exact hok.from_ (by omega), hap⟩
 ·unfold sizeA
  split
  ·exact (hh _).1
  ·rename_i e4
   have := hok.size
   have := hok.kind
   omega
 ·unfold sizeA
  split
  ·have := (hh (fromI m x)).2; omega
  ·rename_i e4
   by_cases e1 : x.kind = 1
   ·unfold doneM at hd
    rw [if_pos e1] at hd
    split at hd
    ·rename_i hc
     obtain ⟨_, h0, _, h2⟩ := hc
     have h3 := (hh (idxV m.vessels x.to)).1
     have h4 : sizeV m.vessels (idxV m.vessels x.to) ≤ 12 := by
      unfold sizeV
      have hlt := idxV_lt h0
      rw [List.getElem?_eq_getElem (by omega)]
      exact (hz _ (List.getElem_mem _)).2
     omega
    ·cases hd
   ·have := hok.size.2 (by have := hok.kind; omega)
    have := (hh (idxV m.vessels x.fr)).2
    omega
theorem held_le {s : Held} (hs : s.length = 4 ∧ ∀ q : Nat, 0 ≤ heldAt s q ∧ heldAt s q ≤ 1000) : s.length = 4 ∧ Small s 2000 := ⟨hs.1, fun q => by have := hs.2 q; omega⟩
theorem act_in (B : Nat) (T : Tb) (k : Nat) (x : MAct) (s : Held) (w : World) (h : TbOwn w B T) (hx : T.m.acts[k]? = some x) (ha : T.L[k]? = some s) (hn : T.nl ≤ 12) (hz : VesOk T.m) (hs : s.length = 4 ∧ ∀ q : Nat, 0 ≤ heldAt s q ∧ heldAt s q ≤ 1000) :
  CallsIn Fence.wide 9 Tryd.prog 43 #[.pointer (some ⟨T.g, 0, none⟩), .int .i64 k] w (ActOut w B T (doneM T.m s x).isSome (shiftH s (fromI T.m x) (toI T.m x) (sizeA T.m s x))) := by
 have hv : T.m.vessels.length ≤ 4 := by have := h.mix.lenV; have := h.small; omega
 by_cases hk : KindOk x
 ·obtain ⟨kk, fr, to, dr⟩ := x
  have hk' := hk
  rcases hk' with e | e | e | e <;> dsimp only at e <;> subst e
  ·refine act_core B T k ⟨1, fr, to, dr⟩ s 61 (.func (.func 63) #[] #[]) (.func (.func 64) #[] #[]) _ w h hx ha hn hk (fun _ => by kernel_rfl) enters_kinds1 (fun _ => by kernel_rfl) (fun W hW => ?_) (held_le hs) (fun hr => size_small hv hz hs hr)
   rw [← done1]
   exact kind1_in T s _ W (h.at_.below hW) hs.2 hz
  ·refine act_core B T k ⟨2, fr, to, dr⟩ s 65 (.func (.func 67) #[] #[]) (.func (.func 64) #[] #[]) _ w h hx ha hn hk (fun _ => by kernel_rfl) enters_kinds2 (fun _ => by kernel_rfl) (fun W hW => ?_) (held_le hs) (fun hr => size_small hv hz hs hr)
   rw [← done2]
   exact kind2_in T s _ W (h.at_.below hW) hs.2 hz
  ·refine act_core B T k ⟨3, fr, to, dr⟩ s 68 (.func (.func 67) #[] #[]) (.func (.func 63) #[] #[]) _ w h hx ha hn hk (fun _ => by kernel_rfl) enters_kinds3 (fun _ => by kernel_rfl) (fun W hW => ?_) (held_le hs) (fun hr => size_small hv hz hs hr)
   rw [← done3]
   exact kind3_in T s _ W (h.at_.below hW) hs.2 hz
  ·refine act_core B T k ⟨4, fr, to, dr⟩ s 69 (.func (.func 67) #[] #[]) (.func (.func 63) #[] #[]) _ w h hx ha hn hk (fun _ => by kernel_rfl) enters_kinds4 (fun _ => by kernel_rfl) (fun W hW => ?_) (held_le hs) (fun hr => size_small hv hz hs hr)
   rw [← done4]
   exact kind4_in T s _ W (h.at_.below hW) hs.2 hz
 ·rw [done_bad hk]
  exact (act_bad B T k x s w h hx ha hk).mono fun e w' ⟨h1, h2⟩ => .inl ⟨rfl, h1, h2⟩

theorem ris_step {l : List Int} {k : Nat} {x : Int} (hx : l[k]? = some x) (h : risB 0 (l.take k) = true) : risB 0 (l.take (k + 1)) = inB ((l.take k).getLast?.getD 0 + 1) 9999 [x] := by
 obtain ⟨hk, rfl⟩ := List.getElem?_eq_some_iff.1 hx
 rw [List.take_succ_eq_append_getElem hk, risB_snoc, h, Bool.true_and, inB_one]
theorem ris_pre : ∀ {a : Int} {l : List Int} {k : Nat}, risB a l = true → risB a (l.take k) = true
 | _, [], _, _ => by simp [risB]
 | _, _ :: _, 0, _ => rfl
 | a, x :: l, k + 1, h => by
  unfold risB at h
  rw [Bool.and_eq_true] at h
  show risB a (x :: l.take k) = true
  unfold risB
  rw [Bool.and_eq_true]
  exact ⟨h.1, ris_pre h.2⟩
theorem ris_last {l : List Int} (h : risB 0 l = true) : 0 ≤ l.getLast?.getD 0 ∧ l.getLast?.getD 0 ≤ 9999 := by
 cases hl : l.getLast? with
 | none => simp
 | some x =>
  have := (risB_pair h).2 x (List.mem_of_getLast? hl)
  simp
  omega
set_option maxRecDepth 100000 in
set_option maxHeartbeats 4000000 in
theorem rising_any (A : Option Addr) (n c : Nat) (l : List Int) (w : World) (hr : IntsAt w w.heap.size A n l) (hn : n ≤ 1000) :
  Calls Tryd.prog 44 #[.slice A n c] w fun e w' => e = .returned (.bool (risB 0 l)) ∧ Below w.heap.size w w' := by
 have HR := Lib.hid hr
 go_enter Tryd.func44, Tryd.ntmps44
 go_wp2_with fail
 go_loopw [3, 5, 8] (fun p q i wr => ∃ k : Nat, k ≤ n ∧ i = .int .i64 k ∧ p = .int .i64 ((l.take k).getLast?.getD 0) ∧ Hid (risB 0 (l.take k) = true ∧ Below w.heap.size w wr))
  (fun _ _ i _ => n - (intOf i).toNat)
 case atStart => exact ⟨0, by omega, rfl, rfl, Lib.hid ⟨rfl, Below.refl _ _⟩⟩
 case round =>
  obtain ⟨k, hk, rfl, rfl, HS⟩ := hrel
  obtain ⟨hl0, hl1⟩ := ris_last HS.out.1
  obtain ⟨p, hp⟩ : ∃ p, (l.take k).getLast?.getD 0 = p := ⟨_, rfl⟩
  rw [hp] at hl0 hl1 ⊢
  by_cases hlt : k < n
  ·obtain ⟨b, off, x, rfl, hbB, hx, hc⟩ := (HR.out.below HS.out.2).cell hlt
   have HX := Lib.hid hx
   have HP := Lib.hid hp
   clear hx hp hr
   go_wp2_with fail
   have hb1 : Below wr.heap.size wr (wr.alloc (.cells #[.int .i64 x] 3)) := (Below.refl _ _).alloc (Nat.le_refl _) _
   refine (in_any (p + 1) 9999 (some ⟨wr.heap.size, 0, none⟩) 1 1 [x] _ (IntsAt.new wr 3 [x] _ (by simp)) (by decide)).mono ?_
   rintro e W ⟨rfl, hb2⟩
   have HB := Lib.hid (HS.out.2.trans ((hb1.trans (hb2.mono hb1.size)).mono HS.out.2.size))
   have HRS := Lib.hid (ris_step HX.out HS.out.1)
   rw [HP.out] at HRS
   clear hb1 hb2
   cases hi : inB (p + 1) 9999 [x] with
   | false =>
    rw [hi] at HRS
    clear hi
    go_wp2_with fail
    go_ret
    refine ⟨ret_bool ?_, HB.out⟩
    cases h0 : risB 0 l with
    | false => rfl
    | true => exact absurd ((ris_pre (k := k + 1) h0).symm.trans HRS.out) (by decide)
   | true =>
    rw [hi] at HRS
    clear hi
    go_wp2_with fail
    go_roundw
    case rel =>
     refine ⟨k + 1, by omega, by go_num, ?_, Lib.hid ⟨HRS.out, HB.out⟩⟩
     obtain ⟨hk2, rfl⟩ := List.getElem?_eq_some_iff.1 HX.out
     rw [List.take_succ_eq_append_getElem hk2, List.getLast?_concat]
     rfl
    case measure => simp [intOf]; omega
  ·go_wp2_with fail
   go_ret
   have hl := HR.out.len
   have h1 := HS.out.1
   rw [List.take_of_length_le (by omega)] at h1
   exact ⟨ret_bool h1.symm, HS.out.2⟩
end Go.Proofs.YtjdgdeiedkickaaDoor.Mx
/- mix.laid: plain words, and words for memory. -/
namespace Go.Proofs.YtjdgdeiedkickaaDoor.Mx
open Go.RowKit

theorem _root_.Go.Proofs.YtjdgdeiedkickaaDoor.Lay.row {w W W' : World} {bs : List (Nat × TypeId × Array Value)} (h : Lay w W bs) {row : Option Nat} (hg : W.grownBy W' row) (hr : ∀ r, row = some r → w.heap.size ≤ r ∧ ∀ b ∈ bs, b.1 ≠ r) : Lay w W' bs :=
 ⟨h.1.grown hg h.1.size (fun k hk => (hr k hk).1), fun b hb => ⟨(h.2 b hb).1, (h.2 b hb).2.grown hg (fun e => (hr _ e.symm).2 b hb rfl)⟩⟩
theorem own_row {w : World} {base n cap size : Nat} {e : TypeId} {A : Option Addr} {xs : List Value} (h : Own w base e size A n cap xs) : ∀ r, A.map (·.block) = some r → base ≤ r ∧ r < w.heap.size := by
 intro r hr
 cases hA : A with
 | none => rw [hA] at hr; cases hr
 | some a => rw [hA] at hr; cases hr; exact h.lt hA
theorem lay3_row {w W W' : World} {t0 t1 t2 : TypeId} {c0 c1 c2 : Array Value} (h : Lay w W [(w.heap.size, t0, c0), (w.heap.size + 1, t1, c1), (w.heap.size + 1 + 1, t2, c2)]) {row : Option Nat} (hg : W.grownBy W' row) (hr : ∀ r, row = some r → w.heap.size + 3 ≤ r) : Lay w W' [(w.heap.size, t0, c0), (w.heap.size + 1, t1, c1), (w.heap.size + 1 + 1, t2, c2)] :=
 h.row hg fun r e => ⟨by have := hr r e; omega, fun b hb => by
  have := hr r e
  simp only [List.mem_cons, List.not_mem_nil, or_false] at hb
  rcases hb with rfl | rfl | rfl <;> dsimp only <;> omega⟩
theorem one_int {W : World} {g : Nat} {x : Int} {B : Nat} (hB : g < B) (h : W.cell? ⟨g, 0, none⟩ = some (.int .i64 x)) : Reads W B 1 (some ⟨g, 0, none⟩) 1 ([x].map (Value.int .i64)) :=
 ⟨rfl, fun _ => ⟨_, rfl, hB, fun j u hu => by
  match j, hu with
  | 0, hu => simp at hu; rw [← hu]; simpa [Addr.add] using h⟩⟩
theorem ints_of_own {w : World} {base n cap B : Nat} {e : TypeId} {A : Option Addr} {l : List Int} (h : Own w base e 1 A n cap (l.map (Value.int .i64))) (hB : w.heap.size ≤ B) : IntsAt w B A n l := h.reads hB
theorem vessB_in (v : Vess) : inB 1 12 [v.size] = vessB v := by rw [inB_one]; rfl
theorem all_step {α : Type} {p : α → Bool} {l : List α} {k : Nat} {x : α} (hx : l[k]? = some x) (h : (l.take k).all p = true) : (l.take (k + 1)).all p = p x := by
 obtain ⟨hk, rfl⟩ := List.getElem?_eq_some_iff.1 hx
 rw [List.take_succ_eq_append_getElem hk, List.all_append, h]
 simp
theorem all_pre {α : Type} {p : α → Bool} {l : List α} {k : Nat} (h : l.all p = true) : (l.take k).all p = true := by
 rw [List.all_eq_true] at h ⊢
 exact fun x hx => h x (List.mem_of_mem_take hx)
theorem allM_take {m : Mix} {l : List MAct} {k : Nat} {x : MAct} {L : List Held} {s : Held} (hx : l[k]? = some x) (h : allM m (l.take k) = some L) (hs : L[k]? = some s) : allM m (l.take (k + 1)) = (doneM m s x).map fun s' => L ++ [s'] := by
 obtain ⟨hk, rfl⟩ := List.getElem?_eq_some_iff.1 hx
 rw [List.take_succ_eq_append_getElem hk, allM_snoc, h]
 unfold stepM
 simp only [Option.bind_some]
 have hl := allM_len m _ L h
 rw [List.length_take, Nat.min_eq_left (Nat.le_of_lt hk)] at hl
 have : L.getLast?.getD [] = s := by
  rw [List.getLast?_eq_getElem?, hl, Nat.add_sub_cancel, hs]
  rfl
 rw [this]
theorem allM_fail {m : Mix} : ∀ {l : List MAct} {k : Nat}, allM m (l.take k) = none → allM m l = none := by
 intro l k h
 have e : l = l.take k ++ l.drop k := (List.take_append_drop k l).symm
 unfold allM at h ⊢
 rw [e, List.foldl_append, h, fold_noneM]
theorem done_range {m : Mix} {s s' : Held} {x : MAct} (hv : m.vessels.length ≤ 4) (hz : VesOk m) (hs : s.length = 4) (hb : ∀ q : Nat, 0 ≤ heldAt s q ∧ heldAt s q ≤ 12) (h : doneM m s x = some s') : s'.length = 4 ∧ ∀ q : Nat, 0 ≤ heldAt s' q ∧ heldAt s' q ≤ 12 := by
 obtain ⟨hok, e⟩ := done_ok h hs hv
 have hl : s'.length = 4 := by rw [e, shift_len]; exact hs
 refine ⟨hl, fun q => ?_⟩
 by_cases hq : q < 4
 ·rw [e, shift_get hv x hs _ hq]
  have hbq := hb q
  have hap := (size_small hv hz ⟨hs, fun q => by have := hb q; omega⟩ (by rw [h]; rfl)).2.2.2
  have h0 := (size_small hv hz ⟨hs, fun q => by have := hb q; omega⟩ (by rw [h]; rfl)).1
  have hto : toI m x = (q : Int) → heldAt s q + sizeA m s x ≤ 12 := by
   intro ht
   have hsz : ∀ id : Int, 0 ≤ idxV m.vessels id → sizeV m.vessels (idxV m.vessels id) ≤ 12 := by
    intro id h0
    unfold sizeV
    have hlt := idxV_lt h0
    rw [List.getElem?_eq_getElem (by omega)]
    exact (hz _ (List.getElem_mem _)).2
   unfold toI at ht
   by_cases e1 : x.kind = 1
   ·rw [if_pos (.inl e1)] at ht
    unfold doneM at h
    rw [if_pos e1] at h
    split at h
    ·rename_i hc
     obtain ⟨_, c0, _, c2⟩ := hc
     have := hsz _ c0
     rw [ht] at c2 this
     unfold sizeA
     rw [if_neg (by omega)]
     omega
    ·cases h
   ·by_cases e2 : x.kind = 2
    ·rw [if_pos (.inr e2)] at ht
     unfold doneM at h
     rw [if_neg e1] at h
     rw [if_neg (show ¬ idxV m.vessels x.fr < 0 from fun hlt => by have := hok.from_ e1; omega), if_pos e2] at h
     ·split at h
      ·rename_i hc
       obtain ⟨_, _, c0, c2⟩ := hc
       have := hsz _ c0
       rw [ht] at c2 this
       unfold sizeA
       rw [if_neg (by omega)]
       omega
      ·cases h
    ·rw [if_neg (by omega)] at ht
     omega
  have hfr : fromI m x = (q : Int) → sizeA m s x ≤ heldAt s q := by
   intro hf
   unfold sizeA
   split
   ·rw [hf]; exact Int.le_refl _
   ·rename_i e4
    have e1 : x.kind ≠ 1 := fun e1 => by unfold fromI at hf; rw [if_pos e1] at hf; omega
    unfold fromI at hf
    rw [if_neg e1] at hf
    rw [← hf]
    exact (hok.size.2 (by have := hok.kind; omega)).2
  by_cases p1 : toI m x = (q : Int) <;> by_cases p2 : fromI m x = (q : Int)
  ·rw [if_pos p1, if_pos p2]; omega
  ·have := hto p1; rw [if_pos p1, if_neg p2]; omega
  ·have := hfr p2; rw [if_neg p1, if_pos p2]; omega
  ·rw [if_neg p1, if_neg p2]; omega
 ·unfold heldAt
  rw [List.getElem?_eq_none (by omega)]
  decide
theorem vesOk_of {m : Mix} (h : m.vessels.all vessB = true) : VesOk m := by
 intro v hv
 exact of_decide_eq_true (List.all_eq_true.1 h v hv)
/-- What laid tells. -/
def LaidOut (w : World) (Av : Option Addr) (nv cv : Nat) (Aa : Option Addr) (na ca : Nat) (At : Option Addr) (nt ct : Nat) (m : Mix) (e : Ending) (w' : World) : Prop :=
 ∃ p, e = .returned (.tuple #[.pointer p, .bool (okMix m)]) ∧ Below w.heap.size w w' ∧ (okMix m = true → ∃ g AA nl cl L, p = some ⟨g, 0, none⟩ ∧ w.heap.size ≤ g ∧ allM m m.acts = some L ∧ TbOwn w' w.heap.size ⟨g, Av, nv, cv, Aa, na, ca, At, nt, ct, AA, nl, cl, m, L⟩)
theorem LaidOut.bad {w w' : World} {Av Aa At : Option Addr} {nv cv na ca nt ct : Nat} {m : Mix} (h : okMix m = false) (hb : Below w.heap.size w w') : LaidOut w Av nv cv Aa na ca At nt ct m (.returned (.tuple #[.pointer none, .bool false])) w' :=
 ⟨none, by rw [h], hb, fun h' => by rw [h] at h'; cases h'⟩
/-- Reasons for which mixed water is not valid. -/
theorem bad_limits {m : Mix} (h : ¬ ((1 ≤ m.fountains ∧ m.fountains ≤ 4) ∧ m.vessels.length ≤ 4 ∧ m.acts.length ≤ 12 ∧ m.tastes.length ≤ 8)) : okMix m = false := by
 unfold okMix
 by_cases h1 : 1 ≤ m.fountains ∧ m.fountains ≤ 4
 ·have : ¬ (m.vessels.length ≤ 4 ∧ m.acts.length ≤ 12 ∧ m.tastes.length ≤ 8) := fun h2 => h ⟨h1, h2⟩
  rw [decide_eq_false this]
  simp
 ·rw [decide_eq_false h1]
  simp
theorem bad_vess {m : Mix} (h : m.vessels.all vessB = false) : okMix m = false := by unfold okMix; rw [h]; simp
theorem bad_tast {m : Mix} (h : m.tastes.all (tastB m) = false) : okMix m = false := by unfold okMix; rw [h]; simp
theorem bad_acts {m : Mix} (h : allM m m.acts = none) : okMix m = false := by unfold okMix; rw [h]; simp
theorem ok_rest {m : Mix} {L : List Held} (h1 : (1 ≤ m.fountains ∧ m.fountains ≤ 4) ∧ m.vessels.length ≤ 4 ∧ m.acts.length ≤ 12 ∧ m.tastes.length ≤ 8) (h2 : m.vessels.all vessB = true) (h3 : m.tastes.all (tastB m) = true) (h4 : allM m m.acts = some L) :
  okMix m = (risB 0 (m.vessels.map (·.id)) && risB 0 (m.tastes.map (·.num))) := by
 unfold okMix
 rw [decide_eq_true h1.1, decide_eq_true h1.2, h2, h3, h4]
 rfl
end Go.Proofs.YtjdgdeiedkickaaDoor.Mx
/- mix.laid: the table, and whether the mixed water is valid. -/
namespace Go.Proofs.YtjdgdeiedkickaaDoor.Mx
open Go.RowKit

def LdA (w W : World) (bs : List (Nat × TypeId × Array Value)) (A5 : Option Addr) (k c5 : Nat) (m : Mix) : Prop :=
 Lay w W bs ∧ Own W (w.heap.size + 3) 3 1 A5 k c5 (((m.vessels.take k).map (·.id)).map (Value.int .i64)) ∧ (m.vessels.take k).all vessB = true
def LdB (w W : World) (bs : List (Nat × TypeId × Array Value)) (A5 : Option Addr) (nv c5 : Nat) (A6 : Option Addr) (k c6 : Nat) (m : Mix) : Prop :=
 Lay w W bs ∧ Own W (w.heap.size + 3) 3 1 A5 nv c5 ((m.vessels.map (·.id)).map (Value.int .i64)) ∧ Own W (w.heap.size + 3) 3 1 A6 k c6 (((m.tastes.take k).map (·.num)).map (Value.int .i64)) ∧ (∀ a b, A5 = some a → A6 = some b → a.block ≠ b.block) ∧ (m.tastes.take k).all (tastB m) = true

def LdC (w W : World) (T : Tb) (A5 : Option Addr) (c5 : Nat) (A6 : Option Addr) (c6 k : Nat) : Prop :=
 TbOwn W w.heap.size T ∧ Below w.heap.size w W ∧ allM T.m (T.m.acts.take k) = some T.L ∧ (∀ (j : Nat) (s : Held), T.L[j]? = some s → s.length = 4 ∧ ∀ q : Nat, 0 ≤ heldAt s q ∧ heldAt s q ≤ 12) ∧
 (Own W (w.heap.size + 3) 3 1 A5 T.nv c5 ((T.m.vessels.map (·.id)).map (Value.int .i64)) ∧ Own W (w.heap.size + 3) 3 1 A6 T.nt c6 ((T.m.tastes.map (·.num)).map (Value.int .i64))) ∧
 ∀ a, (A5 = some a ∨ A6 = some a) → a.block < W.heap.size ∧ a.block ≠ T.g ∧ some a.block ≠ T.AA.map (·.block)
theorem _root_.Go.Proofs.YtjdgdeiedkickaaDoor.Own.keep2 {w w' : World} {base n cap size g : Nat} {e : TypeId} {A : Option Addr} {xs : List Value} {row : Option Nat} (h : Own w base e size A n cap xs) (hk : Keep2 w w' g row) (hne : ∀ a, A = some a → a.block ≠ g ∧ some a.block ≠ row) : Own w' base e size A n cap xs := by
 refine ⟨h.1, ?_⟩
 rcases h.2 with h' | ⟨g', cap', cur, hv, hb, hgb, hrest⟩
 ·exact .inl h'
 ·have hA : A = some ⟨g', 0, none⟩ := by simpa using congrArg (fun v => match v with | Value.slice a _ _ => a | _ => none) hv
  have hlt : g' < w.heap.size := (Array.getElem?_eq_some_iff.1 hgb).1
  exact .inr ⟨g', cap', cur, hv, hb, (hk.2 g' hlt (hne _ hA).1 (hne _ hA).2).trans hgb, hrest⟩
theorem ldc_step {w W W' : World} {T : Tb} {A5 A6 A9 : Option Addr} {c5 c6 c9 k : Nat} {x : MAct} {s s' : Held} (h : LdC w W T A5 c5 A6 c6 k) (hx : T.m.acts[k]? = some x) (hs : T.L[k]? = some s) (hd : doneM T.m s x = some s') (hz : VesOk T.m)
  (hT : TbOwn W' w.heap.size (T.plus A9 c9 s')) (hb : Below w.heap.size W W') (hk : Keep2 W W' T.g (T.AA.map (·.block))) (hA : ∀ a, A9 = some a → A9 = T.AA ∨ W.heap.size ≤ a.block) : LdC w W' (T.plus A9 c9 s') A5 c5 A6 c6 (k + 1) := by
 obtain ⟨h1, h2, h3, h4, ⟨h5, h6⟩, h7⟩ := h
 have hv : T.m.vessels.length ≤ 4 := by have := h1.mix.lenV; have := h1.small; omega
 refine ⟨hT, h2.trans hb, ?_, ?_, ⟨h5.keep2 hk (fun a ha => (h7 a (.inl ha)).2), h6.keep2 hk (fun a ha => (h7 a (.inr ha)).2)⟩, fun a ha => ?_⟩
 ·show allM T.m (T.m.acts.take (k + 1)) = some (T.L ++ [s'])
  rw [allM_take hx h3 hs, hd]
  rfl
 ·intro j u hu
  have hu' : (T.L ++ [s'])[j]? = some u := hu
  by_cases hj : j < T.L.length
  ·rw [List.getElem?_append_left hj] at hu'
   exact h4 j u hu'
  ·rw [List.getElem?_append_right (by omega)] at hu'
   have hj0 : j - T.L.length = 0 := by
    have := (List.getElem?_eq_some_iff.1 hu').1
    simp at this
    omega
   rw [hj0] at hu'
   have e : s' = u := by simpa using hu'
   rw [← e]
   have := h4 k s hs
   exact done_range hv hz this.1 this.2 hd
 ·obtain ⟨q1, q2, q3⟩ := h7 a ha
  refine ⟨Nat.lt_of_lt_of_le q1 hk.1, q2, ?_⟩
  show some a.block ≠ A9.map (·.block)
  cases h9 : A9 with
  | none => simp
  | some b =>
   rcases hA b h9 with e | e
   ·rw [← h9, e]; exact q3
   ·intro e2
    have := Option.some.inj e2
    dsimp only at this
    omega
/-- The table at its first time. -/
theorem tb_first {w W : World} {Av Aa At : Option Addr} {nv cv na ca nt ct : Nat} {m : Mix} (h : Lay w W [(w.heap.size, 47, #[.int .i64 m.fountains, .slice Av nv cv, .slice Aa na ca, .slice At nt ct]), (w.heap.size + 1, 74, #[.int .i64 0, .int .i64 0, .int .i64 0, .int .i64 0]), (w.heap.size + 1 + 1, 77, #[.int .i64 m.fountains, .slice Av nv cv, .slice Aa na ca, .slice At nt ct, .slice (some ⟨w.heap.size + 1, 0, none⟩) 1 1])]) (hm : MixAt w w.heap.size Av nv Aa na At nt m) (hn : nv ≤ 4 ∧ na ≤ 12 ∧ nt ≤ 8) :
  TbAt W ⟨w.heap.size + 1 + 1, Av, nv, cv, Aa, na, ca, At, nt, ct, some ⟨w.heap.size + 1, 0, none⟩, 1, 1, m, [zeroH]⟩ := by
 refine ⟨h.blk 2 rfl, hm.up h.1, ?_, hn.1, hn.2.1, hn.2.2, (by show 1 ≤ 13; decide)⟩
 have hb := h.blk 1 rfl
 refine ⟨rfl, fun _ => ⟨_, rfl, hb.lt, fun j u hu => ?_⟩⟩
 have ha : ((⟨w.heap.size + 1, 0, none⟩ : Addr).add j) = ⟨w.heap.size + 1, j, none⟩ := by
  unfold Addr.add
  by_cases hj : j = 0
  ·subst hj; simp
  ·simp [hj]
 rw [ha, hb.cell, ← Array.getElem?_toList]
 exact hu
theorem zero_range : zeroH.length = 4 ∧ ∀ q : Nat, 0 ≤ heldAt zeroH q ∧ heldAt zeroH q ≤ 12 := by
 refine ⟨rfl, fun q => ?_⟩
 match q with
 | 0 => decide
 | 1 => decide
 | 2 => decide
 | 3 => decide
 | q + 4 =>
  have : heldAt zeroH ((q + 4 : Nat) : Int) = 0 := by
   unfold heldAt
   rw [List.getElem?_eq_none (by simp [zeroH]; omega)]
   rfl
  rw [this]
  decide
theorem tb_own {w W : World} {Av Aa At : Option Addr} {nv cv na ca nt ct : Nat} {m : Mix} (h : Lay w W [(w.heap.size, 47, #[.int .i64 m.fountains, .slice Av nv cv, .slice Aa na ca, .slice At nt ct]), (w.heap.size + 1, 74, #[.int .i64 0, .int .i64 0, .int .i64 0, .int .i64 0]), (w.heap.size + 1 + 1, 77, #[.int .i64 m.fountains, .slice Av nv cv, .slice Aa na ca, .slice At nt ct, .slice (some ⟨w.heap.size + 1, 0, none⟩) 1 1])]) (hm : MixAt w w.heap.size Av nv Aa na At nt m) (hn : nv ≤ 4 ∧ na ≤ 12 ∧ nt ≤ 8) :
  TbOwn W w.heap.size ⟨w.heap.size + 1 + 1, Av, nv, cv, Aa, na, ca, At, nt, ct, some ⟨w.heap.size + 1, 0, none⟩, 1, 1, m, [zeroH]⟩ := by
 refine ⟨h.blk 2 rfl, hm.below h.1, ⟨rfl, .inr ⟨w.heap.size + 1, 1, _, rfl, by omega, h.blk 1 rfl, Nat.le_refl _, by unfold maxLen; omega, rfl, rfl⟩⟩, ?_, ⟨h.1.size, by dsimp only; omega⟩, hn.1, hn.2.1, hn.2.2, (by show 1 ≤ 13; decide)⟩
 intro a ha
 cases ha
 dsimp only
 omega
theorem tast_no {m : Mix} {k : Nat} {x : Tast} (hx : m.tastes[k]? = some x) (h : tastB m x = false) : m.tastes.all (tastB m) = false := by
 cases h0 : m.tastes.all (tastB m) with
 | false => rfl
 | true => exact absurd ((List.all_eq_true.1 h0 x (List.mem_of_getElem? hx)).symm.trans h) (by decide)

set_option maxRecDepth 100000 in
set_option maxHeartbeats 16000000 in
theorem laid_any (Av : Option Addr) (nv cv : Nat) (Aa : Option Addr) (na ca : Nat) (At : Option Addr) (nt ct : Nat) (m : Mix) (w : World) (h : MixAt w w.heap.size Av nv Aa na At nt m) (hnv : nv ≤ 1000) (hna : na ≤ 1000) (hnt : nt ≤ 1000) :
  Calls Tryd.prog 29 #[.agg #[.int .i64 m.fountains, .slice Av nv cv, .slice Aa na ca, .slice At nt ct]] w (LaidOut w Av nv cv Aa na ca At nt ct m) := by
 have HM := Lib.hid h
 have HLV := Lib.hid h.lenV
 have HLA := Lib.hid h.lenA
 have HLT := Lib.hid h.lenT
 clear h
 go_enter Tryd.func29, Tryd.ntmps29
 go_upto_region 2 with fail
 have HLay := Lib.hid (Lay.three w 47 #[.int .i64 m.fountains, .slice Av nv cv, .slice Aa na ca, .slice At nt ct] 74 #[.int .i64 0, .int .i64 0, .int .i64 0, .int .i64 0] 77 #[.int .i64 m.fountains, .slice Av nv cv, .slice Aa na ca, .slice At nt ct, .slice (some ⟨w.heap.size + 1, 0, none⟩) 1 1])
 generalize (((w.alloc (.cells #[.int .i64 m.fountains, .slice Av nv cv, .slice Aa na ca, .slice At nt ct] 47)).alloc (.cells #[.int .i64 0, .int .i64 0, .int .i64 0, .int .i64 0] 74)).alloc (.cells #[.int .i64 m.fountains, .slice Av nv cv, .slice Aa na ca, .slice At nt ct, .slice (some ⟨w.heap.size + 1, 0, none⟩) 1 1] 77)) = w0 at *
 have x0 := (HLay.out.blk 0 rfl).cell 0
 have x1 := (HLay.out.blk 0 rfl).cell 1
 have x2 := (HLay.out.blk 0 rfl).cell 2
 have x3 := (HLay.out.blk 0 rfl).cell 3
 have xl := HLay.out.lt 0 rfl
 go_wp2_with fail
 have Y := IntsAt.new w0 3 [m.fountains] (w0.heap.size + 1) (by omega)
 refine (in_any 1 4 (some ⟨w0.heap.size, 0, none⟩) 1 1 [m.fountains] _ (Y.more (by simp)) (by decide)).mono ?_
 rintro e W1 ⟨rfl, hb⟩
 have hb0 : Below w0.heap.size w0 W1 := ((Below.refl _ _).alloc (Nat.le_refl _) _).trans (hb.mono (by simp))
 replace HLay := Lib.hid (HLay.out.below hb0)
 clear hb hb0 x0 x1 x2 x3 xl Y
 have x0 := (HLay.out.blk 0 rfl).cell 0
 have x1 := (HLay.out.blk 0 rfl).cell 1
 have x2 := (HLay.out.blk 0 rfl).cell 2
 have x3 := (HLay.out.blk 0 rfl).cell 3
 have xl := HLay.out.lt 0 rfl
 by_cases hG : (1 ≤ m.fountains ∧ m.fountains ≤ 4) ∧ m.vessels.length ≤ 4 ∧ m.acts.length ≤ 12 ∧ m.tastes.length ≤ 8
 ·have HG := Lib.hid hG
  have hi : inB 1 4 [m.fountains] = true := by rw [inB_one]; exact decide_eq_true hG.1
  have hn4 : nv ≤ 4 := by have := HLV.out; omega
  have hn12 : na ≤ 12 := by have := HLA.out; omega
  have hn8 : nt ≤ 8 := by have := HLT.out; omega
  have d1 : (nv : Int) ≤ 4 := by omega
  have d2 : (na : Int) ≤ 12 := by omega
  have d3 : (nt : Int) ≤ 8 := by omega
  rw [hi]
  clear hi hG
  go_wp2_with fail
  clear d1 d2 d3 x0 x1 x2 x3 xl
  go_loopw [5, 43] (fun v5 i wr => ∃ (k : Nat) (A5 : Option Addr) (c5 : Nat), k ≤ nv ∧ i = .int .i64 k ∧ v5 = .slice A5 k c5 ∧ Hid (LdA w wr [(w.heap.size, 47, #[.int .i64 m.fountains, .slice Av nv cv, .slice Aa na ca, .slice At nt ct]), (w.heap.size + 1, 74, #[.int .i64 0, .int .i64 0, .int .i64 0, .int .i64 0]), (w.heap.size + 1 + 1, 77, #[.int .i64 m.fountains, .slice Av nv cv, .slice Aa na ca, .slice At nt ct, .slice (some ⟨w.heap.size + 1, 0, none⟩) 1 1])] A5 k c5 m))
   (fun _ i _ => nv - (intOf i).toNat)
  case atStart => exact ⟨0, none, 0, by omega, rfl, rfl, Lib.hid ⟨HLay.out, Own.none_ _ _ _ _, rfl⟩⟩
  case round =>
   clear HLay
   obtain ⟨k, A5, c5, hk, rfl, rfl, HS⟩ := hrel
   have hlay := HS.out.1
   have HLay := Lib.hid hlay
   have hW3 : w.heap.size + 3 ≤ wr.heap.size := by have := hlay.lt 2 rfl; omega
   have x0 := (HLay.out.blk 0 rfl).cell 0
   have x1 := (HLay.out.blk 0 rfl).cell 1
   have x2 := (HLay.out.blk 0 rfl).cell 2
   have x3 := (HLay.out.blk 0 rfl).cell 3
   have xl := HLay.out.lt 0 rfl
   clear hlay
   by_cases hlt : k < nv
   ·clear x0 x1 x2 x3 xl
    obtain ⟨b, off, x, rfl, hbB, hx, hc0, hc1⟩ := (HM.out.below HLay.out.1).vess hlt
    have HX := Lib.hid hx
    clear hx
    go_upto_region 8 with fail
    have hb1 : Below wr.heap.size wr (wr.alloc (.cells #[.int .i64 x.id, .int .i64 x.size] 40)) := (Below.refl _ _).alloc (Nat.le_refl _) _
    have HN := Lib.hid (Blk.new wr 40 #[.int .i64 x.id, .int .i64 x.size])
    obtain ⟨g8, hg8⟩ : ∃ g, wr.heap.size = g := ⟨_, rfl⟩
    generalize wr.alloc (.cells #[.int .i64 x.id, .int .i64 x.size] 40) = wa at *
    have HB1 := Lib.hid hb1
    rw [hg8] at HN ⊢
    have y1 := HN.out.cell 1
    have yl := HN.out.lt
    clear hb1 hc0 hc1
    go_wp2_with fail
    have Y := IntsAt.new wa 3 [x.size] (wa.heap.size + 1) (by omega)
    refine (in_any 1 12 (some ⟨wa.heap.size, 0, none⟩) 1 1 [x.size] _ (Y.more (by simp)) (by decide)).mono ?_
    rintro e W ⟨rfl, hb⟩
    have hb0 : Below wa.heap.size wa W := ((Below.refl _ _).alloc (Nat.le_refl _) _).trans (hb.mono (by simp))
    have HB := Lib.hid (HB1.out.trans (hb0.mono HB1.out.size))
    have HN2 := Lib.hid (HN.out.below hb0 HN.out.lt)
    clear hb hb0 y1 yl Y HN HB1
    rw [vessB_in]
    have HAS := Lib.hid (all_step HX.out HS.out.2.2)
    cases hv : vessB x with
    | false =>
     rw [hv] at HAS
     clear hv
     go_wp2_with fail
     refine bodyPost_ret (v := .tuple #[.pointer none, .bool false]) (by simp [results, Tryd.results29, go_sem]) rfl (LaidOut.bad (bad_vess ?_) (HLay.out.1.trans (HB.out.mono HLay.out.1.size)))
     cases h0 : m.vessels.all vessB with
     | false => rfl
     | true => exact absurd ((all_pre (k := k + 1) h0).symm.trans HAS.out) (by decide)
    | true =>
     rw [hv] at HAS
     clear hv
     have z0 := HN2.out.cell 0
     have zl := HN2.out.lt
     have HO := Lib.hid (HS.out.2.1.below HB.out (Nat.le_refl _))
     go_wp2_with (at_builtin; refine wpList_append_any _ rfl _ _ rfl elem_int rfl (HO.out.alloc _) rfl (one_int (x := x.id) (Nat.lt_succ_self _) (by simp [go_sem])) (ints_one _) (by unfold maxLen; omega) (by omega) (by have := HB.out.size; simp; omega) ?_)
     rintro A2 cap2 w2 hown hg hA
     have hrow := own_row HO.out
     have hla := lay3_row ((HLay.out.below HB.out).below ((Below.refl _ _).alloc (Nat.le_refl _) _)) hg (fun r e => (hrow r e).1)
     have HLA2 := Lib.hid hla
     have HOW := Lib.hid hown
     clear hown hg hA hrow hla z0 zl
     go_wp2_with fail
     go_roundw
     case rel =>
      refine ⟨k + 1, A2, cap2, by omega, by go_num, rfl, Lib.hid ⟨HLA2.out, ?_, HAS.out⟩⟩
      obtain ⟨h1, h2⟩ := List.getElem?_eq_some_iff.1 HX.out
      rw [List.take_succ_eq_append_getElem h1, h2]
      simpa using HOW.out
     case measure => simp [intOf]; omega
   ·obtain rfl : nv = k := by omega
    have hz : m.vessels.all vessB = true := by
     have := HS.out.2.2
     rwa [List.take_of_length_le (by have := HLV.out; omega)] at this
    have hO : Own wr (w.heap.size + 3) 3 1 A5 nv c5 ((m.vessels.map (·.id)).map (Value.int .i64)) := by
     have := HS.out.2.1
     rwa [List.take_of_length_le (by have := HLV.out; omega)] at this
    have HZ := Lib.hid hz
    have HO := Lib.hid hO
    clear hz hO
    go_wp2_with fail
    clear x0 x1 x2 x3 xl
    obtain ⟨wo, rfl⟩ : ∃ wo, wo = wr := ⟨_, rfl⟩
    go_loopw [6, 61] (fun v6 i wr => ∃ (k : Nat) (A6 : Option Addr) (c6 : Nat), k ≤ nt ∧ i = .int .i64 k ∧ v6 = .slice A6 k c6 ∧ Hid (LdB w wr [(w.heap.size, 47, #[.int .i64 m.fountains, .slice Av nv cv, .slice Aa na ca, .slice At nt ct]), (w.heap.size + 1, 74, #[.int .i64 0, .int .i64 0, .int .i64 0, .int .i64 0]), (w.heap.size + 1 + 1, 77, #[.int .i64 m.fountains, .slice Av nv cv, .slice Aa na ca, .slice At nt ct, .slice (some ⟨w.heap.size + 1, 0, none⟩) 1 1])] A5 nv c5 A6 k c6 m))
     (fun _ i _ => nt - (intOf i).toNat)
    case atStart => exact ⟨0, none, 0, by omega, rfl, rfl, Lib.hid ⟨HLay.out, HO.out, Own.none_ _ _ _ _, fun a b _ h => (by cases h), rfl⟩⟩
    case round =>
     clear HLay HO HS
     obtain ⟨k, A6, c6, hk2, rfl, rfl, HS⟩ := hrel
     have hlay := HS.out.1
     have HLay := Lib.hid hlay
     have hW3 : w.heap.size + 3 ≤ wr.heap.size := by have := hlay.lt 2 rfl; omega
     have x0 := (HLay.out.blk 0 rfl).cell 0
     have x1 := (HLay.out.blk 0 rfl).cell 1
     have x2 := (HLay.out.blk 0 rfl).cell 2
     have x3 := (HLay.out.blk 0 rfl).cell 3
     have xl := HLay.out.lt 0 rfl
     clear hlay
     by_cases hlt : k < nt
     ·clear x0 x1 x2 x3 xl
      obtain ⟨b, off, x, rfl, hbB, hx, hc0, hc1, hc2, hc3, hc4, hc5⟩ := (HM.out.below HLay.out.1).tast hlt
      have HX := Lib.hid hx
      clear hx
      go_upto_region 15 with fail
      have hb1 : Below wr.heap.size wr (wr.alloc (.cells #[.int .i64 x.num, .int .i64 x.vessel, .int .i64 x.after, .int .i64 x.fountain, .int .i64 x.lo, .int .i64 x.hi] 120)) := (Below.refl _ _).alloc (Nat.le_refl _) _
      have HN := Lib.hid (Blk.new wr 120 #[.int .i64 x.num, .int .i64 x.vessel, .int .i64 x.after, .int .i64 x.fountain, .int .i64 x.lo, .int .i64 x.hi])
      obtain ⟨g8, hg8⟩ : ∃ g, wr.heap.size = g := ⟨_, rfl⟩
      generalize wr.alloc (.cells #[.int .i64 x.num, .int .i64 x.vessel, .int .i64 x.after, .int .i64 x.fountain, .int .i64 x.lo, .int .i64 x.hi] 120) = wa at *
      have HB1 := Lib.hid hb1
      rw [hg8] at HN ⊢
      have y1 := HN.out.cell 1
      have yl := HN.out.lt
      clear hb1 hc0 hc1 hc2 hc3 hc4 hc5
      go_wp2_with fail
      refine (vessel_any ⟨w.heap.size + 1 + 1, Av, nv, cv, Aa, na, ca, some ⟨b, off, none⟩, nt, ct, some ⟨w.heap.size + 1, 0, none⟩, 1, 1, m, [zeroH]⟩ x.vessel wa (tb_first (HLay.out.below HB1.out) HM.out ⟨hn4, hn12, hn8⟩)).mono ?_
      rintro e W ⟨rfl, hb⟩
      have HB := Lib.hid (HB1.out.trans (hb.mono HB1.out.size))
      have HN2 := Lib.hid (HN.out.below hb HN.out.lt)
      clear hb y1 yl HN HB1
      dsimp only
      by_cases hj : idxV m.vessels x.vessel < 0
      ·have HTB : Hid (tastB m x = false) := Lib.hid (by unfold tastB; exact decide_eq_false (by omega))
       go_wp2_with fail
       refine bodyPost_ret (v := .tuple #[.pointer none, .bool false]) (by simp [results, Tryd.results29, go_sem]) rfl (LaidOut.bad (bad_tast (tast_no HX.out HTB.out)) (HLay.out.1.trans (HB.out.mono HLay.out.1.size)))
      ·have hj2 : 0 ≤ idxV m.vessels x.vessel := by omega
       have q2 := ((HLay.out.below HB.out).blk 0 rfl).cell 2
       have ql := (HLay.out.below HB.out).lt 0 rfl
       have y2 := HN2.out.cell 2
       have yl := HN2.out.lt
       go_wp2_with fail
       have Y := IntsAt.new W 3 [x.after] (W.heap.size + 1) (by omega)
       refine (in_any 0 na (some ⟨W.heap.size, 0, none⟩) 1 1 [x.after] _ (Y.more (by simp)) (by decide)).mono ?_
       rintro e W2 ⟨rfl, hb⟩
       have hb0 : Below W.heap.size W W2 := ((Below.refl _ _).alloc (Nat.le_refl _) _).trans (hb.mono (by simp))
       replace HB := Lib.hid (HB.out.trans (hb0.mono HB.out.size))
       replace HN2 := Lib.hid (HN2.out.below hb0 HN2.out.lt)
       clear hb hb0 yl Y y2 q2 ql
       obtain ⟨W, rfl⟩ : ∃ W, W = W2 := ⟨_, rfl⟩
       rw [inB_one]
       by_cases ha : 0 ≤ x.after ∧ x.after ≤ (na : Int)
       ·rw [decide_eq_true ha]
        have q0 := ((HLay.out.below HB.out).blk 0 rfl).cell 0
        have ql := (HLay.out.below HB.out).lt 0 rfl
        have y3 := HN2.out.cell 3
        have yl := HN2.out.lt
        have HAF := Lib.hid ha
        clear ha
        go_wp2_with fail
        have Y := IntsAt.new W 3 [x.fountain] (W.heap.size + 1) (by omega)
        refine (in_any 1 m.fountains (some ⟨W.heap.size, 0, none⟩) 1 1 [x.fountain] _ (Y.more (by simp)) (by decide)).mono ?_
        rintro e W2 ⟨rfl, hb⟩
        have hb0 : Below W.heap.size W W2 := ((Below.refl _ _).alloc (Nat.le_refl _) _).trans (hb.mono (by simp))
        replace HB := Lib.hid (HB.out.trans (hb0.mono HB.out.size))
        replace HN2 := Lib.hid (HN2.out.below hb0 HN2.out.lt)
        clear hb hb0 yl Y y3 q0 ql
        obtain ⟨W, rfl⟩ : ∃ W, W = W2 := ⟨_, rfl⟩
        rw [inB_one]
        by_cases hf : 1 ≤ x.fountain ∧ x.fountain ≤ m.fountains
        ·rw [decide_eq_true hf]
         have y4 := HN2.out.cell 4
         have y5 := HN2.out.cell 5
         have yl := HN2.out.lt
         have HFF := Lib.hid hf
         clear hf
         by_cases hlo : x.lo < 0
         ·have HTB : Hid (tastB m x = false) := Lib.hid (by unfold tastB; exact decide_eq_false (by omega))
          go_wp2_with fail
          refine bodyPost_ret (v := .tuple #[.pointer none, .bool false]) (by simp [results, Tryd.results29, go_sem]) rfl (LaidOut.bad (bad_tast (tast_no HX.out HTB.out)) (HLay.out.1.trans (HB.out.mono HLay.out.1.size)))
         ·by_cases hhi : x.hi < x.lo
          ·have HTB : Hid (tastB m x = false) := Lib.hid (by unfold tastB; exact decide_eq_false (by omega))
           go_wp2_with fail
           refine bodyPost_ret (v := .tuple #[.pointer none, .bool false]) (by simp [results, Tryd.results29, go_sem]) rfl (LaidOut.bad (bad_tast (tast_no HX.out HTB.out)) (HLay.out.1.trans (HB.out.mono HLay.out.1.size)))
          ·have HTB : Hid (tastB m x = true) := Lib.hid (by unfold tastB; have := HAF.out; have := HFF.out; have := HLA.out; exact decide_eq_true (by omega))
           have y0 := HN2.out.cell 0
           have HO5 := Lib.hid (HS.out.2.1.below HB.out (Nat.le_refl _))
           have HO6 := Lib.hid (HS.out.2.2.1.below HB.out (Nat.le_refl _))
           have HNE := Lib.hid HS.out.2.2.2.1
           have HAS : Hid ((m.tastes.take (k + 1)).all (tastB m) = true) := Lib.hid ((all_step HX.out HS.out.2.2.2.2).trans HTB.out)
           go_wp2_with (at_builtin; refine wpList_append_any _ rfl _ _ rfl elem_int rfl (HO6.out.alloc _) rfl (one_int (x := x.num) (Nat.lt_succ_self _) (by simp [go_sem])) (ints_one _) (by unfold maxLen; omega) (by omega) (by have := HB.out.size; simp; omega) ?_)
           rintro A2 cap2 w2 hown hg hA
           have hrow := own_row HO6.out
           have hla := lay3_row ((HLay.out.below HB.out).below ((Below.refl _ _).alloc (Nat.le_refl _) _)) hg (fun r e => (hrow r e).1)
           have HLA2 := Lib.hid hla
           have HOW := Lib.hid hown
           have HO52 := Lib.hid ((HO5.out.alloc (.cells #[.int .i64 x.num] 3)).grown hg (fun a ha e => by
            cases h6 : A6 with
            | none => rw [h6] at e; cases e
            | some b => rw [h6] at e; exact HNE.out a b ha h6 (Option.some.inj e)))
           have HNE2 : Hid (∀ a b, A5 = some a → A2 = some b → a.block ≠ b.block) := Lib.hid (fun a b ha hb => by
            rcases hA with e | e
            ·exact HNE.out a b ha (e ▸ hb)
            ·rw [e] at hb
             cases hb
             have := (HO5.out.lt ha).2
             simp
             omega)
           clear hown hg hA hrow hla y0 y4 y5 yl
           go_wp2_with fail
           go_roundw
           case rel =>
            refine ⟨k + 1, A2, cap2, by omega, by go_num, rfl, Lib.hid ⟨HLA2.out, HO52.out, ?_, HNE2.out, HAS.out⟩⟩
            obtain ⟨h1, h2⟩ := List.getElem?_eq_some_iff.1 HX.out
            rw [List.take_succ_eq_append_getElem h1, h2]
            simpa using HOW.out
           case measure => simp [intOf]; omega
        ·rw [decide_eq_false hf]
         have HTB : Hid (tastB m x = false) := Lib.hid (by unfold tastB; exact decide_eq_false (by omega))
         clear hf
         have y4 := HN2.out.cell 4
         go_wp2_with fail
         refine bodyPost_ret (v := .tuple #[.pointer none, .bool false]) (by simp [results, Tryd.results29, go_sem]) rfl (LaidOut.bad (bad_tast (tast_no HX.out HTB.out)) (HLay.out.1.trans (HB.out.mono HLay.out.1.size)))
       ·rw [decide_eq_false ha]
        have HTB : Hid (tastB m x = false) := Lib.hid (by unfold tastB; have := HLA.out; exact decide_eq_false (by omega))
        clear ha
        go_wp2_with fail
        refine bodyPost_ret (v := .tuple #[.pointer none, .bool false]) (by simp [results, Tryd.results29, go_sem]) rfl (LaidOut.bad (bad_tast (tast_no HX.out HTB.out)) (HLay.out.1.trans (HB.out.mono HLay.out.1.size)))
     ·obtain rfl : nt = k := by omega
      have hz : m.tastes.all (tastB m) = true := by
       have := HS.out.2.2.2.2
       rwa [List.take_of_length_le (by have := HLT.out; omega)] at this
      have hO6 : Own wr (w.heap.size + 3) 3 1 A6 nt c6 ((m.tastes.map (·.num)).map (Value.int .i64)) := by
       have := HS.out.2.2.1
       rwa [List.take_of_length_le (by have := HLT.out; omega)] at this
      have HZT := Lib.hid hz
      have HO6 := Lib.hid hO6
      have HO5 := Lib.hid HS.out.2.1
      have HNE := Lib.hid HS.out.2.2.2.1
      clear hz hO6
      go_wp2_with fail
      clear x0 x1 x2 x3 xl HS
      obtain ⟨wp, rfl⟩ : ∃ wp, wp = wr := ⟨_, rfl⟩
      have hst : LdC w wp ⟨w.heap.size + 1 + 1, Av, nv, cv, Aa, na, ca, At, nt, ct, some ⟨w.heap.size + 1, 0, none⟩, 1, 1, m, [zeroH]⟩ A5 c5 A6 c6 0 := by
       refine ⟨tb_own HLay.out HM.out ⟨hn4, hn12, hn8⟩, HLay.out.1, rfl, ?_, ⟨HO5.out, HO6.out⟩, ?_⟩
       ·intro j u hu
        match j, hu with
        | 0, hu =>
         have e : zeroH = u := by simpa using hu
         rw [← e]
         exact zero_range
       ·intro a ha
        have hlt : w.heap.size + 3 ≤ a.block ∧ a.block < wp.heap.size := by
         rcases ha with ha | ha
         ·exact HO5.out.lt ha
         ·exact HO6.out.lt ha
        refine ⟨hlt.2, by dsimp only; omega, ?_⟩
        simp
        omega
      have HST := Lib.hid hst
      clear hst HLay HO5 HO6 HNE hW3
      go_loopw [113] (fun i wr => ∃ (k : Nat) (AA : Option Addr) (cl : Nat) (L : List Held), k ≤ na ∧ i = .int .i64 k ∧ Hid (LdC w wr ⟨w.heap.size + 1 + 1, Av, nv, cv, Aa, na, ca, At, nt, ct, AA, k + 1, cl, m, L⟩ A5 c5 A6 c6 k))
       (fun i _ => na - (intOf i).toNat)
      case atStart => exact ⟨0, _, _, _, by omega, rfl, HST⟩
      case round =>
       clear HST
       obtain ⟨k, AA, cl, L, hk3, rfl, HS⟩ := hrel
       by_cases hlt : k < na
       ·have hx : m.acts[k]? = some (m.acts[k]'(by have := HLA.out; omega)) := List.getElem?_eq_getElem (by have := HLA.out; omega)
        obtain ⟨x, hx'⟩ : ∃ x, m.acts[k]'(by have := HLA.out; omega) = x := ⟨_, rfl⟩
        rw [hx'] at hx
        have hlen : L.length = k + 1 := by
         have : L.length = (m.acts.take k).length + 1 := allM_len m _ L HS.out.2.2.1
         rw [List.length_take, Nat.min_eq_left (by have := HLA.out; omega)] at this
         exact this
        have hs : L[k]? = some (L[k]'(by omega)) := List.getElem?_eq_getElem (by omega)
        obtain ⟨s, hs'⟩ : ∃ s, L[k]'(by omega) = s := ⟨_, rfl⟩
        rw [hs'] at hs
        have HX := Lib.hid hx
        have HSS := Lib.hid hs
        have hr := HS.out.2.2.2.1 k s hs
        have HR := Lib.hid (And.intro hr.1 (fun q : Nat => show 0 ≤ heldAt s q ∧ heldAt s q ≤ 1000 from ⟨(hr.2 q).1, by have := (hr.2 q).2; omega⟩))
        have HVZ := Lib.hid (vesOk_of HZ.out)
        have HC := Lib.hid (callsIn_wide.1 (act_in w.heap.size ⟨w.heap.size + 1 + 1, Av, nv, cv, Aa, na, ca, At, nt, ct, AA, k + 1, cl, m, L⟩ k x s wr HS.out.1 hx hs (by show k + 1 ≤ 12; omega) HVZ.out HR.out))
        clear hx hx' hs hs' hr hlen
        go_wp2_with fail
        refine HC.out.mono ?_
        rintro e W (⟨hn, rfl, hb⟩ | ⟨A9, c9, hsm, rfl, hT, hb, hkk, hA⟩)
        ·have HN := Lib.hid hn
         have HB := Lib.hid (HS.out.2.1.trans (hb.mono HS.out.2.1.size))
         clear hn hb HC
         go_wp2_with fail
         refine bodyPost_ret (v := .tuple #[.pointer none, .bool false]) (by simp [results, Tryd.results29, go_sem]) rfl (LaidOut.bad (bad_acts (allM_fail (k := k + 1) ?_)) HB.out)
         rw [allM_take HX.out HS.out.2.2.1 HSS.out]
         cases hd : doneM m s x with
         | none => rfl
         | some s' => have := HN.out; rw [hd] at this; cases this
        ·obtain ⟨s', hd⟩ := Option.isSome_iff_exists.1 hsm
         have he := (done_ok hd HR.out.1 (by have := HLV.out; omega)).2
         rw [← he] at hT
         have HN := Lib.hid (ldc_step HS.out HX.out HSS.out hd HVZ.out hT hb hkk hA)
         clear hsm hd he hT hb hkk hA HC
         go_wp2_with fail
         go_roundw
         case rel => exact ⟨k + 1, A9, c9, L ++ [s'], by omega, by go_num, HN⟩
         case measure => simp [intOf]; omega
       ·obtain rfl : na = k := by omega
        have hL : allM m m.acts = some L := by
         have : allM m (m.acts.take na) = some L := HS.out.2.2.1
         rwa [List.take_of_length_le (by have := HLA.out; omega)] at this
        have HL := Lib.hid hL
        clear hL
        go_wp2_with fail
        refine (rising_any A5 nv c5 (m.vessels.map (·.id)) wr (ints_of_own HS.out.2.2.2.2.1.1 (Nat.le_refl _)) hnv).mono ?_
        rintro e W ⟨rfl, hb⟩
        have HB := Lib.hid hb
        have HO6 := Lib.hid (HS.out.2.2.2.2.1.2.below hb (Nat.le_refl _))
        clear hb
        cases hr : risB 0 (m.vessels.map (·.id)) with
        | false =>
         have HRB := Lib.hid hr
         clear hr
         go_wp2_with fail
         refine bodyPost_ret (v := .tuple #[.pointer (some ⟨w.heap.size + 1 + 1, 0, none⟩), .bool false]) (by simp [results, Tryd.results29, go_sem]) rfl ?_
         have hno : okMix m = false := by rw [ok_rest HG.out HZ.out HZT.out HL.out, HRB.out]; rfl
         exact ⟨_, by rw [hno], HS.out.2.1.trans (HB.out.mono HS.out.2.1.size), fun h' => by rw [hno] at h'; cases h'⟩
        | true =>
         have HRB := Lib.hid hr
         clear hr
         go_wp2_with fail
         refine (rising_any A6 nt c6 (m.tastes.map (·.num)) W (ints_of_own HO6.out (Nat.le_refl _)) hnt).mono ?_
         rintro e W2 ⟨rfl, hb⟩
         have HB2 := Lib.hid (HB.out.trans (hb.mono HB.out.size))
         clear hb
         have HOK : Hid (okMix m = risB 0 (m.tastes.map (·.num))) := Lib.hid (by rw [ok_rest HG.out HZ.out HZT.out HL.out, HRB.out, Bool.true_and])
         go_wp2_with fail
         refine bodyPost_ret (v := .tuple #[.pointer (some ⟨w.heap.size + 1 + 1, 0, none⟩), .bool (risB 0 (m.tastes.map (·.num)))]) (by simp [results, Tryd.results29, go_sem]) rfl ?_
         refine ⟨_, by rw [HOK.out], HS.out.2.1.trans (HB2.out.mono HS.out.2.1.size), fun _ => ⟨_, AA, na + 1, cl, L, rfl, by omega, HL.out, ?_⟩⟩
         exact HS.out.1.below HB2.out
 ·have HB := Lib.hid (bad_limits hG)
  cases hi : inB 1 4 [m.fountains] with
  | false =>
   clear hi
   go_wp2_with fail
   exact bodyPost_ret (v := .tuple #[.pointer none, .bool false]) (by simp [results, Tryd.results29, go_sem]) rfl (LaidOut.bad HB.out HLay.out.1)
  | true =>
   have h2 : ¬ (nv ≤ 4 ∧ na ≤ 12 ∧ nt ≤ 8) := by
    rw [inB_one] at hi
    have := of_decide_eq_true hi
    rw [← HLV.out, ← HLA.out, ← HLT.out]
    exact fun h2 => hG ⟨this, h2⟩
   clear hi hG
   by_cases q1 : nv ≤ 4
   ·have d1 : (nv : Int) ≤ 4 := by omega
    by_cases q2 : na ≤ 12
    ·have d2 : (na : Int) ≤ 12 := by omega
     have d3 : ¬ (nt : Int) ≤ 8 := by omega
     clear h2
     go_wp2_with fail
     exact bodyPost_ret (v := .tuple #[.pointer none, .bool false]) (by simp [results, Tryd.results29, go_sem]) rfl (LaidOut.bad HB.out HLay.out.1)
    ·have d2 : ¬ (na : Int) ≤ 12 := by omega
     clear h2
     go_wp2_with fail
     exact bodyPost_ret (v := .tuple #[.pointer none, .bool false]) (by simp [results, Tryd.results29, go_sem]) rfl (LaidOut.bad HB.out HLay.out.1)
   ·have d1 : ¬ (nv : Int) ≤ 4 := by omega
    clear h2
    go_wp2_with fail
    exact bodyPost_ret (v := .tuple #[.pointer none, .bool false]) (by simp [results, Tryd.results29, go_sem]) rfl (LaidOut.bad HB.out HLay.out.1)
end Go.Proofs.YtjdgdeiedkickaaDoor.Mx
/- mix.Check, mix.placed, mix.Holds. -/
namespace Go.Proofs.YtjdgdeiedkickaaDoor.Mx
open Go.RowKit

/-- Mixed water as a value. -/
structure MixS (w : World) (Av : Option Addr) (nv : Nat) (Aa : Option Addr) (na : Nat) (At : Option Addr) (nt : Nat) (m : Mix) : Prop where
 at_ : MixAt w w.heap.size Av nv Aa na At nt m
 hv : nv ≤ 1000
 ha : na ≤ 1000
 ht : nt ≤ 1000
theorem MixS.up {w w' : World} {Av Aa At : Option Addr} {nv na nt : Nat} {m : Mix} (h : MixS w Av nv Aa na At nt m) (hb : Below w.heap.size w w') : MixS w' Av nv Aa na At nt m := ⟨h.at_.up hb, h.hv, h.ha, h.ht⟩
theorem MixS.laid {w : World} {Av Aa At : Option Addr} {nv cv na ca nt ct : Nat} {m : Mix} (h : MixS w Av nv Aa na At nt m) :
  Calls Tryd.prog 29 #[.agg #[.int .i64 m.fountains, .slice Av nv cv, .slice Aa na ca, .slice At nt ct]] w (LaidOut w Av nv cv Aa na ca At nt ct m) := laid_any Av nv cv Aa na ca At nt ct m w h.at_ h.hv h.ha h.ht
end Go.Proofs.YtjdgdeiedkickaaDoor.Mx
/- What a table of valid mixed water holds. -/
namespace Go.Proofs.YtjdgdeiedkickaaDoor.Mx
open Go.RowKit

theorem allM_range {m : Mix} {l : List MAct} {A : List Held} (h : allM m l = some A) (hv : m.vessels.length ≤ 4) (hz : VesOk m) : ∀ {t : Nat} {a : Held}, A[t]? = some a → a.length = 4 ∧ ∀ q : Nat, 0 ≤ heldAt a q ∧ heldAt a q ≤ 12 := by
 intro t
 induction t with
 | zero => intro a ha; rw [allM_zero h] at ha; cases ha; exact ⟨rfl, fun q => by
   match q with
   | 0 => decide
   | 1 => decide
   | 2 => decide
   | 3 => decide
   | q + 4 =>
    have : heldAt zeroH ((q + 4 : Nat) : Int) = 0 := by
     unfold heldAt
     rw [List.getElem?_eq_none (by simp [zeroH]; omega)]
     rfl
    rw [this]
    decide⟩
 | succ t ih =>
  intro a ha
  have hl := allM_len m l A h
  have ht : t < l.length := by
   have := (List.getElem?_eq_some_iff.1 ha).1
   omega
  obtain ⟨b, b', h1, h2, h3⟩ := allM_step h (List.getElem?_eq_getElem ht)
  rw [ha] at h2
  cases h2
  have := ih h1
  exact done_range hv hz this.1 this.2 h3
/-- Mixed water that is valid, and what it holds at all times. -/
structure TbOk (T : Tb) : Prop where
 ok : okMix T.m = true
 all : allM T.m T.m.acts = some T.L
section
variable {T : Tb} {x : MAct} {k : Nat}
theorem okMix_ves {m : Mix} (h : okMix m = true) : VesOk m := by
 unfold okMix at h
 simp only [Bool.and_eq_true] at h
 exact vesOk_of h.1.1.1.1.2
theorem TbOk.vess (h : TbOk T) : T.m.vessels.length ≤ 4 := (okMix_vess h.ok).1
theorem TbOk.acts (h : TbOk T) : T.m.acts.length ≤ 12 := (okMix_vess h.ok).2.1
theorem TbOk.long (h : TbOk T) : T.L.length = T.m.acts.length + 1 := allM_len _ _ _ h.all
structure ActAt (T : Tb) (k : Nat) (x : MAct) (all : Held) : Prop where
 hx : T.m.acts[k]? = some x
 ha : T.L[k]? = some all
 ok : ActOk T.m all x
 len : all.length = 4
 rng : ∀ q : Nat, 0 ≤ heldAt all q ∧ heldAt all q ≤ 12
 size : 0 ≤ sizeA T.m all x ∧ sizeA T.m all x ≤ 2000
 four : x.kind = 4 → 0 ≤ fromI T.m x
 apart : fromI T.m x ≠ toI T.m x ∨ fromI T.m x < 0
 next : T.L[k + 1]? = some (shiftH all (fromI T.m x) (toI T.m x) (sizeA T.m all x))
theorem TbOk.at_ (h : TbOk T) (hx : T.m.acts[k]? = some x) : ∃ all, ActAt T k x all := by
 have hl := h.long
 have hk := (List.getElem?_eq_some_iff.1 hx).1
 obtain ⟨a, a', h1, h2, h3⟩ := allM_step h.all hx
 have hr := allM_range h.all h.vess (okMix_ves h.ok) h1
 obtain ⟨h4, h5⟩ := act_ok h.all h.vess hx h1
 have h6 := size_small h.vess (okMix_ves h.ok) ⟨hr.1, fun q => by have := hr.2 q; omega⟩ (by rw [h3]; rfl)
 exact ⟨a, hx, h1, h4, hr.1, hr.2, ⟨h6.1, h6.2.1⟩, h6.2.2.1, h6.2.2.2, h5⟩
end
theorem ActAt.kindOk {T : Tb} {k : Nat} {x : MAct} {all : Held} (h : ActAt T k x all) : KindOk x := h.ok.kind
end Go.Proofs.YtjdgdeiedkickaaDoor.Mx
/- A map as an association list: made, looked up, stored into, deleted from, ranged over. -/
namespace Go.Proofs.YtjdgdeiedkickaaDoor
open Go.RowKit Go.MapKept
open Go.ChangeMaps (setBlock heap_setBlock_other heap_setBlock_same)
open Go.Maps (Keyed)
set_option linter.unusedSectionVars false

/-- How keys and elements lie. -/
structure MapTy (P : Program) (t k e : TypeId) (α β : Type) (encK : α → Value) (encV : β → Value) (ok : α → Prop) (zero : Value) : Prop where
 und : P.underlying t = some (.map k e)
 keyed : Keyed P k
 reads : ∀ x, ok x → ∃ l, keyOf P k (encK x) = some l
 inj : ∀ x y, encK x = encK y → x = y
 zero : ∀ w, (zeroValue e).run P w = .ok zero w

/-- Block r is a map that holds m. -/
def MapIs {α β : Type} (encK : α → Value) (encV : β → Value) (ok : α → Prop) (w : World) (r : Nat) (m : List (α × β)) : Prop :=
 ∃ es clock, w.heap[r]? = some (.map es clock) ∧ es.toList.map (fun e => (e.key, e.val)) = m.map (fun p => (encK p.1, encV p.2)) ∧ Stamped es clock ∧ ∀ p ∈ m, ok p.1

def look {α β : Type} [DecidableEq α] (m : List (α × β)) (x : α) : Option β := (m.find? fun p => decide (p.1 = x)).map Prod.snd
def put {α β : Type} [DecidableEq α] (m : List (α × β)) (x : α) (v : β) : List (α × β) :=
 if m.any (fun p => decide (p.1 = x)) then m.map (fun p => if p.1 = x then (x, v) else p) else m ++ [(x, v)]
def cut {α β : Type} [DecidableEq α] (m : List (α × β)) (x : α) : List (α × β) := m.filter fun p => !decide (p.1 = x)

section
variable {α β : Type} [DecidableEq α] {m : List (α × β)} {x y : α} {v : β}
theorem look_none : look m x = none ↔ ∀ p ∈ m, p.1 ≠ x := by
 unfold look
 simp [List.find?_eq_none]
theorem look_mem (h : look m x = some v) : (x, v) ∈ m := by
 unfold look at h
 cases hf : m.find? (fun p => decide (p.1 = x)) with
 | none => rw [hf] at h; cases h
 | some p =>
  rw [hf] at h
  have h1 := List.find?_some hf
  have h2 := List.mem_of_find?_eq_some hf
  simp at h h1
  obtain ⟨a, b⟩ := p
  simp at h h1
  subst h h1
  exact h2
theorem look_of_mem (hn : (m.map Prod.fst).Nodup) (h : (x, v) ∈ m) : look m x = some v := by
 unfold look
 induction m with
 | nil => simp at h
 | cons p m ih =>
  rw [List.map_cons, List.nodup_cons] at hn
  rcases List.mem_cons.1 h with h | h
  ·subst h; simp
  ·have hne : p.1 ≠ x := fun e => hn.1 (by rw [e]; exact List.mem_map.2 ⟨_, h, rfl⟩)
   rw [List.find?_cons_of_neg (by simpa using hne)]
   exact ih hn.2 h
theorem look_put : look (put m x v) y = if y = x then some v else look m y := by
 unfold put
 by_cases hany : m.any (fun p => decide (p.1 = x)) = true
 ·rw [if_pos hany]
  induction m with
  | nil => simp at hany
  | cons p m ih =>
   by_cases hp : p.1 = x
   ·by_cases hy : y = x
    ·subst hy; simp [look, hp]
    ·rw [if_neg hy]
     by_cases hm : m.any (fun p => decide (p.1 = x)) = true
     ·have := ih hm
      rw [if_neg hy] at this
      unfold look at this ⊢
      rw [List.map_cons, if_pos hp, List.find?_cons_of_neg (by simpa using fun e => hy e.symm), List.find?_cons_of_neg (by rw [hp]; simpa using fun e => hy e.symm)]
      exact this
     ·have hid : m.map (fun p => if p.1 = x then (x, v) else p) = m := by
       have h1 : m.map (fun p => if p.1 = x then (x, v) else p) = m.map id := List.map_congr_left fun q hq => by
        have : q.1 ≠ x := fun e => hm (List.any_eq_true.2 ⟨q, hq, by simpa using e⟩)
        simp [this]
       simpa using h1
      unfold look
      rw [List.map_cons, if_pos hp, hid, List.find?_cons_of_neg (by simpa using fun e => hy e.symm), List.find?_cons_of_neg (by rw [hp]; simpa using fun e => hy e.symm)]
   ·have hm : m.any (fun p => decide (p.1 = x)) = true := by simpa [hp] using hany
    have := ih hm
    unfold look at this ⊢
    rw [List.map_cons, if_neg hp]
    by_cases hpy : p.1 = y
    ·rw [List.find?_cons_of_pos (by simpa using hpy), List.find?_cons_of_pos (by simpa using hpy), if_neg (fun e => hp (hpy.trans e))]
    ·rw [List.find?_cons_of_neg (by simpa using hpy), List.find?_cons_of_neg (by simpa using hpy)]
     exact this
 ·rw [if_neg hany]
  have hno : ∀ p ∈ m, p.1 ≠ x := fun p hp e => hany (List.any_eq_true.2 ⟨p, hp, by simpa using e⟩)
  by_cases hy : y = x
  ·subst hy
   have hf : m.find? (fun p => decide (p.1 = y)) = none := by rw [List.find?_eq_none]; simpa using hno
   unfold look
   rw [List.find?_append, hf]
   simp
  ·rw [if_neg hy]
   unfold look
   rw [List.find?_append]
   have hxy : ¬ x = y := fun e => hy e.symm
   have hl : [(x, v)].find? (fun p => decide (p.1 = y)) = none := by simp [hxy]
   rw [hl]
   simp
theorem mem_cut {p : α × β} : p ∈ cut m x ↔ p ∈ m ∧ p.1 ≠ x := by unfold cut; simp
theorem mem_put {p : α × β} (h : p ∈ put m x v) : p = (x, v) ∨ (p ∈ m ∧ p.1 ≠ x) := by
 unfold put at h
 split at h
 ·obtain ⟨q, hq, rfl⟩ := List.mem_map.1 h
  by_cases e : q.1 = x
  ·simp [e]
  ·simp [e]; exact .inr hq
 ·rename_i hany
  rcases List.mem_append.1 h with h | h
  ·exact .inr ⟨h, fun e => hany (List.any_eq_true.2 ⟨p, h, by simpa using e⟩)⟩
  ·left; simpa using h
end

section
variable {P : Program} {t k e : TypeId} {α β : Type} [DecidableEq α] {encK : α → Value} {encV : β → Value} {okK : α → Prop} {zero : Value}
variable {w w' : World} {r : Nat} {m : List (α × β)}

theorem MapIs.lt (h : MapIs encK encV okK w r m) : r < w.heap.size := by
 obtain ⟨es, clock, hb, _⟩ := h
 exact (Array.getElem?_eq_some_iff.1 hb).1
theorem MapIs.ok (h : MapIs encK encV okK w r m) : ∀ p ∈ m, okK p.1 := by
 obtain ⟨_, _, _, _, _, h⟩ := h
 exact h
theorem MapIs.keep (h : MapIs encK encV okK w r m) (hb : w'.heap[r]? = w.heap[r]?) : MapIs encK encV okK w' r m := by
 obtain ⟨es, clock, h1, h2⟩ := h
 exact ⟨es, clock, hb.trans h1, h2⟩
theorem MapIs.below {B : Nat} (h : MapIs encK encV okK w r m) (hb : Below B w w') (hr : r < B) : MapIs encK encV okK w' r m := h.keep (hb.block r hr)
theorem MapIs.alloc (h : MapIs encK encV okK w r m) (o : Obj) : MapIs encK encV okK (w.alloc o) r m := h.keep (Below.heap_alloc w o r h.lt)
theorem MapIs.grown {row : Option Nat} (h : MapIs encK encV okK w r m) (hg : w.grownBy w' row) (hne : some r ≠ row) : MapIs encK encV okK w' r m := h.keep (hg.block r h.lt hne)
theorem MapIs.drewN (h : MapIs encK encV okK w r m) (n : Nat) : MapIs encK encV okK (w.drewN n) r m := h
theorem MapIs.made (w : World) : MapIs (β := β) encK encV okK (w.alloc (.map #[] 0)) w.heap.size [] :=
 ⟨#[], 0, heap_alloc_new w _, rfl, stamped_empty 0, by simp⟩
theorem MapIs.nodup (T : MapTy P t k e α β encK encV okK zero) (h : MapIs encK encV okK w r m) : (m.map Prod.fst).Nodup := by
 obtain ⟨es, clock, hb, hm, hs, hk⟩ := h
 have hp := ((stamped_iff es clock).1 hs).2.2
 have h1 : (es.toList.map (fun e => (e.key, e.val))).Pairwise (fun p q => p.1 ≠ q.1) := by
  rw [List.pairwise_map]; exact hp
 rw [hm, List.pairwise_map] at h1
 rw [List.Nodup, List.pairwise_map]
 exact h1.imp fun {a b} hne e => hne (by simp [e])

theorem MapIs.find (T : MapTy P t k e α β encK encV okK zero) {es : Array MapEntry} (hm : es.toList.map (fun e => (e.key, e.val)) = m.map (fun p => (encK p.1, encV p.2))) (hk : ∀ p ∈ m, okK p.1) {x : α} (hx : okK x) :
  ((Instr.findKey k (encK x) es.toList).run P w = .ok none w ∧ look m x = none ∧ ∀ y ∈ es.toList, y.key ≠ encK x) ∨
  ∃ (j : Nat) (y : MapEntry) (v : β), (Instr.findKey k (encK x) es.toList).run P w = .ok (some (j, encV v)) w ∧ es.toList[j]? = some y ∧ y.key = encK x ∧ m[j]? = some (x, v) := by
 obtain ⟨l, hl⟩ := T.reads x hx
 have hkeys : ∀ y ∈ es.toList, ∃ l, keyOf P k y.key = some l := by
  intro y hy
  have : (y.key, y.val) ∈ m.map (fun p => (encK p.1, encV p.2)) := by rw [← hm]; exact List.mem_map.2 ⟨y, hy, rfl⟩
  obtain ⟨p, hp, he⟩ := List.mem_map.1 this
  simp at he
  rw [← he.1]
  exact T.reads _ (hk p hp)
 rcases T.keyed.find w hl es.toList hkeys with ⟨h1, h2⟩ | ⟨j, y, h1, h2, h3⟩
 ·refine .inl ⟨h1, look_none.2 fun p hp e => ?_, h2⟩
  have : (encK p.1, encV p.2) ∈ es.toList.map (fun e => (e.key, e.val)) := by rw [hm]; exact List.mem_map.2 ⟨p, hp, rfl⟩
  obtain ⟨y, hy, he⟩ := List.mem_map.1 this
  simp at he
  exact h2 y hy (by rw [he.1, e])
 ·have hj : (es.toList.map (fun e => (e.key, e.val)))[j]? = some (y.key, y.val) := by rw [List.getElem?_map, h2]; rfl
  rw [hm, List.getElem?_map] at hj
  cases hmj : m[j]? with
  | none => rw [hmj] at hj; cases hj
  | some p =>
   rw [hmj] at hj
   simp at hj
   have hpx : p.1 = x := T.inj _ _ (hj.1.trans h3)
   refine .inr ⟨j, y, p.2, ?_, h2, h3, ?_⟩
   ·rw [h1, hj.2]
   ·rw [hmj, ← hpx]

/-- m[x], v, is := m[x] -/
theorem MapIs.lookup (T : MapTy P t k e α β encK encV okK zero) (h : MapIs encK encV okK w r m) {x : α} (hx : okK x) (co : Bool) :
  (Instr.lookup t (.map (some r)) (encK x) co).run P w = .ok (match look m x with | some v => if co then .tuple #[encV v, .bool true] else encV v | none => if co then .tuple #[zero, .bool false] else zero) w := by
 obtain ⟨l, hl⟩ := T.reads x hx
 have hn := MapIs.nodup T h
 obtain ⟨es, clock, hb, hm, hs, hk⟩ := h
 rcases MapIs.find (w := w) T hm hk hx with ⟨h1, h2, _⟩ | ⟨j, y, v, h1, h2, h3, h4⟩
 ·rw [h2]
  cases co <;> simp [Instr.lookup, run_underlying T.und, MapKept.run_getObj_map hb, T.keyed.check w _ hl, h1, T.zero, Result.andThen]
 ·have hm' : look m x = some v := look_of_mem hn (List.mem_of_getElem? h4)
  rw [hm']
  cases co <;> simp [Instr.lookup, run_underlying T.und, MapKept.run_getObj_map hb, T.keyed.check w _ hl, h1, Result.andThen]

theorem grown_setBlock {es : Array MapEntry} {clock : Nat} (hb : w.heap[r]? = some (.map es clock)) (o : Obj) : w.grownBy (setBlock w r o) (some r) ∧ (setBlock w r o).heap.size = w.heap.size :=
 ⟨⟨rfl, rfl, rfl, by simp [setBlock], fun i _ hi => heap_setBlock_other hb o (fun e => hi (by rw [e]))⟩, by simp [setBlock]⟩

theorem map_snd_set {γ : Type} {l : List γ} {m : List (α × β)} {f : γ → Value × Value} (h : l.map f = m.map (fun p => (encK p.1, encV p.2))) : l.length = m.length := by
 have := congrArg List.length h; simpa using this

/-- m[x] = v -/
theorem MapIs.update (T : MapTy P t k e α β encK encV okK zero) (h : MapIs encK encV okK w r m) {x : α} (hx : okK x) (v : β) :
  ∃ w', (Instr.mapUpdate t (.map (some r)) (encK x) (encV v)).run P w = .ok () w' ∧ MapIs encK encV okK w' r (put m x v) ∧ w.grownBy w' (some r) ∧ w'.heap.size = w.heap.size := by
 obtain ⟨l, hl⟩ := T.reads x hx
 have hn := MapIs.nodup T h
 obtain ⟨es, clock, hb, hm, hs, hk⟩ := h
 rcases MapIs.find (w := w) T hm hk hx with ⟨h1, h2, h3⟩ | ⟨j, y, v0, h1, h2, h3, h4⟩
 ·refine ⟨setBlock w r (.map (es.push ⟨encK x, encV v, clock⟩) (clock + 1)), ?_, ⟨_, _, heap_setBlock_same hb _, ?_, stamped_push hs h3, ?_⟩, (grown_setBlock hb _).1, (grown_setBlock hb _).2⟩
  ·simp [Instr.mapUpdate, run_underlying T.und, MapKept.run_getObj_map hb, T.keyed.check w false hl, h1, MapKept.run_setObj_map _ hb, Result.andThen, setBlock]
  ·have hany : ¬ m.any (fun p => decide (p.1 = x)) = true := by
    intro ha
    obtain ⟨p, hp, he⟩ := List.any_eq_true.1 ha
    exact look_none.1 h2 p hp (by simpa using he)
   unfold put
   rw [if_neg hany, Array.toList_push, List.map_append, hm, List.map_append]
   rfl
  ·intro p hp
   rcases mem_put hp with rfl | ⟨hp, _⟩
   ·exact hx
   ·exact hk p hp
 ·have hjl : j < es.toList.length := (List.getElem?_eq_some_iff.1 h2).1
  have hjs : j < es.size := by simpa using hjl
  have hes : es[j]? = some y := by rw [← Array.getElem?_toList]; exact h2
  have hany : m.any (fun p => decide (p.1 = x)) = true := List.any_eq_true.2 ⟨(x, v0), List.mem_of_getElem? h4, by simp⟩
  refine ⟨setBlock w r (.map (es.modify j fun e => { e with key := encK x, val := encV v }) clock), ?_, ⟨_, _, heap_setBlock_same hb _, ?_, ?_, ?_⟩, (grown_setBlock hb _).1, (grown_setBlock hb _).2⟩
  ·simp [Instr.mapUpdate, run_underlying T.und, MapKept.run_getObj_map hb, T.keyed.check w false hl, h1, MapKept.run_setObj_map _ hb, Result.andThen, setBlock, hes, h3, T.keyed.stays w hl]
  ·unfold put
   rw [if_pos hany]
   apply List.ext_getElem?
   intro i
   have hi : ((es.toList.map (fun e => (e.key, e.val)))[i]?) = (m.map (fun p => (encK p.1, encV p.2)))[i]? := by rw [hm]
   rw [List.getElem?_map, List.getElem?_map] at hi
   rw [List.getElem?_map, List.getElem?_map, List.getElem?_map, Array.getElem?_toList, Array.getElem?_modify]
   rw [Array.getElem?_toList] at hi
   by_cases hij : j = i
   ·subst hij
    rw [if_pos rfl, hes, h4]
    simp
   ·rw [if_neg hij, hi]
    cases hmi : m[i]? with
    | none => rfl
    | some p =>
     have hpx : p.1 ≠ x := by
      intro e1
      apply hij
      have h5 : (m.map Prod.fst)[j]? = some x := by rw [List.getElem?_map, h4]; rfl
      have h6 : (m.map Prod.fst)[i]? = some x := by rw [List.getElem?_map, hmi, ← e1]; rfl
      have h7 : j < (m.map Prod.fst).length := (List.getElem?_eq_some_iff.1 h5).1
      exact (List.getElem?_inj h7 hn).1 (h5.trans h6.symm)
     simp [hpx]
  ·exact stamped_modify hs j _ (fun _ _ => rfl) (fun e' he' hj' => by
    have : e' = y := Option.some.inj (hj'.symm.trans hes)
    rw [this]; exact h3.symm)
  ·intro p hp
   rcases mem_put hp with rfl | ⟨hp, _⟩
   ·exact hx
   ·exact hk p hp

/-- delete(m, x) -/
theorem MapIs.delete_ (T : MapTy P t k e α β encK encV okK zero) (h : MapIs encK encV okK w r m) {x : α} (hx : okK x) (ty : TypeId) :
  ∃ w', (Builtin.delete_ #[t, k] ty #[.map (some r), encK x]).run P w = .ok (.tuple #[]) w' ∧ MapIs encK encV okK w' r (cut m x) ∧ w.grownBy w' (some r) ∧ w'.heap.size = w.heap.size := by
 obtain ⟨l, hl⟩ := T.reads x hx
 have hn := MapIs.nodup T h
 obtain ⟨es, clock, hb, hm, hs, hk⟩ := h
 rcases MapIs.find (w := w) T hm hk hx with ⟨h1, h2, h3⟩ | ⟨j, y, v0, h1, h2, h3, h4⟩
 ·refine ⟨setBlock w r (.map es clock), ?_, ⟨_, _, heap_setBlock_same hb _, ?_, hs, fun p hp => hk p (mem_cut.1 hp).1⟩, (grown_setBlock hb _).1, (grown_setBlock hb _).2⟩
  ·simp [Builtin.delete_, run_underlying T.und, MapKept.run_getObj_map hb, T.keyed.check w _ hl, h1, MapKept.run_setObj_map _ hb, Result.andThen, setBlock]
  ·rw [hm]
   congr 1
   unfold cut
   refine (List.filter_eq_self.2 fun p hp => ?_).symm
   simpa using look_none.1 h2 p hp
 ·have hjl : j < es.toList.length := (List.getElem?_eq_some_iff.1 h2).1
  have hjs : j < es.size := by simpa using hjl
  have hsub : (es.eraseIdxIfInBounds j).toList = es.toList.eraseIdx j := by
   unfold Array.eraseIdxIfInBounds
   rw [dif_pos hjs]
   simp
  refine ⟨setBlock w r (.map (es.eraseIdxIfInBounds j) clock), ?_, ⟨_, _, heap_setBlock_same hb _, ?_, stamped_erase hs j, fun p hp => hk p (mem_cut.1 hp).1⟩, (grown_setBlock hb _).1, (grown_setBlock hb _).2⟩
  ·simp [Builtin.delete_, run_underlying T.und, MapKept.run_getObj_map hb, T.keyed.check w _ hl, h1, MapKept.run_setObj_map _ hb, Result.andThen, setBlock]
  ·rw [hsub, Go.ChangeMaps.map_eraseIdx, hm, ← Go.ChangeMaps.map_eraseIdx]
   congr 1
   unfold cut
   exact (erase_cut hn h4).symm
 where
 erase_cut {m : List (α × β)} {x : α} {v0 : β} {j : Nat} (hn : (m.map Prod.fst).Nodup) (h4 : m[j]? = some (x, v0)) : (m.filter fun p => !decide (p.1 = x)) = m.eraseIdx j := by
  induction m generalizing j with
  | nil => simp at h4
  | cons p m ih =>
   rw [List.map_cons, List.nodup_cons] at hn
   cases j with
   | zero =>
    simp at h4
    subst h4
    have : (m.filter fun p => !decide (p.1 = x)) = m := List.filter_eq_self.2 fun q hq => by
     have : q.1 ≠ x := fun e => hn.1 (List.mem_map.2 ⟨q, hq, e⟩)
     simpa using this
    simp [this]
   | succ j =>
    have hne : p.1 ≠ x := fun e => hn.1 (List.mem_map.2 ⟨(x, v0), List.mem_of_getElem? (by simpa using h4), e.symm⟩)
    rw [List.filter_cons_of_pos (by simpa using hne), ih hn.2 (by simpa using h4)]
    rfl
end
end Go.Proofs.YtjdgdeiedkickaaDoor
/- Ranging over a map that does not turn: the entries come in an order that the tape says. -/
namespace Go.Proofs.YtjdgdeiedkickaaDoor
open Go.RowKit Go.MapKept
open Go.ChangeMaps (setBlock heap_setBlock_other heap_setBlock_same)
open Go.Maps (Keyed)
set_option linter.unusedSectionVars false

/-- Block 'it' is an iterator over map r, which holds m; 'left' is to come. -/
def IterIs {α β : Type} (encK : α → Value) (encV : β → Value) (okK : α → Prop) (w : World) (it r : Nat) (m left : List (α × β)) : Prop :=
 ∃ es clock since seen c0, w.heap[r]? = some (.map es clock) ∧ es.toList.map (fun e => (e.key, e.val)) = m.map (fun p => (encK p.1, encV p.2)) ∧ Stamped es clock ∧ (∀ p ∈ m, okK p.1) ∧
  w.heap[it]? = some (.mapIter (some r) since seen c0) ∧ (∀ x ∈ es.toList, x.born < since) ∧ since ≤ c0 ∧ since ≤ clock ∧ (leftOf es seen).toList.map (fun e => (e.key, e.val)) = left.map (fun p => (encK p.1, encV p.2))

theorem filter_erase {γ : Type} (f : γ → Nat) {l : List γ} {i : Nat} {e : γ} (hn : (l.map f).Nodup) (h : l[i]? = some e) : (l.filter fun y => !(f y == f e)) = l.eraseIdx i := by
 induction l generalizing i with
 | nil => simp at h
 | cons p l ih =>
  rw [List.map_cons, List.nodup_cons] at hn
  cases i with
  | zero =>
   simp at h
   subst h
   have : (l.filter fun y => !(f y == f p)) = l := List.filter_eq_self.2 fun q hq => by
    have : f q ≠ f p := fun e => hn.1 (List.mem_map.2 ⟨q, hq, e⟩)
    simpa using this
   simp [this]
  | succ i =>
   have hne : f p ≠ f e := fun e' => hn.1 (List.mem_map.2 ⟨e, List.mem_of_getElem? (by simpa using h), e'.symm⟩)
   rw [List.filter_cons_of_pos (by simpa using hne), ih hn.2 (by simpa using h)]
   rfl

theorem left_push (es : Array MapEntry) (seen : Array Nat) (b : Nat) : (leftOf es (seen.push b)).toList = (leftOf es seen).toList.filter fun y => !(y.born == b) := by
 unfold leftOf
 simp only [Array.toList_filter, List.filter_filter]
 congr 1
 funext y
 simp only [Array.contains_push]
 cases seen.contains y.born <;> cases hb : (y.born == b) <;> simp_all

section
variable {P : Program} {t k e : TypeId} {α β : Type} [DecidableEq α] {encK : α → Value} {encV : β → Value} {okK : α → Prop} {zero : Value}
variable {w w' : World} {r it : Nat} {m left : List (α × β)}

theorem IterIs.map (h : IterIs encK encV okK w it r m left) : MapIs encK encV okK w r m := by
 obtain ⟨es, clock, since, seen, c0, h1, h2, h3, h4, _⟩ := h
 exact ⟨es, clock, h1, h2, h3, h4⟩
theorem IterIs.lt (h : IterIs encK encV okK w it r m left) : it < w.heap.size := by
 obtain ⟨es, clock, since, seen, c0, _, _, _, _, h5, _⟩ := h
 exact (Array.getElem?_eq_some_iff.1 h5).1
theorem IterIs.ne (h : IterIs encK encV okK w it r m left) : it ≠ r := by
 obtain ⟨es, clock, since, seen, c0, h1, _, _, _, h5, _⟩ := h
 intro e
 rw [e, h1] at h5
 cases h5
theorem IterIs.keep (h : IterIs encK encV okK w it r m left) (hb : w'.heap[r]? = w.heap[r]?) (hi : w'.heap[it]? = w.heap[it]?) : IterIs encK encV okK w' it r m left := by
 obtain ⟨es, clock, since, seen, c0, h1, h2, h3, h4, h5, h6⟩ := h
 exact ⟨es, clock, since, seen, c0, hb.trans h1, h2, h3, h4, hi.trans h5, h6⟩
theorem IterIs.below {B : Nat} (h : IterIs encK encV okK w it r m left) (hb : Below B w w') (hr : r < B) (hi : it < B) : IterIs encK encV okK w' it r m left := h.keep (hb.block r hr) (hb.block it hi)
theorem IterIs.grown {row : Option Nat} (h : IterIs encK encV okK w it r m left) (hg : w.grownBy w' row) (hr : some r ≠ row) (hi : some it ≠ row) : IterIs encK encV okK w' it r m left := h.keep (hg.block r h.map.lt hr) (hg.block it h.lt hi)

/-- range m -/
theorem MapIs.range {t k e : TypeId} (ht : P.underlying t = some (.map k e)) (h : MapIs encK encV okK w r m) :
  ∃ w', (Instr.range t (.map (some r))).run P w = .ok (.pointer (some ⟨w.heap.size, 0, none⟩)) w' ∧ IterIs encK encV okK w' w.heap.size r m m ∧ w.grownBy w' none ∧ w'.heap.size = w.heap.size + 1 := by
 have hlt := h.lt
 obtain ⟨es, clock, hb, hm, hs, hk⟩ := h
 refine ⟨_, run_range_map w t k e r es clock ht hb, ⟨es, clock, clock, #[], clock, (Below.heap_alloc w _ r hlt).trans hb, hm, hs, hk, heap_alloc_new w _, ((stamped_iff es clock).1 hs).1, Nat.le_refl _, Nat.le_refl _, ?_⟩, World.grownBy_alloc w _ none, by simp⟩
 have : (leftOf es #[]).toList = es.toList := by
  unfold leftOf
  rw [Array.toList_filter]
  exact List.filter_eq_self.2 fun _ _ => by simp
 rw [this]
 exact hm

/-- the step -/
theorem IterIs.next (h : IterIs encK encV okK w it r m left) (ty : TypeId) :
  (left = [] ∧ (Instr.next (.pointer (some ⟨it, 0, none⟩)) false ty).run P w = .ok (.tuple #[.bool false]) w) ∨
  ∃ i p w', left[i]? = some p ∧ (Instr.next (.pointer (some ⟨it, 0, none⟩)) false ty).run P w = .ok (.tuple #[.bool true, encK p.1, encV p.2]) w' ∧ IterIs encK encV okK w' it r m (left.eraseIdx i) ∧ w.grownBy w' (some it) ∧ w'.heap.size = w.heap.size ∧
   (Instr.entry (.pointer (some ⟨it, 0, none⟩))).run P w' = .ok (.tuple #[encK p.1, encV p.2]) w' := by
 have hne := h.ne
 obtain ⟨es, clock, since, seen, c0, hb, hm, hs, hk, hi, hold, hsc, hsk, hl⟩ := h
 have hst := (stamped_iff es clock).1 hs
 rcases run_next_at (P := P) w ty it r since c0 seen es clock hi hb hold hsc with ⟨h0, hrun⟩ | ⟨e0, he, w1, hal, hrun⟩
 ·refine .inl ⟨?_, hrun⟩
  have : (leftOf es seen).toList = [] := List.eq_nil_of_length_eq_zero (by simpa using h0)
  rw [this] at hl
  simpa using hl.symm
 ·obtain ⟨i, hj⟩ := List.getElem?_of_mem he
  have hli : (left.map (fun p => (encK p.1, encV p.2)))[i]? = some (e0.key, e0.val) := by rw [← hl, List.getElem?_map, hj]; rfl
  rw [List.getElem?_map] at hli
  cases hlp : left[i]? with
  | none => rw [hlp] at hli; cases hli
  | some p =>
   rw [hlp] at hli
   simp at hli
   have hem : e0 ∈ es.toList := by
    unfold leftOf at he
    simp at he
    simpa using he.1
   have hi1 : w1.heap[it]? = some (.mapIter (some r) since seen c0) := by rcases hal with rfl | rfl <;> exact hi
   have hb1 : w1.heap[r]? = some (.map es clock) := by rcases hal with rfl | rfl <;> exact hb
   have hset := heap_set (o' := .mapIter (some r) since (seen.push e0.born) clock) hi1
   have hb' : (setBlock w1 it (.mapIter (some r) since (seen.push e0.born) clock)).heap[r]? = some (.map es clock) := (hset.2 r (fun e1 => hne e1.symm)).trans hb1
   have hsub : ((leftOf es seen).toList.map (·.born)).Nodup := by
    unfold leftOf
    rw [Array.toList_filter]
    exact hst.2.1.sublist (List.filter_sublist.map _)
   refine .inr ⟨i, p, _, hlp, by rw [hrun, hli.1, hli.2], ⟨es, clock, since, seen.push e0.born, clock, hb', hm, hs, hk, hset.1, hold, hsk, hsk, ?_⟩, ?_, ?_, ?_⟩
   ·rw [left_push, filter_erase (·.born) hsub hj, Go.ChangeMaps.map_eraseIdx, hl, ← Go.ChangeMaps.map_eraseIdx]
   ·rcases hal with rfl | rfl <;> exact ⟨rfl, rfl, rfl, by simp [setBlock], fun i _ hi => hset.2 i (fun e1 => hi (by rw [e1]))⟩
   ·rcases hal with rfl | rfl <;> simp [setBlock]
   ·rw [run_entry_at _ it r since seen es clock e0 hset.1 hb' hem hst.2.1, hli.1, hli.2]
end
end Go.Proofs.YtjdgdeiedkickaaDoor
