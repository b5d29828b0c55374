/- Part 5 of the texts of this claim, joined. -/
import Derived.Sort.CutIn
import Derived.Lib.Meet
import Derived.Test.YthofngceiecniaaMxW4
set_option linter.unusedVariables false
/- An act more. -/
namespace Go.Proofs.Ythofngceiecniaa
section
open Go.RowKit
theorem info_drops : (Try.prog.info? 97).map (fun i => (i.zero, i.size, i.bytes)) = some (some (.agg #[.int .i64 0, .int .i64 0, .int .i64 0, .int .i64 0]), 4, 32) := by kernel_rfl
theorem elem_drops : ElemAt Try.prog 121 97 (.agg #[.int .i64 0, .int .i64 0, .int .i64 0, .int .i64 0]) 4 32 := by
 obtain ⟨i0, hi, hz0, hz1, hz2⟩ := info_parts info_drops
 exact ⟨i0, Try.underlying121, hi, hz0, hz1, hz2, rfl, by decide⟩
theorem held_one (s : Held) : ∀ u ∈ heldC s, u.oneCell' = true := by
 intro u hu
 simp only [heldC, List.mem_cons, List.not_mem_nil, or_false] at hu
 rcases hu with rfl | rfl | rfl | rfl <;> rfl
theorem reads_new (w : World) (t : TypeId) {k n : Nat} (xs : List Value) (hn : xs.length = n * k) : Reads (w.alloc (.cells xs.toArray t)) (w.alloc (.cells xs.toArray t)).heap.size k (some ⟨w.heap.size, 0, none⟩) n xs := by
 have h := Blk.new w t xs.toArray
 refine ⟨hn, fun _ => ⟨_, rfl, h.lt, fun j u hu => ?_⟩⟩
 have ha : ((⟨w.heap.size, 0, none⟩ : Addr).add j) = ⟨w.heap.size, j, none⟩ := by
  unfold Addr.add
  by_cases hj : j = 0
  ·subst hj; simp
  ·simp [hj]
 rw [ha, h.cell]
 simpa using hu
structure TbOwn (w : World) (B : Nat) (T : Tb) : Prop where
 blk : Blk w T.g 123 T.cells
 mix : MixAt w B T.Av T.nv T.Aa T.na T.At T.nt T.m
 own : Own w B 97 4 T.AA T.nl T.cl (T.L.flatMap heldC)
 ne : ∀ a, T.AA = some a → T.g ≠ a.block
 le : B ≤ w.heap.size ∧ B ≤ T.g
 small : T.nv ≤ 4 ∧ T.na ≤ 12 ∧ T.nt ≤ 8 ∧ T.nl ≤ 13
theorem TbOwn.at_ {w : World} {B : Nat} {T : Tb} (h : TbOwn w B T) : TbAt w T := ⟨h.blk, h.mix.more h.le.1, h.own.reads (Nat.le_refl _), h.small⟩
theorem TbOwn.below {w w' : World} {B : Nat} {T : Tb} (h : TbOwn w B T) (hb : Below w.heap.size w w') : TbOwn w' B T :=
 ⟨h.blk.below hb h.blk.lt, h.mix.below (hb.mono h.le.1), h.own.below hb (Nat.le_refl _), h.ne, ⟨Nat.le_trans h.le.1 hb.size, h.le.2⟩, h.small⟩
theorem ne_row {g : Nat} {A : Option Addr} (h : ∀ a, A = some a → g ≠ a.block) : some g ≠ A.map (·.block) := by
 cases A with
 | none => simp
 | some a =>
  have := h a rfl
  simpa using this
def Tb.plus (T : Tb) (A : Option Addr) (c : Nat) (s : Held) : Tb := { T with AA := A, nl := T.nl + 1, cl := c, L := T.L ++ [s] }
theorem act_below {w W V W3 : World} {B : Nat} {T : Tb} {v : Value} (h : TbOwn w B T) (hb : Below w.heap.size w W) (hg : W.grownBy V (T.AA.map (·.block))) (hb3 : Below V.heap.size V W3) : Below B w (W3.setCell ⟨T.g, 4, none⟩ v) := by
 have hrow : ∀ k, T.AA.map (·.block) = some k → B ≤ k := by
  intro k hk
  cases hA : T.AA with
  | none => rw [hA] at hk; cases hk
  | some a => rw [hA] at hk; cases hk; exact (h.own.lt hA).1
 have h1 : Below B w W := hb.mono h.le.1
 have h2 : Below B w V := h1.grown hg (Nat.le_trans h.le.1 hb.size) hrow
 exact (h2.trans (hb3.mono (Nat.le_trans h.le.1 (Nat.le_trans hb.size hg.size)))).setCell (p := ⟨T.g, 4, none⟩) h.le.2 _
theorem act_own {w W V W3 : World} {B c9 : Nat} {T : Tb} {A9 : Option Addr} {s2 : Held} (h : TbOwn w B T) (hb : Below w.heap.size w W) (hg : W.grownBy V (T.AA.map (·.block))) (hb3 : Below V.heap.size V W3)
  (hown : Own V B 97 4 A9 (T.nl + 1) c9 (T.L.flatMap heldC ++ heldC s2)) (hA : A9 = T.AA ∨ A9 = some ⟨W.heap.size, 0, none⟩) (hbk : Blk W3 T.g 123 T.cells) (hn : T.nl ≤ 12) : TbOwn (W3.setCell ⟨T.g, 4, none⟩ (.slice A9 (T.nl + 1) c9)) B (T.plus A9 c9 s2) := by
 have hbel := act_below (v := .slice A9 (T.nl + 1) c9) h hb hg hb3
 have hne : ∀ a, A9 = some a → T.g ≠ a.block := by
  intro a ha
  rcases hA with e | e
  ·exact h.ne a (by rw [← e]; exact ha)
  ·rw [e] at ha
   cases ha
   have := (h.blk.below hb h.blk.lt).lt
   have := h.blk.lt
   have := hb.size
   dsimp only
   omega
 refine ⟨?_, h.mix.below hbel, ?_, hne, ⟨?_, h.le.2⟩, ⟨h.small.1, h.small.2.1, h.small.2.2.1, by show T.nl + 1 ≤ 13; omega⟩⟩
 ·exact hbk.set_ 4 _
 ·have := (hown.below hb3 (Nat.le_refl _))
  have e : (T.L ++ [s2]).flatMap heldC = T.L.flatMap heldC ++ heldC s2 := by simp
  show Own _ B _ 4 A9 (T.nl + 1) c9 ((T.L ++ [s2]).flatMap heldC)
  rw [e]
  exact this.grown (row := some T.g) (grown_setCell (grown_refl _ _) (p := ⟨T.g, 4, none⟩) (.inl rfl) _) (fun a ha e => hne a ha (Option.some.inj e).symm)
 ·have : W3.heap.size ≤ (W3.setCell ⟨T.g, 4, none⟩ (.slice A9 (T.nl + 1) c9)).heap.size := by simp [World.setCell]
  exact Nat.le_trans h.le.1 (Nat.le_trans hb.size (Nat.le_trans hg.size (Nat.le_trans hb3.size this)))
def Keep2 (w w' : World) (g : Nat) (row : Option Nat) : Prop := w.heap.size ≤ w'.heap.size ∧ ∀ i, i < w.heap.size → i ≠ g → some i ≠ row → w'.heap[i]? = w.heap[i]?
theorem act_keep {w W V W3 : World} {B : Nat} {T : Tb} {v : Value} (h : TbOwn w B T) (hb : Below w.heap.size w W) (hg : W.grownBy V (T.AA.map (·.block))) (hb3 : Below V.heap.size V W3) : Keep2 w (W3.setCell ⟨T.g, 4, none⟩ v) T.g (T.AA.map (·.block)) := by
 refine ⟨Nat.le_trans hb.size (Nat.le_trans hg.size (Nat.le_trans hb3.size (by simp [World.setCell]))), fun i hi hne hr => ?_⟩
 have h1 := hb.block i hi
 have h2 := hg.block i (Nat.lt_of_lt_of_le hi hb.size) hr
 have h3 := hb3.block i (Nat.lt_of_lt_of_le hi (Nat.le_trans hb.size hg.size))
 exact (Below.heap_setCell W3 ⟨T.g, 4, none⟩ v i hne).trans (h3.trans (h2.trans h1))
theorem act_fresh {w W : World} {T : Tb} {A9 : Option Addr} (hb : Below w.heap.size w W) (hA : A9 = T.AA ∨ A9 = some ⟨W.heap.size, 0, none⟩) : ∀ a, A9 = some a → A9 = T.AA ∨ w.heap.size ≤ a.block := by
 intro a ha
 rcases hA with e | e
 ·exact .inl e
 ·rw [e] at ha
  cases ha
  exact .inr hb.size
def ActOut (w : World) (B : Nat) (T : Tb) (r : Bool) (s2 : Held) (e : Ending) (w' : World) : Prop :=
 (r = false ∧ e = .returned (.bool false) ∧ Below w.heap.size w w') ∨ ∃ A c, r = true ∧ e = .returned (.bool true) ∧ TbOwn w' B (T.plus A c s2) ∧ Below B w w' ∧ Keep2 w w' T.g (T.AA.map (·.block)) ∧ (∀ a, A = some a → A = T.AA ∨ w.heap.size ≤ a.block)
set_option maxRecDepth 100000 in
set_option maxHeartbeats 16000000 in
theorem act_core (B : Nat) (T : Tb) (k : Nat) (x : MAct) (s : Held) (f : FuncId) (f2 f3 : Value) (r : Bool) (w : World) (h : TbOwn w B T) (hx : T.m.acts[k]? = some x) (ha : T.L[k]? = some s) (hn : T.nl ≤ 12) (hk : KindOk x)
  (hix : ∀ z : World, (Instr.index 166 kindsV (.int .i64 x.kind)).run Try.prog z = .ok (.agg #[.func (.func f) #[] #[], f2, f3]) z) (hen : ∀ args W, (callFunc f args).run Try.prog W = .ok (.enter f args) W)
  (hfd : ∀ z : World, (Instr.field 165 (.agg #[.func (.func f) #[] #[], f2, f3]) 0).run Try.prog z = .ok (.func (.func f) #[] #[]) z)
  (hK : ∀ W, Below w.heap.size w W → CallsIn Fence.wide 9 Try.prog f #[.pointer (some ⟨T.g, 0, none⟩), .agg #[.int .i64 (heldAt s 0), .int .i64 (heldAt s 1), .int .i64 (heldAt s 2), .int .i64 (heldAt s 3)], .agg #[.int .i64 x.kind, .int .i64 x.fr, .int .i64 x.to, .int .i64 x.drops]] W fun e w' => e = .returned (.bool r) ∧ Below W.heap.size W w')
  (hs : s.length = 4 ∧ Small s 2000) (hf : r = true → 0 ≤ sizeA T.m s x ∧ sizeA T.m s x ≤ 2000 ∧ (x.kind = 4 → 0 ≤ fromI T.m x) ∧ (fromI T.m x ≠ toI T.m x ∨ fromI T.m x < 0)) :
  CallsIn Fence.wide 9 Try.prog 84 #[.pointer (some ⟨T.g, 0, none⟩), .int .i64 k] w (ActOut w B T r (shiftH s (fromI T.m x) (toI T.m x) (sizeA T.m s x))) := by
 have HNL := lh hn
 clear hn
 have HT := lh h
 have HA := lh h.at_
 have hka : k < T.na := by have := h.mix.lenA; have := (List.getElem?_eq_some_iff.1 hx).1; omega
 obtain ⟨ba, oa, x', hAa, hba0, hx', c0, c1, c2, c3⟩ := h.mix.act hka
 have hba : ba < w.heap.size := Nat.lt_of_lt_of_le hba0 h.le.1
 rw [hx] at hx'
 obtain rfl : x = x' := Option.some.inj hx'
 have hkl : k < T.nl := by have := recs_n heldC_k (by omega) h.at_.all; have := (List.getElem?_eq_some_iff.1 ha).1; omega
 obtain ⟨bl, ol, s', hAL, hbl, ha', cl⟩ := recs_cell heldC_k (by omega) h.at_.all hkl
 rw [ha] at ha'
 obtain rfl : s = s' := Option.some.inj ha'
 have HX := lh hx
 have HAT := lh ha
 have HC0 := lh c0
 have HC1 := lh c1
 have HC2 := lh c2
 have HC3 := lh c3
 have HCL := lh cl
 have HAA := lh hAa
 have HAL := lh hAL
 have HBA := lh hba
 have HBL := lh hbl
 have HKA := lh hka
 have HKL := lh hkl
 have HKO := lh hk
 have HF := lh hf
 have HS := lh hs
 have HIX := lh hix
 have HFD := lh hfd
 have HKK := lh hK
 have HKI : Hid (inB 1 4 [x.kind] = true) := lh (by rw [inB_one]; rcases hk with h | h | h | h <;> rw [h] <;> decide)
 clear hx hx' ha ha' c0 c1 c2 c3 cl hAa hAL hba hba0 hbl h hka hkl hk hf hs hix hfd hK
 refine callsIn_of_wp Try.func84 rfl trivial ?_ rfl
 simp only [Try.ntmps84, List.size_toArray, List.length_cons, List.length_nil, Nat.reduceAdd, Nat.reduceSub, Array.replicate_succ, Array.replicate_zero, List.push_toArray, List.append_toArray, List.nil_append, List.cons_append]
 gi_wp2
 have Ly := lh (Lay.nil w)
 gi_cut [5, 6] from 9 (fun v5 v6 wx => ∃ g5 g6, v5 = .pointer (some ⟨g5, 0, none⟩) ∧ v6 = .pointer (some ⟨g6, 0, none⟩) ∧ Hid (g5 ≠ g6 ∧ Below w.heap.size w wx ∧ w.heap.size ≤ g5 ∧ w.heap.size ≤ g6 ∧ Blk wx g5 67 #[.int .i64 x.kind, .int .i64 x.fr, .int .i64 x.to, .int .i64 x.drops] ∧ Blk wx g6 97 #[.int .i64 (heldAt s 0), .int .i64 (heldAt s 1), .int .i64 (heldAt s 2), .int .i64 (heldAt s 3)]))
 case first =>
  obtain ⟨s0, rfl⟩ : ∃ s0, s0 = s := ⟨_, rfl⟩
  clear HS HF HKK Ly
  refine wpIn_region_stepsD (by kernel_rfl) (by kernel_rfl) (fun σ : (Nat × Nat) × (Nat → Value) => { tmps := #[.pointer (some ⟨T.g, 0, none⟩), .int .i64 k, undef, undef, .bool false, σ.2 5, σ.2 6, undef, undef, σ.2 9, σ.2 10, σ.2 11, σ.2 12, σ.2 13, σ.2 14, σ.2 15, σ.2 16, σ.2 17, σ.2 18, σ.2 19, σ.2 20, σ.2 21, σ.2 22, σ.2 23, undef, undef, undef, undef, undef, undef, undef, undef, undef, undef, undef, undef, undef, undef, undef, undef, undef, undef, undef, undef, undef, undef, undef, undef, undef, undef, undef, undef, undef, undef, undef, undef, undef, undef, undef, undef, undef, undef, undef], defers := [] })
   (fun L σ W => (Below w.heap.size w W) ∧ (L 15 = true → w.heap.size ≤ σ.1.1 ∧ σ.1.1 < W.heap.size ∧ (L 17 = false → Blk W σ.1.1 67 #[.int .i64 0, .int .i64 0, .int .i64 0, .int .i64 0]) ∧ (L 17 = true → Blk W σ.1.1 67 #[.int .i64 x.kind, .int .i64 x.fr, .int .i64 x.to, .int .i64 x.drops])) ∧ (L 16 = true → w.heap.size ≤ σ.1.2 ∧ σ.1.2 < W.heap.size ∧ (L 18 = false → Blk W σ.1.2 97 #[.int .i64 0, .int .i64 0, .int .i64 0, .int .i64 0]) ∧ (L 18 = true → Blk W σ.1.2 97 #[.int .i64 (heldAt s0 0), .int .i64 (heldAt s0 1), .int .i64 (heldAt s0 2), .int .i64 (heldAt s0 3)])) ∧ (L 15 = true → L 16 = true → σ.1.1 ≠ σ.1.2) ∧ (L 0 = true → σ.2 9 = .pointer (some ⟨T.g, 0, none⟩)) ∧ (L 1 = true → σ.2 10 = .pointer (some ⟨T.g, 0, none⟩)) ∧ (L 2 = true → σ.2 11 = .pointer (some ⟨T.g, 0, none⟩)) ∧ (L 3 = true → σ.2 12 = .pointer (some ⟨T.g, 2, none⟩)) ∧ (L 4 = true → σ.2 13 = .slice (some ⟨ba, oa, none⟩) T.na T.ca) ∧ (L 5 = true → σ.2 14 = .int .i64 k) ∧ (L 6 = true → σ.2 15 = .pointer (some ⟨ba, oa + k * 4, none⟩)) ∧ (L 7 = true → σ.2 16 = .agg #[.int .i64 x.kind, .int .i64 x.fr, .int .i64 x.to, .int .i64 x.drops]) ∧ (L 8 = true → σ.2 17 = .pointer (some ⟨T.g, 0, none⟩)) ∧ (L 9 = true → σ.2 18 = .pointer (some ⟨T.g, 0, none⟩)) ∧ (L 10 = true → σ.2 19 = .pointer (some ⟨T.g, 4, none⟩)) ∧ (L 11 = true → σ.2 20 = .slice (some ⟨bl, ol, none⟩) T.nl T.cl) ∧ (L 12 = true → σ.2 21 = .int .i64 k) ∧ (L 13 = true → σ.2 22 = .pointer (some ⟨bl, ol + k * 4, none⟩)) ∧ (L 14 = true → σ.2 23 = .agg #[.int .i64 (heldAt s0 0), .int .i64 (heldAt s0 1), .int .i64 (heldAt s0 2), .int .i64 (heldAt s0 3)]) ∧ (L 15 = true → σ.2 5 = .pointer (some ⟨σ.1.1, 0, none⟩)) ∧ (L 16 = true → σ.2 6 = .pointer (some ⟨σ.1.2, 0, none⟩)))
   ((0, 0), fun k => undef) rfl ?_ ?_ ?_
  ·exact ⟨below_drewN (Below.refl _ _) 1, (fun h => by cases h), (fun h => by cases h), (fun h => by cases h), (fun h => by cases h), (fun h => by cases h), (fun h => by cases h), (fun h => by cases h), (fun h => by cases h), (fun h => by cases h), (fun h => by cases h), (fun h => by cases h), (fun h => by cases h), (fun h => by cases h), (fun h => by cases h), (fun h => by cases h), (fun h => by cases h), (fun h => by cases h), (fun h => by cases h), (fun h => by cases h), (fun h => by cases h)⟩
  ·refine ⟨?_, ?_, ?_, ?_, ?_, ?_, ?_, ?_, ?_, ?_, ?_, ?_, ?_, ?_, ?_, ?_, ?_, ?_, ?_, trivial⟩
   ·rintro L ⟨gh, s⟩ W hu hd hdn ⟨g1, gA, gB, gN, f0, f1, f2, f3, f4, f5, f6, f7, f8, f9, f10, f11, f12, f13, f14, f15, f16⟩ K Q hK
    try dsimp only at g1 gA gB gN f0 f1 f2 f3 f4 f5 f6 f7 f8 f9 f10 f11 f12 f13 f14 f15 f16 ⊢
    have HF := lh (ai g1 (ai gA (ai gB (ai gN (ai f0 (ai f1 (ai f2 (ai f3 (ai f4 (ai f5 (ai f6 (ai f7 (ai f8 (ai f9 (ai f10 (ai f11 (ai f12 (ai f13 (ai f14 (ai f15 f16))))))))))))))))))))
    clear f16 f15 f14 f13 f12 f11 f10 f9 f8 f7 f6 f5 f4 f3 f2 f1 f0 gN gB gA g1 hd
    try simp only
    gi_wp2
    obtain ⟨g1, gA, gB, gN, f0, f1, f2, f3, f4, f5, f6, f7, f8, f9, f10, f11, f12, f13, f14, f15, f16⟩ := HF.out
    exact hK (gh, (upd s 9 (.pointer (some ⟨T.g, 0, none⟩)))) _ ⟨g1, gA, gB, gN, (fun _ => rfl), f1, f2, f3, f4, f5, f6, f7, f8, f9, f10, f11, f12, f13, f14, f15, f16⟩
   ·rintro L ⟨gh, s⟩ W hu hd hdn ⟨g1, gA, gB, gN, f0, f1, f2, f3, f4, f5, f6, f7, f8, f9, f10, f11, f12, f13, f14, f15, f16⟩ K Q hK
    try dsimp only at g1 gA gB gN f0 f1 f2 f3 f4 f5 f6 f7 f8 f9 f10 f11 f12 f13 f14 f15 f16 ⊢
    have e0 := f0 (hd.at_ 0 rfl)
    have tl := (HA.out.below g1).blk.lt
    have HF := lh (ai g1 (ai gA (ai gB (ai gN (ai f0 (ai f1 (ai f2 (ai f3 (ai f4 (ai f5 (ai f6 (ai f7 (ai f8 (ai f9 (ai f10 (ai f11 (ai f12 (ai f13 (ai f14 (ai f15 f16))))))))))))))))))))
    clear f16 f15 f14 f13 f12 f11 f10 f9 f8 f7 f6 f5 f4 f3 f2 f1 f0 gN gB gA g1 hd
    try simp only at e0 ⊢
    gi_wp2
    obtain ⟨g1, gA, gB, gN, f0, f1, f2, f3, f4, f5, f6, f7, f8, f9, f10, f11, f12, f13, f14, f15, f16⟩ := HF.out
    exact hK (gh, (upd (upd s 9 (.pointer (some ⟨T.g, 0, none⟩))) 10 (.pointer (some ⟨T.g, 0, none⟩)))) _ ⟨g1, gA, gB, gN, (fun _ => rfl), (fun _ => rfl), f2, f3, f4, f5, f6, f7, f8, f9, f10, f11, f12, f13, f14, f15, f16⟩
   ·rintro L ⟨gh, s⟩ W hu hd hdn ⟨g1, gA, gB, gN, f0, f1, f2, f3, f4, f5, f6, f7, f8, f9, f10, f11, f12, f13, f14, f15, f16⟩ K Q hK
    try dsimp only at g1 gA gB gN f0 f1 f2 f3 f4 f5 f6 f7 f8 f9 f10 f11 f12 f13 f14 f15 f16 ⊢
    have e1 := f1 (hd.at_ 1 rfl)
    have HF := lh (ai g1 (ai gA (ai gB (ai gN (ai f0 (ai f1 (ai f2 (ai f3 (ai f4 (ai f5 (ai f6 (ai f7 (ai f8 (ai f9 (ai f10 (ai f11 (ai f12 (ai f13 (ai f14 (ai f15 f16))))))))))))))))))))
    clear f16 f15 f14 f13 f12 f11 f10 f9 f8 f7 f6 f5 f4 f3 f2 f1 f0 gN gB gA g1 hd
    try simp only at e1 ⊢
    gi_wp2
    obtain ⟨g1, gA, gB, gN, f0, f1, f2, f3, f4, f5, f6, f7, f8, f9, f10, f11, f12, f13, f14, f15, f16⟩ := HF.out
    exact hK (gh, (upd (upd s 10 (.pointer (some ⟨T.g, 0, none⟩))) 11 (.pointer (some ⟨T.g, 0, none⟩)))) _ ⟨g1, gA, gB, gN, f0, (fun _ => rfl), (fun _ => rfl), f3, f4, f5, f6, f7, f8, f9, f10, f11, f12, f13, f14, f15, f16⟩
   ·rintro L ⟨gh, s⟩ W hu hd hdn ⟨g1, gA, gB, gN, f0, f1, f2, f3, f4, f5, f6, f7, f8, f9, f10, f11, f12, f13, f14, f15, f16⟩ K Q hK
    try dsimp only at g1 gA gB gN f0 f1 f2 f3 f4 f5 f6 f7 f8 f9 f10 f11 f12 f13 f14 f15 f16 ⊢
    have e2 := f2 (hd.at_ 2 rfl)
    have HF := lh (ai g1 (ai gA (ai gB (ai gN (ai f0 (ai f1 (ai f2 (ai f3 (ai f4 (ai f5 (ai f6 (ai f7 (ai f8 (ai f9 (ai f10 (ai f11 (ai f12 (ai f13 (ai f14 (ai f15 f16))))))))))))))))))))
    clear f16 f15 f14 f13 f12 f11 f10 f9 f8 f7 f6 f5 f4 f3 f2 f1 f0 gN gB gA g1 hd
    try simp only at e2 ⊢
    gi_wp2
    obtain ⟨g1, gA, gB, gN, f0, f1, f2, f3, f4, f5, f6, f7, f8, f9, f10, f11, f12, f13, f14, f15, f16⟩ := HF.out
    exact hK (gh, (upd (upd s 11 (.pointer (some ⟨T.g, 0, none⟩))) 12 (.pointer (some ⟨T.g, 2, none⟩)))) _ ⟨g1, gA, gB, gN, f0, f1, (fun _ => rfl), (fun _ => rfl), f4, f5, f6, f7, f8, f9, f10, f11, f12, f13, f14, f15, f16⟩
   ·rintro L ⟨gh, s⟩ W hu hd hdn ⟨g1, gA, gB, gN, f0, f1, f2, f3, f4, f5, f6, f7, f8, f9, f10, f11, f12, f13, f14, f15, f16⟩ K Q hK
    try dsimp only at g1 gA gB gN f0 f1 f2 f3 f4 f5 f6 f7 f8 f9 f10 f11 f12 f13 f14 f15 f16 ⊢
    have e3 := f3 (hd.at_ 3 rfl)
    have t2 : W.cell? ⟨T.g, 2, none⟩ = some (.slice (some ⟨ba, oa, none⟩) T.na T.ca) := by rw [← HAA.out]; exact (HA.out.below g1).blk.cell 2
    have HF := lh (ai g1 (ai gA (ai gB (ai gN (ai f0 (ai f1 (ai f2 (ai f3 (ai f4 (ai f5 (ai f6 (ai f7 (ai f8 (ai f9 (ai f10 (ai f11 (ai f12 (ai f13 (ai f14 (ai f15 f16))))))))))))))))))))
    clear f16 f15 f14 f13 f12 f11 f10 f9 f8 f7 f6 f5 f4 f3 f2 f1 f0 gN gB gA g1 hd
    try simp only at e3 ⊢
    gi_wp2
    obtain ⟨g1, gA, gB, gN, f0, f1, f2, f3, f4, f5, f6, f7, f8, f9, f10, f11, f12, f13, f14, f15, f16⟩ := HF.out
    exact hK (gh, (upd (upd s 12 (.pointer (some ⟨T.g, 2, none⟩))) 13 (.slice (some ⟨ba, oa, none⟩) T.na T.ca))) _ ⟨g1, gA, gB, gN, f0, f1, f2, (fun _ => rfl), (fun _ => rfl), f5, f6, f7, f8, f9, f10, f11, f12, f13, f14, f15, f16⟩
   ·rintro L ⟨gh, s⟩ W hu hd hdn ⟨g1, gA, gB, gN, f0, f1, f2, f3, f4, f5, f6, f7, f8, f9, f10, f11, f12, f13, f14, f15, f16⟩ K Q hK
    try dsimp only at g1 gA gB gN f0 f1 f2 f3 f4 f5 f6 f7 f8 f9 f10 f11 f12 f13 f14 f15 f16 ⊢
    have HF := lh (ai g1 (ai gA (ai gB (ai gN (ai f0 (ai f1 (ai f2 (ai f3 (ai f4 (ai f5 (ai f6 (ai f7 (ai f8 (ai f9 (ai f10 (ai f11 (ai f12 (ai f13 (ai f14 (ai f15 f16))))))))))))))))))))
    clear f16 f15 f14 f13 f12 f11 f10 f9 f8 f7 f6 f5 f4 f3 f2 f1 f0 gN gB gA g1 hd
    try simp only
    gi_wp2
    obtain ⟨g1, gA, gB, gN, f0, f1, f2, f3, f4, f5, f6, f7, f8, f9, f10, f11, f12, f13, f14, f15, f16⟩ := HF.out
    exact hK (gh, (upd s 14 (.int .i64 k))) _ ⟨g1, gA, gB, gN, f0, f1, f2, f3, f4, (fun _ => rfl), f6, f7, f8, f9, f10, f11, f12, f13, f14, f15, f16⟩
   ·rintro L ⟨gh, s⟩ W hu hd hdn ⟨g1, gA, gB, gN, f0, f1, f2, f3, f4, f5, f6, f7, f8, f9, f10, f11, f12, f13, f14, f15, f16⟩ K Q hK
    try dsimp only at g1 gA gB gN f0 f1 f2 f3 f4 f5 f6 f7 f8 f9 f10 f11 f12 f13 f14 f15 f16 ⊢
    have e4 := f4 (hd.at_ 4 rfl)
    have e5 := f5 (hd.at_ 5 rfl)
    have hka := HKA.out
    have HF := lh (ai g1 (ai gA (ai gB (ai gN (ai f0 (ai f1 (ai f2 (ai f3 (ai f4 (ai f5 (ai f6 (ai f7 (ai f8 (ai f9 (ai f10 (ai f11 (ai f12 (ai f13 (ai f14 (ai f15 f16))))))))))))))))))))
    clear f16 f15 f14 f13 f12 f11 f10 f9 f8 f7 f6 f5 f4 f3 f2 f1 f0 gN gB gA g1 hd
    try simp only at e4 e5 ⊢
    gi_wp2
    obtain ⟨g1, gA, gB, gN, f0, f1, f2, f3, f4, f5, f6, f7, f8, f9, f10, f11, f12, f13, f14, f15, f16⟩ := HF.out
    exact hK (gh, (upd (upd (upd s 13 (.slice (some ⟨ba, oa, none⟩) T.na T.ca)) 14 (.int .i64 k)) 15 (.pointer (some ⟨ba, oa + k * 4, none⟩)))) _ ⟨g1, gA, gB, gN, f0, f1, f2, f3, (fun _ => rfl), (fun _ => rfl), (fun _ => rfl), f7, f8, f9, f10, f11, f12, f13, f14, f15, f16⟩
   ·rintro L ⟨gh, s⟩ W hu hd hdn ⟨g1, gA, gB, gN, f0, f1, f2, f3, f4, f5, f6, f7, f8, f9, f10, f11, f12, f13, f14, f15, f16⟩ K Q hK
    try dsimp only at g1 gA gB gN f0 f1 f2 f3 f4 f5 f6 f7 f8 f9 f10 f11 f12 f13 f14 f15 f16 ⊢
    have e6 := f6 (hd.at_ 6 rfl)
    have a0 : W.cell? ⟨ba, oa + k * 4, none⟩ = some (.int .i64 x.kind) := (g1.cell (p := ⟨ba, oa + k * 4, none⟩) HBA.out).trans HC0.out
    have a1 : W.cell? ⟨ba, oa + k * 4 + 1, none⟩ = some (.int .i64 x.fr) := (g1.cell (p := ⟨ba, oa + k * 4 + 1, none⟩) HBA.out).trans HC1.out
    have a2 : W.cell? ⟨ba, oa + k * 4 + 2, none⟩ = some (.int .i64 x.to) := (g1.cell (p := ⟨ba, oa + k * 4 + 2, none⟩) HBA.out).trans HC2.out
    have a3 : W.cell? ⟨ba, oa + k * 4 + 3, none⟩ = some (.int .i64 x.drops) := (g1.cell (p := ⟨ba, oa + k * 4 + 3, none⟩) HBA.out).trans HC3.out
    have HF := lh (ai g1 (ai gA (ai gB (ai gN (ai f0 (ai f1 (ai f2 (ai f3 (ai f4 (ai f5 (ai f6 (ai f7 (ai f8 (ai f9 (ai f10 (ai f11 (ai f12 (ai f13 (ai f14 (ai f15 f16))))))))))))))))))))
    clear f16 f15 f14 f13 f12 f11 f10 f9 f8 f7 f6 f5 f4 f3 f2 f1 f0 gN gB gA g1 hd
    try simp only at e6 ⊢
    gi_wp2
    obtain ⟨g1, gA, gB, gN, f0, f1, f2, f3, f4, f5, f6, f7, f8, f9, f10, f11, f12, f13, f14, f15, f16⟩ := HF.out
    exact hK (gh, (upd (upd s 15 (.pointer (some ⟨ba, oa + k * 4, none⟩))) 16 (.agg #[.int .i64 x.kind, .int .i64 x.fr, .int .i64 x.to, .int .i64 x.drops]))) _ ⟨g1, gA, gB, gN, f0, f1, f2, f3, f4, f5, (fun _ => rfl), (fun _ => rfl), f8, f9, f10, f11, f12, f13, f14, f15, f16⟩
   ·rintro L ⟨gh, s⟩ W hu hd hdn ⟨g1, gA, gB, gN, f0, f1, f2, f3, f4, f5, f6, f7, f8, f9, f10, f11, f12, f13, f14, f15, f16⟩ K Q hK
    try dsimp only at g1 gA gB gN f0 f1 f2 f3 f4 f5 f6 f7 f8 f9 f10 f11 f12 f13 f14 f15 f16 ⊢
    have HF := lh (ai g1 (ai gA (ai gB (ai gN (ai f0 (ai f1 (ai f2 (ai f3 (ai f4 (ai f5 (ai f6 (ai f7 (ai f8 (ai f9 (ai f10 (ai f11 (ai f12 (ai f13 (ai f14 (ai f15 f16))))))))))))))))))))
    clear f16 f15 f14 f13 f12 f11 f10 f9 f8 f7 f6 f5 f4 f3 f2 f1 f0 gN gB gA g1 hd
    try simp only
    gi_wp2
    obtain ⟨g1, gA, gB, gN, f0, f1, f2, f3, f4, f5, f6, f7, f8, f9, f10, f11, f12, f13, f14, f15, f16⟩ := HF.out
    exact hK (gh, (upd s 17 (.pointer (some ⟨T.g, 0, none⟩)))) _ ⟨g1, gA, gB, gN, f0, f1, f2, f3, f4, f5, f6, f7, (fun _ => rfl), f9, f10, f11, f12, f13, f14, f15, f16⟩
   ·rintro L ⟨gh, s⟩ W hu hd hdn ⟨g1, gA, gB, gN, f0, f1, f2, f3, f4, f5, f6, f7, f8, f9, f10, f11, f12, f13, f14, f15, f16⟩ K Q hK
    try dsimp only at g1 gA gB gN f0 f1 f2 f3 f4 f5 f6 f7 f8 f9 f10 f11 f12 f13 f14 f15 f16 ⊢
    have e8 := f8 (hd.at_ 8 rfl)
    have tl := (HA.out.below g1).blk.lt
    have HF := lh (ai g1 (ai gA (ai gB (ai gN (ai f0 (ai f1 (ai f2 (ai f3 (ai f4 (ai f5 (ai f6 (ai f7 (ai f8 (ai f9 (ai f10 (ai f11 (ai f12 (ai f13 (ai f14 (ai f15 f16))))))))))))))))))))
    clear f16 f15 f14 f13 f12 f11 f10 f9 f8 f7 f6 f5 f4 f3 f2 f1 f0 gN gB gA g1 hd
    try simp only at e8 ⊢
    gi_wp2
    obtain ⟨g1, gA, gB, gN, f0, f1, f2, f3, f4, f5, f6, f7, f8, f9, f10, f11, f12, f13, f14, f15, f16⟩ := HF.out
    exact hK (gh, (upd (upd s 17 (.pointer (some ⟨T.g, 0, none⟩))) 18 (.pointer (some ⟨T.g, 0, none⟩)))) _ ⟨g1, gA, gB, gN, f0, f1, f2, f3, f4, f5, f6, f7, (fun _ => rfl), (fun _ => rfl), f10, f11, f12, f13, f14, f15, f16⟩
   ·rintro L ⟨gh, s⟩ W hu hd hdn ⟨g1, gA, gB, gN, f0, f1, f2, f3, f4, f5, f6, f7, f8, f9, f10, f11, f12, f13, f14, f15, f16⟩ K Q hK
    try dsimp only at g1 gA gB gN f0 f1 f2 f3 f4 f5 f6 f7 f8 f9 f10 f11 f12 f13 f14 f15 f16 ⊢
    have e9 := f9 (hd.at_ 9 rfl)
    have HF := lh (ai g1 (ai gA (ai gB (ai gN (ai f0 (ai f1 (ai f2 (ai f3 (ai f4 (ai f5 (ai f6 (ai f7 (ai f8 (ai f9 (ai f10 (ai f11 (ai f12 (ai f13 (ai f14 (ai f15 f16))))))))))))))))))))
    clear f16 f15 f14 f13 f12 f11 f10 f9 f8 f7 f6 f5 f4 f3 f2 f1 f0 gN gB gA g1 hd
    try simp only at e9 ⊢
    gi_wp2
    obtain ⟨g1, gA, gB, gN, f0, f1, f2, f3, f4, f5, f6, f7, f8, f9, f10, f11, f12, f13, f14, f15, f16⟩ := HF.out
    exact hK (gh, (upd (upd s 18 (.pointer (some ⟨T.g, 0, none⟩))) 19 (.pointer (some ⟨T.g, 4, none⟩)))) _ ⟨g1, gA, gB, gN, f0, f1, f2, f3, f4, f5, f6, f7, f8, (fun _ => rfl), (fun _ => rfl), f11, f12, f13, f14, f15, f16⟩
   ·rintro L ⟨gh, s⟩ W hu hd hdn ⟨g1, gA, gB, gN, f0, f1, f2, f3, f4, f5, f6, f7, f8, f9, f10, f11, f12, f13, f14, f15, f16⟩ K Q hK
    try dsimp only at g1 gA gB gN f0 f1 f2 f3 f4 f5 f6 f7 f8 f9 f10 f11 f12 f13 f14 f15 f16 ⊢
    have e10 := f10 (hd.at_ 10 rfl)
    have t4 : W.cell? ⟨T.g, 4, none⟩ = some (.slice (some ⟨bl, ol, none⟩) T.nl T.cl) := by rw [← HAL.out]; exact (HA.out.below g1).blk.cell 4
    have HF := lh (ai g1 (ai gA (ai gB (ai gN (ai f0 (ai f1 (ai f2 (ai f3 (ai f4 (ai f5 (ai f6 (ai f7 (ai f8 (ai f9 (ai f10 (ai f11 (ai f12 (ai f13 (ai f14 (ai f15 f16))))))))))))))))))))
    clear f16 f15 f14 f13 f12 f11 f10 f9 f8 f7 f6 f5 f4 f3 f2 f1 f0 gN gB gA g1 hd
    try simp only at e10 ⊢
    gi_wp2
    obtain ⟨g1, gA, gB, gN, f0, f1, f2, f3, f4, f5, f6, f7, f8, f9, f10, f11, f12, f13, f14, f15, f16⟩ := HF.out
    exact hK (gh, (upd (upd s 19 (.pointer (some ⟨T.g, 4, none⟩))) 20 (.slice (some ⟨bl, ol, none⟩) T.nl T.cl))) _ ⟨g1, gA, gB, gN, f0, f1, f2, f3, f4, f5, f6, f7, f8, f9, (fun _ => rfl), (fun _ => rfl), f12, f13, f14, f15, f16⟩
   ·rintro L ⟨gh, s⟩ W hu hd hdn ⟨g1, gA, gB, gN, f0, f1, f2, f3, f4, f5, f6, f7, f8, f9, f10, f11, f12, f13, f14, f15, f16⟩ K Q hK
    try dsimp only at g1 gA gB gN f0 f1 f2 f3 f4 f5 f6 f7 f8 f9 f10 f11 f12 f13 f14 f15 f16 ⊢
    have HF := lh (ai g1 (ai gA (ai gB (ai gN (ai f0 (ai f1 (ai f2 (ai f3 (ai f4 (ai f5 (ai f6 (ai f7 (ai f8 (ai f9 (ai f10 (ai f11 (ai f12 (ai f13 (ai f14 (ai f15 f16))))))))))))))))))))
    clear f16 f15 f14 f13 f12 f11 f10 f9 f8 f7 f6 f5 f4 f3 f2 f1 f0 gN gB gA g1 hd
    try simp only
    gi_wp2
    obtain ⟨g1, gA, gB, gN, f0, f1, f2, f3, f4, f5, f6, f7, f8, f9, f10, f11, f12, f13, f14, f15, f16⟩ := HF.out
    exact hK (gh, (upd s 21 (.int .i64 k))) _ ⟨g1, gA, gB, gN, f0, f1, f2, f3, f4, f5, f6, f7, f8, f9, f10, f11, (fun _ => rfl), f13, f14, f15, f16⟩
   ·rintro L ⟨gh, s⟩ W hu hd hdn ⟨g1, gA, gB, gN, f0, f1, f2, f3, f4, f5, f6, f7, f8, f9, f10, f11, f12, f13, f14, f15, f16⟩ K Q hK
    try dsimp only at g1 gA gB gN f0 f1 f2 f3 f4 f5 f6 f7 f8 f9 f10 f11 f12 f13 f14 f15 f16 ⊢
    have e11 := f11 (hd.at_ 11 rfl)
    have e12 := f12 (hd.at_ 12 rfl)
    have hkl := HKL.out
    have HF := lh (ai g1 (ai gA (ai gB (ai gN (ai f0 (ai f1 (ai f2 (ai f3 (ai f4 (ai f5 (ai f6 (ai f7 (ai f8 (ai f9 (ai f10 (ai f11 (ai f12 (ai f13 (ai f14 (ai f15 f16))))))))))))))))))))
    clear f16 f15 f14 f13 f12 f11 f10 f9 f8 f7 f6 f5 f4 f3 f2 f1 f0 gN gB gA g1 hd
    try simp only at e11 e12 ⊢
    gi_wp2
    obtain ⟨g1, gA, gB, gN, f0, f1, f2, f3, f4, f5, f6, f7, f8, f9, f10, f11, f12, f13, f14, f15, f16⟩ := HF.out
    exact hK (gh, (upd (upd (upd s 20 (.slice (some ⟨bl, ol, none⟩) T.nl T.cl)) 21 (.int .i64 k)) 22 (.pointer (some ⟨bl, ol + k * 4, none⟩)))) _ ⟨g1, gA, gB, gN, f0, f1, f2, f3, f4, f5, f6, f7, f8, f9, f10, (fun _ => rfl), (fun _ => rfl), (fun _ => rfl), f14, f15, f16⟩
   ·rintro L ⟨gh, s⟩ W hu hd hdn ⟨g1, gA, gB, gN, f0, f1, f2, f3, f4, f5, f6, f7, f8, f9, f10, f11, f12, f13, f14, f15, f16⟩ K Q hK
    try dsimp only at g1 gA gB gN f0 f1 f2 f3 f4 f5 f6 f7 f8 f9 f10 f11 f12 f13 f14 f15 f16 ⊢
    have e13 := f13 (hd.at_ 13 rfl)
    have l0 : W.cell? ⟨bl, ol + k * 4, none⟩ = some (.int .i64 (heldAt s0 0)) := (g1.cell (p := ⟨bl, ol + k * 4, none⟩) HBL.out).trans (HCL.out 0 _ rfl)
    have l1 : W.cell? ⟨bl, ol + k * 4 + 1, none⟩ = some (.int .i64 (heldAt s0 1)) := (g1.cell (p := ⟨bl, ol + k * 4 + 1, none⟩) HBL.out).trans (HCL.out 1 _ rfl)
    have l2 : W.cell? ⟨bl, ol + k * 4 + 2, none⟩ = some (.int .i64 (heldAt s0 2)) := (g1.cell (p := ⟨bl, ol + k * 4 + 2, none⟩) HBL.out).trans (HCL.out 2 _ rfl)
    have l3 : W.cell? ⟨bl, ol + k * 4 + 3, none⟩ = some (.int .i64 (heldAt s0 3)) := (g1.cell (p := ⟨bl, ol + k * 4 + 3, none⟩) HBL.out).trans (HCL.out 3 _ rfl)
    have HF := lh (ai g1 (ai gA (ai gB (ai gN (ai f0 (ai f1 (ai f2 (ai f3 (ai f4 (ai f5 (ai f6 (ai f7 (ai f8 (ai f9 (ai f10 (ai f11 (ai f12 (ai f13 (ai f14 (ai f15 f16))))))))))))))))))))
    clear f16 f15 f14 f13 f12 f11 f10 f9 f8 f7 f6 f5 f4 f3 f2 f1 f0 gN gB gA g1 hd
    try simp only at e13 ⊢
    gi_wp2
    obtain ⟨g1, gA, gB, gN, f0, f1, f2, f3, f4, f5, f6, f7, f8, f9, f10, f11, f12, f13, f14, f15, f16⟩ := HF.out
    exact hK (gh, (upd (upd s 22 (.pointer (some ⟨bl, ol + k * 4, none⟩))) 23 (.agg #[.int .i64 (heldAt s0 0), .int .i64 (heldAt s0 1), .int .i64 (heldAt s0 2), .int .i64 (heldAt s0 3)]))) _ ⟨g1, gA, gB, gN, f0, f1, f2, f3, f4, f5, f6, f7, f8, f9, f10, f11, f12, (fun _ => rfl), (fun _ => rfl), f15, f16⟩
   ·rintro L ⟨gh, s⟩ W hu hd hdn ⟨g1, gA, gB, gN, f0, f1, f2, f3, f4, f5, f6, f7, f8, f9, f10, f11, f12, f13, f14, f15, f16⟩ K Q hK
    try dsimp only at g1 gA gB gN f0 f1 f2 f3 f4 f5 f6 f7 f8 f9 f10 f11 f12 f13 f14 f15 f16 ⊢
    have h17 : L 17 = false := by
     cases hc : L 17 with
     | false => rfl
     | true => exact hdn.no 17 15 hc rfl hu
    have HF := lh (ai g1 (ai gA (ai gB (ai gN (ai f0 (ai f1 (ai f2 (ai f3 (ai f4 (ai f5 (ai f6 (ai f7 (ai f8 (ai f9 (ai f10 (ai f11 (ai f12 (ai f13 (ai f14 (ai f15 f16))))))))))))))))))))
    clear f16 f15 f14 f13 f12 f11 f10 f9 f8 f7 f6 f5 f4 f3 f2 f1 f0 gN gB gA g1 hd
    try simp only
    gi_wp2
    obtain ⟨g1, gA, gB, gN, f0, f1, f2, f3, f4, f5, f6, f7, f8, f9, f10, f11, f12, f13, f14, f15, f16⟩ := HF.out
    have hb : Below W.heap.size W (W.alloc (.cells #[.int .i64 0, .int .i64 0, .int .i64 0, .int .i64 0] 67)) := (Below.refl _ _).alloc (Nat.le_refl _) _
    exact hK ((W.heap.size, gh.2), (upd s 5 (.pointer (some ⟨W.heap.size, 0, none⟩)))) _ ⟨(g1.trans (hb.mono g1.size)), (fun _ => ⟨g1.size, by simp, fun _ => Blk.new W _ _, fun h => absurd (h17.symm.trans h) (by decide)⟩), (fun h => ⟨(gB h).1, Nat.lt_of_lt_of_le (gB h).2.1 hb.size, fun q => ((gB h).2.2.1 q).below hb (gB h).2.1, fun q => ((gB h).2.2.2 q).below hb (gB h).2.1⟩), (fun _ h => Nat.ne_of_gt (gB h).2.1), f0, f1, f2, f3, f4, f5, f6, f7, f8, f9, f10, f11, f12, f13, f14, (fun _ => rfl), f16⟩
   ·rintro L ⟨gh, s⟩ W hu hd hdn ⟨g1, gA, gB, gN, f0, f1, f2, f3, f4, f5, f6, f7, f8, f9, f10, f11, f12, f13, f14, f15, f16⟩ K Q hK
    try dsimp only at g1 gA gB gN f0 f1 f2 f3 f4 f5 f6 f7 f8 f9 f10 f11 f12 f13 f14 f15 f16 ⊢
    have h18 : L 18 = false := by
     cases hc : L 18 with
     | false => rfl
     | true => exact hdn.no 18 16 hc rfl hu
    have HF := lh (ai g1 (ai gA (ai gB (ai gN (ai f0 (ai f1 (ai f2 (ai f3 (ai f4 (ai f5 (ai f6 (ai f7 (ai f8 (ai f9 (ai f10 (ai f11 (ai f12 (ai f13 (ai f14 (ai f15 f16))))))))))))))))))))
    clear f16 f15 f14 f13 f12 f11 f10 f9 f8 f7 f6 f5 f4 f3 f2 f1 f0 gN gB gA g1 hd
    try simp only
    gi_wp2
    obtain ⟨g1, gA, gB, gN, f0, f1, f2, f3, f4, f5, f6, f7, f8, f9, f10, f11, f12, f13, f14, f15, f16⟩ := HF.out
    have hb : Below W.heap.size W (W.alloc (.cells #[.int .i64 0, .int .i64 0, .int .i64 0, .int .i64 0] 97)) := (Below.refl _ _).alloc (Nat.le_refl _) _
    exact hK ((gh.1, W.heap.size), (upd s 6 (.pointer (some ⟨W.heap.size, 0, none⟩)))) _ ⟨(g1.trans (hb.mono g1.size)), (fun h => ⟨(gA h).1, Nat.lt_of_lt_of_le (gA h).2.1 hb.size, fun q => ((gA h).2.2.1 q).below hb (gA h).2.1, fun q => ((gA h).2.2.2 q).below hb (gA h).2.1⟩), (fun _ => ⟨g1.size, by simp, fun _ => Blk.new W _ _, fun h => absurd (h18.symm.trans h) (by decide)⟩), (fun h _ => Nat.ne_of_lt (gA h).2.1), f0, f1, f2, f3, f4, f5, f6, f7, f8, f9, f10, f11, f12, f13, f14, f15, (fun _ => rfl)⟩
   ·rintro L ⟨gh, s⟩ W hu hd hdn ⟨g1, gA, gB, gN, f0, f1, f2, f3, f4, f5, f6, f7, f8, f9, f10, f11, f12, f13, f14, f15, f16⟩ K Q hK
    try dsimp only at g1 gA gB gN f0 f1 f2 f3 f4 f5 f6 f7 f8 f9 f10 f11 f12 f13 f14 f15 f16 ⊢
    have e15 := f15 (hd.at_ 15 rfl)
    have e7 := f7 (hd.at_ 7 rfl)
    have d15 := hd.at_ 15 rfl
    have RA := (gA d15).2.2.1 hu
    have y0 := RA.cell 0
    have z0 := RA.frozen 0
    have y1 := RA.cell 1
    have z1 := RA.frozen 1
    have y2 := RA.cell 2
    have z2 := RA.frozen 2
    have y3 := RA.cell 3
    have z3 := RA.frozen 3
    have rl := RA.lt
    have HRA := lh RA
    have HGE := lh (gA d15).1
    have HD15 := lh d15
    clear RA d15
    have HF := lh (ai g1 (ai gA (ai gB (ai gN (ai f0 (ai f1 (ai f2 (ai f3 (ai f4 (ai f5 (ai f6 (ai f7 (ai f8 (ai f9 (ai f10 (ai f11 (ai f12 (ai f13 (ai f14 (ai f15 f16))))))))))))))))))))
    clear f16 f15 f14 f13 f12 f11 f10 f9 f8 f7 f6 f5 f4 f3 f2 f1 f0 gN gB gA g1 hd
    try simp only at e15 e7 ⊢
    gi_wp2
    obtain ⟨g1, gA, gB, gN, f0, f1, f2, f3, f4, f5, f6, f7, f8, f9, f10, f11, f12, f13, f14, f15, f16⟩ := HF.out
    have R := ret4' HRA.out (Below.refl gh.1 W) (Nat.le_refl _) (.int .i64 x.kind) (.int .i64 x.fr) (.int .i64 x.to) (.int .i64 x.drops)
    exact hK (gh, (upd (upd s 5 (.pointer (some ⟨gh.1, 0, none⟩))) 16 (.agg #[.int .i64 x.kind, .int .i64 x.fr, .int .i64 x.to, .int .i64 x.drops]))) _ ⟨(g1.trans (R.2.1.mono HGE.out)), (fun _ => ⟨HGE.out, R.1.lt, (fun h => by cases h), fun _ => R.1⟩), (fun h => ⟨(gB h).1, Nat.lt_of_lt_of_le (gB h).2.1 R.2.2.size, fun q => ((gB h).2.2.1 q).grown R.2.2 (fun e => gN HD15.out h (Option.some.inj e).symm), fun q => ((gB h).2.2.2 q).grown R.2.2 (fun e => gN HD15.out h (Option.some.inj e).symm)⟩), gN, f0, f1, f2, f3, f4, f5, f6, (fun _ => rfl), f8, f9, f10, f11, f12, f13, f14, (fun _ => rfl), f16⟩
   ·rintro L ⟨gh, s⟩ W hu hd hdn ⟨g1, gA, gB, gN, f0, f1, f2, f3, f4, f5, f6, f7, f8, f9, f10, f11, f12, f13, f14, f15, f16⟩ K Q hK
    try dsimp only at g1 gA gB gN f0 f1 f2 f3 f4 f5 f6 f7 f8 f9 f10 f11 f12 f13 f14 f15 f16 ⊢
    have e16 := f16 (hd.at_ 16 rfl)
    have e14 := f14 (hd.at_ 14 rfl)
    have d16 := hd.at_ 16 rfl
    have RB := (gB d16).2.2.1 hu
    have y0 := RB.cell 0
    have z0 := RB.frozen 0
    have y1 := RB.cell 1
    have z1 := RB.frozen 1
    have y2 := RB.cell 2
    have z2 := RB.frozen 2
    have y3 := RB.cell 3
    have z3 := RB.frozen 3
    have rl := RB.lt
    have HRB := lh RB
    have HGE := lh (gB d16).1
    have HD16 := lh d16
    clear RB d16
    have HF := lh (ai g1 (ai gA (ai gB (ai gN (ai f0 (ai f1 (ai f2 (ai f3 (ai f4 (ai f5 (ai f6 (ai f7 (ai f8 (ai f9 (ai f10 (ai f11 (ai f12 (ai f13 (ai f14 (ai f15 f16))))))))))))))))))))
    clear f16 f15 f14 f13 f12 f11 f10 f9 f8 f7 f6 f5 f4 f3 f2 f1 f0 gN gB gA g1 hd
    try simp only at e16 e14 ⊢
    gi_wp2
    obtain ⟨g1, gA, gB, gN, f0, f1, f2, f3, f4, f5, f6, f7, f8, f9, f10, f11, f12, f13, f14, f15, f16⟩ := HF.out
    have R := ret4' HRB.out (Below.refl gh.2 W) (Nat.le_refl _) (.int .i64 (heldAt s0 0)) (.int .i64 (heldAt s0 1)) (.int .i64 (heldAt s0 2)) (.int .i64 (heldAt s0 3))
    exact hK (gh, (upd (upd s 6 (.pointer (some ⟨gh.2, 0, none⟩))) 23 (.agg #[.int .i64 (heldAt s0 0), .int .i64 (heldAt s0 1), .int .i64 (heldAt s0 2), .int .i64 (heldAt s0 3)]))) _ ⟨(g1.trans (R.2.1.mono HGE.out)), (fun h => ⟨(gA h).1, Nat.lt_of_lt_of_le (gA h).2.1 R.2.2.size, fun q => ((gA h).2.2.1 q).grown R.2.2 (fun e => gN h HD16.out (Option.some.inj e)), fun q => ((gA h).2.2.2 q).grown R.2.2 (fun e => gN h HD16.out (Option.some.inj e))⟩), (fun _ => ⟨HGE.out, R.1.lt, (fun h => by cases h), fun _ => R.1⟩), gN, f0, f1, f2, f3, f4, f5, f6, f7, f8, f9, f10, f11, f12, f13, (fun _ => rfl), f15, (fun _ => rfl)⟩
  ·rintro L ⟨gh, s⟩ W hall ⟨g1, gA, gB, gN, f0, f1, f2, f3, f4, f5, f6, f7, f8, f9, f10, f11, f12, f13, f14, f15, f16⟩
   have a15 := hall 15 (by decide)
   have a16 := hall 16 (by decide)
   have GA := gA a15
   have GB := gB a16
   have GN := gN a15 a16
   have GA2 := GA.2.2.2 (hall 17 (by decide))
   have GB2 := GB.2.2.2 (hall 18 (by decide))
   have e5 := f15 a15
   have e6 := f16 a16
   have HGG := lh (ai GN (ai g1 (ai GA.1 (ai GB.1 (ai GA2 GB2)))))
   clear f16 f15 f14 f13 f12 f11 f10 f9 f8 f7 f6 f5 f4 f3 f2 f1 f0 gN gB gA g1 GA GB GN GA2 GB2 a15 a16 hall
   try simp only at e5 e6 ⊢
   gi_wp2
   gi_meet
   exact ⟨_, _, rfl, rfl, HGG⟩
 case rest =>
  obtain ⟨g5, g6, rfl, rfl, HC⟩ := hcut
  rename World => C1
  replace Ly := lh (((show Lay w C1 [] from ⟨HC.out.2.1, fun b hb => by simp at hb⟩).add HC.out.2.2.1 HC.out.2.2.2.2.1).add HC.out.2.2.2.1 HC.out.2.2.2.2.2)
  have HN56 := lh HC.out.1
  clear HC
  gi_wp2
  refine wpIn_flow_old [([true, true], 2), ([], 3), ([false, false, false, false, true, true, false, true, true, false, false, true, true, true], 6), ([false, false, false, false, false, false, false, false, false, true, true], 14)] [false, false, false, false, false, false, false, false, false, false, false, false, false, false, false, true, true] [] (by kernel_rfl) (by kernel_rfl) (by kernel_rfl) (below_drewN (Below.refl _ _) 1) ?_
  refine wpFlow_cons (A := ?AF1) rfl ?hq1 ?_
  case hq1 =>
   rintro σ hσ of hof hcl
   have HOF := lh hof
   have HCL := lh hcl
   clear hof hcl
   obtain ⟨c0_, c1_, c2_, c3_⟩ := lyz4 Ly HOF 0 rfl
   obtain ⟨c4_, c5_, c6_, c7_⟩ := lyz4 Ly HOF 1 rfl
   have hfw := hfT
   have hix : ∀ z : World, (Instr.index 166 kindsV (.int .i64 x.kind)).run Try.prog z = .ok (.agg #[.func (.func f) #[] #[], f2, f3]) z := HIX.out
   unfold kindsV at hix
   have hfd := HFD.out
   simp only [pickB]
   repeat (gi_big_quiet_step (fail))
   refine wpQuietIn_nil ?_
   exact rfl
  intro W1 hW
  replace Ly := lyb Ly hW
  clear hW
  gi_wp2
  refine ⟨trivial, (Below.refl _ _).alloc (Nat.le_refl _) _, ?_⟩
  have hb : Below W1.heap.size W1 (W1.alloc (.cells #[.int .i64 x.kind] 3)) := (Below.refl _ _).alloc (Nat.le_refl _) _
  replace Ly := lyb Ly hb
  have HPl := lh (show IntsAt (W1.alloc (.cells #[.int .i64 x.kind] 3)) (W1.alloc (.cells #[.int .i64 x.kind] 3)).heap.size (some ⟨W1.heap.size, 0, none⟩) 1 [x.kind] from IntsAt.new W1 3 [x.kind] _ (by simp))
  obtain ⟨P3, hP⟩ : ∃ P, W1.heap.size = P := ⟨_, rfl⟩
  rw [hP] at HPl ⊢
  generalize (W1.alloc (.cells #[.int .i64 x.kind] 3)) = V2 at *
  clear hb hP
  refine wpFlow_cons rfl Quietly.none ?_
  intro W4 hW
  replace Ly := lyb Ly hW
  replace HPl := lh ((HPl.out.below hW).more hW.size)
  clear hW
  gi_wp2
  refine ⟨trivial, (callsIn_wide.2 (in_any 1 4 (some ⟨P3, 0, none⟩) 1 1 [x.kind] W4 HPl.out (by decide))).mono ?_⟩
  rintro e W5 ⟨rfl, hb⟩
  replace Ly := lyb Ly hb
  replace HPl := lh ((HPl.out.below hb).more hb.size)
  rw [HKI.out]
  gi_wp2
  refine ⟨trivial, hb, ?_⟩
  clear hb
  clear HPl
  refine wpFlow_cons (A := ?AF2) rfl ?hq2 ?_
  case hq2 =>
   rintro σ hσ of hof hcl
   have HOF := lh hof
   have HCL := lh hcl
   clear hof hcl
   obtain ⟨c0_, c1_, c2_, c3_⟩ := lyz4 Ly HOF 0 rfl
   obtain ⟨c4_, c5_, c6_, c7_⟩ := lyz4 Ly HOF 1 rfl
   have hfw := hfT
   have hix : ∀ z : World, (Instr.index 166 kindsV (.int .i64 x.kind)).run Try.prog z = .ok (.agg #[.func (.func f) #[] #[], f2, f3]) z := HIX.out
   unfold kindsV at hix
   have hfd := HFD.out
   simp only [pickB]
   repeat (gi_big_quiet_step (fail))
   refine wpQuietIn_nil ?_
   exact rfl
  intro W6 hW
  replace Ly := lyb Ly hW
  clear hW
  gi_wp2
  refine ⟨trivial, (callsIn_wide.2 (kinds_any W6)).mono ?_⟩
  rintro e W7 ⟨rfl, hb⟩
  replace Ly := lyb Ly hb
  gi_wp2
  refine ⟨trivial, hb, ?_⟩
  clear hb
  refine wpFlow_cons (A := ?AF3) rfl ?hq3 ?_
  case hq3 =>
   rintro σ hσ of hof hcl
   have HOF := lh hof
   have HCL := lh hcl
   clear hof hcl
   obtain ⟨c0_, c1_, c2_, c3_⟩ := lyz4 Ly HOF 0 rfl
   obtain ⟨c4_, c5_, c6_, c7_⟩ := lyz4 Ly HOF 1 rfl
   have hfw := hfT
   have hix : ∀ z : World, (Instr.index 166 kindsV (.int .i64 x.kind)).run Try.prog z = .ok (.agg #[.func (.func f) #[] #[], f2, f3]) z := HIX.out
   unfold kindsV at hix
   have hfd := HFD.out
   simp only [pickB]
   repeat (gi_big_quiet_step (fail))
   refine wpQuietIn_nil ?_
   exact rfl
  intro W8 hW
  replace Ly := lyb Ly hW
  clear hW
  gi_wp2
  refine ⟨trivial, (callsIn_wide.2 (callsIn_wide.1 (HKK.out W8 Ly.out.1))).mono ?_⟩
  rintro e W9 ⟨rfl, hb⟩
  replace Ly := lyb Ly hb
  gi_wp2
  refine ⟨trivial, hb, ?_⟩
  clear hb
  refine wpFlow_nil (A := ?AF4) ?hq4 ?_
  case hq4 =>
   rintro σ hσ of hof hcl
   have HOF := lh hof
   have HCL := lh hcl
   clear hof hcl
   obtain ⟨c0_, c1_, c2_, c3_⟩ := lyz4 Ly HOF 0 rfl
   obtain ⟨c4_, c5_, c6_, c7_⟩ := lyz4 Ly HOF 1 rfl
   have hfw := hfT
   simp only [pickB]
   repeat (gi_big_quiet_step (fail))
   refine wpQuietIn_nil ?_
   exact rfl
  intro W10 hW
  replace Ly := lyb Ly hW
  clear hW
  simp only [pickB]
  refine wpT_nil ?_
  cases r with
  | false =>
   gi_wp2
   refine bodyPost_ret (v := .bool false) (by simp [results, Try.results84, go_sem]) rfl ?_
   exact .inl ⟨rfl, rfl, Ly.out.1⟩
  | true =>
   obtain ⟨x0_0, x0_1, x0_2, x0_3⟩ := lyc4 Ly 0 rfl
   have l0_ := Ly.out.lt 0 rfl
   gi_wp2
   clear x0_0 x0_1 x0_2 x0_3 l0_
   refine ⟨trivial, (callsIn_wide.2 (callsIn_wide.1 (ends_in T x W10 (HA.out.below Ly.out.1) HKO.out))).mono ?_⟩
   rintro e W11 ⟨rfl, hb⟩
   replace Ly := lyb Ly hb
   clear hb
   have hv4 : T.m.vessels.length ≤ 4 := by have := HT.out.mix.lenV; have := HT.out.small; omega
   have HFR := lh (fromI_small hv4 x)
   have HTO := lh (toI_small hv4 x)
   have HFG : Hid (-1 ≤ fromI T.m x) := lh (by unfold fromI; split; omega; exact idxV_ge _ _)
   have HTG : Hid (-1 ≤ toI T.m x) := lh (by unfold toI; split; exact idxV_ge _ _; omega)
   have HSZ := lh (HF.out (by first | rfl | trivial))
   have HRES : Hid (shiftH s (fromI T.m x) (toI T.m x) (sizeA T.m s x) = shiftH s (fromI T.m x) (toI T.m x) (sizeA T.m s x)) := lh rfl
   gi_wp2
   refine Gr.wpIn_flow_old (G := UpRow (T.AA.map (·.block))) [([true, true, true, true, true, true, true, true, true, true], 10), ([], 11), ([], 12), ([], 13)] [false, false, false, false, false, false, false, false, false, false, false, false, false, false, true, true] [false, false, false, false, false, false, false, false, false, false, false, false, false, false, false, false, true] (by kernel_rfl) (by kernel_rfl) (by kernel_rfl) (below_drewN (Below.refl _ _) 1) ?_
   have HUP : Hid (UpRow (T.AA.map (·.block)) W11 W11) := lh (grown_refl _ _)
   have HNG : Hid (some T.g ≠ (T.AA.map (·.block))) := lh (ne_row HT.out.ne)
   have HN6 : Hid (∀ b : Nat, w.heap.size ≤ b → some b ≠ (T.AA.map (·.block))) := lh (fun b hb => ne_row (fun a ha => by have := (HT.out.own.lt ha).2; omega))
   refine Gr.wpFlow_cons (A := ?AFu) rfl ?hqu ?_
   case hqu =>
    rintro σ hσ of hof hcl
    have HOF : Hid (∀ z, W11.grownBy (of z) (T.AA.map (·.block))) := lh hof
    clear hof hcl
    have t4 : ∀ z, (of z).cell? ⟨T.g, 4, none⟩ = some (.slice T.AA T.nl T.cl) := fun z => (((HA.out.below Ly.out.1).blk).grown (HOF.out z) HNG.out).cell 4
    have l0 : ∀ z, (of z).cell? ⟨g6, 0, none⟩ = some (.int .i64 (heldAt s 0)) := fun z => ((Ly.out.blk 1 rfl).grown (HOF.out z) (HN6.out _ (Ly.out.ge 1 rfl))).cell 0
    have l1 : ∀ z, (of z).cell? ⟨g6, 1, none⟩ = some (.int .i64 (heldAt s 1)) := fun z => ((Ly.out.blk 1 rfl).grown (HOF.out z) (HN6.out _ (Ly.out.ge 1 rfl))).cell 1
    have l2 : ∀ z, (of z).cell? ⟨g6, 2, none⟩ = some (.int .i64 (heldAt s 2)) := fun z => ((Ly.out.blk 1 rfl).grown (HOF.out z) (HN6.out _ (Ly.out.ge 1 rfl))).cell 2
    have l3 : ∀ z, (of z).cell? ⟨g6, 3, none⟩ = some (.int .i64 (heldAt s 3)) := fun z => ((Ly.out.blk 1 rfl).grown (HOF.out z) (HN6.out _ (Ly.out.ge 1 rfl))).cell 3
    simp only [pickB]
    repeat (gi_big_quiet_step (fail))
    refine wpQuietIn_nil ?_
    exact rfl
   intro W12 hW
   replace Ly := lyb Ly hW
   replace HUP : Hid (UpRow (T.AA.map (·.block)) W11 _) := lh (grown_below HUP.out hW)
   clear hW
   gi_wp2
   refine ⟨trivial, (callsIn_wide.2 (callsIn_wide.1 (size_in T k x s W12 (HA.out.below Ly.out.1) HX.out HAT.out HKO.out (fun e => HSZ.out.2.2.1 e)))).mono ?_⟩
   rintro e W13 ⟨rfl, hb⟩
   replace Ly := lyb Ly hb
   replace HUP : Hid (UpRow (T.AA.map (·.block)) W11 _) := lh (grown_below HUP.out hb)
   gi_wp2
   refine ⟨trivial, grown_of_below hb _, ?_⟩
   clear hb
   refine Gr.wpFlow_cons rfl Gr.Quietly.none ?_
   intro W14 hW
   replace Ly := lyb Ly hW
   replace HUP : Hid (UpRow (T.AA.map (·.block)) W11 _) := lh (grown_below HUP.out hW)
   clear hW
   gi_wp2
   refine ⟨trivial, (callsIn_wide.2 (shift_any s (fromI T.m x) (toI T.m x) (sizeA T.m s x) W14 HS.out.1 HS.out.2 ⟨by have := HSZ.out.1; omega, by have := HSZ.out.2.1; omega⟩ ⟨HFG.out, HFR.out⟩ ⟨HTG.out, HTO.out⟩ HSZ.out.2.2.2)).mono ?_⟩
   rintro e W15 ⟨rfl, hb⟩
   replace Ly := lyb Ly hb
   replace HUP : Hid (UpRow (T.AA.map (·.block)) W11 _) := lh (grown_below HUP.out hb)
   gi_wp2
   refine ⟨trivial, grown_of_below hb _, ?_⟩
   clear hb
   refine Gr.wpFlow_cons rfl Gr.Quietly.none ?_
   obtain ⟨s2, hs2⟩ : ∃ s2, shiftH s (fromI T.m x) (toI T.m x) (sizeA T.m s x) = s2 := ⟨_, rfl⟩
   rw [hs2]
   have HS2 := lh hs2
   clear hs2 HRES
   intro W16 hW
   replace Ly := lyb Ly hW
   replace HUP : Hid (UpRow (T.AA.map (·.block)) W11 _) := lh (grown_below HUP.out hW)
   clear hW
   gi_wp2
   have hb : Below W16.heap.size W16 (W16.alloc (.cells #[.int .i64 (heldAt s2 0), .int .i64 (heldAt s2 1), .int .i64 (heldAt s2 2), .int .i64 (heldAt s2 3)] 97)) := (Below.refl _ _).alloc (Nat.le_refl _) _
   refine ⟨trivial, grown_of_below hb _, ?_⟩
   replace Ly := lyb Ly hb
   replace HUP : Hid (UpRow (T.AA.map (·.block)) W11 _) := lh (grown_below HUP.out hb)
   have HPl := lh (show Reads (W16.alloc (.cells #[.int .i64 (heldAt s2 0), .int .i64 (heldAt s2 1), .int .i64 (heldAt s2 2), .int .i64 (heldAt s2 3)] 97)) ((W16.alloc (.cells #[.int .i64 (heldAt s2 0), .int .i64 (heldAt s2 1), .int .i64 (heldAt s2 2), .int .i64 (heldAt s2 3)] 97))).heap.size 4 (some ⟨W16.heap.size, 0, none⟩) 1 (heldC s2) from reads_new W16 97 (heldC s2) rfl)
   generalize (W16.alloc (.cells #[.int .i64 (heldAt s2 0), .int .i64 (heldAt s2 1), .int .i64 (heldAt s2 2), .int .i64 (heldAt s2 3)] 97)) = V17 at *
   clear hb
   refine Gr.wpFlow_cons rfl Gr.Quietly.none ?_
   intro W18 hW
   replace Ly := lyb Ly hW
   replace HUP : Hid (UpRow (T.AA.map (·.block)) W11 _) := lh (grown_below HUP.out hW)
   replace HPl := lh ((HPl.out.below hW).more hW.size)
   clear hW
   have HO9 : Hid (Own W18 B 97 4 T.AA T.nl T.cl (T.L.flatMap heldC)) := lh (HT.out.own.below Ly.out.1 (Nat.le_refl _))
   have hbz : B ≤ W18.heap.size := Nat.le_trans HT.out.le.1 Ly.out.1.size
   gi_wp2_with (first | (gi_at_builtin; refine wpListIn_append_any rfl (.tmp 51) (.tmp 59) (by rfl) elem_drops rfl HO9.out rfl HPl.out (held_one s2) (by have := HT.out.small; unfold maxLen; omega) (by have := HT.out.small; omega) hbz ?_) | fail)
   rintro A9 c9 V19 hown hg hA
   have HOW := lh hown
   have HGR := lh hg
   have HA9 := lh hA
   clear hown hg hA
   gi_wp2
   refine ⟨trivial, HGR.out, ?_⟩
   refine Gr.wpFlow_nil (A := ?AFv) ?hqv ?_
   case hqv =>
    rintro σ hσ of hof hcl
    clear hof hcl
    simp only [pickB]
    repeat (gi_big_quiet_step (fail))
    refine wpQuietIn_nil ?_
    exact rfl
   intro W20 hW
   have hbk : Blk W20 T.g 123 T.cells := (((HA.out.below Ly.out.1).blk).grown HGR.out HNG.out).below hW (((HA.out.below Ly.out.1).blk).grown HGR.out HNG.out).lt
   have HBK := lh hbk
   have HWB := lh hW
   have z4 := hbk.frozen 4
   have y4 : W20.cell? ⟨T.g, 4, none⟩ = some (.slice T.AA T.nl T.cl) := hbk.cell 4
   have tl := hbk.lt
   clear hbk hW
   simp only [pickB]
   refine wpT_cons ?_
   gi_wp2
   refine wpT_nil ?_
   gi_wp2
   refine bodyPost_ret (v := .bool true) (by simp [results, Try.results84, go_sem]) rfl ?_
   refine .inr ⟨A9, c9, rfl, rfl, ?_, ?_, act_keep HT.out Ly.out.1 HGR.out HWB.out, act_fresh Ly.out.1 HA9.out⟩
   ·rw [HS2.out]
    exact act_own HT.out Ly.out.1 HGR.out HWB.out HOW.out HA9.out HBK.out HNL.out
   ·exact act_below HT.out Ly.out.1 HGR.out HWB.out
set_option maxRecDepth 100000 in
set_option maxHeartbeats 16000000 in
theorem act_bad (B : Nat) (T : Tb) (k : Nat) (x : MAct) (s : Held) (w : World) (h : TbOwn w B T) (hx : T.m.acts[k]? = some x) (ha : T.L[k]? = some s) (hk : ¬ KindOk x) :
  CallsIn Fence.wide 9 Try.prog 84 #[.pointer (some ⟨T.g, 0, none⟩), .int .i64 k] w fun e w' => e = .returned (.bool false) ∧ Below w.heap.size w w' := by
 have HT := lh h
 have HA := lh h.at_
 have hka : k < T.na := by have := h.mix.lenA; have := (List.getElem?_eq_some_iff.1 hx).1; omega
 obtain ⟨ba, oa, x', hAa, hba0, hx', c0, c1, c2, c3⟩ := h.mix.act hka
 have hba : ba < w.heap.size := Nat.lt_of_lt_of_le hba0 h.le.1
 rw [hx] at hx'
 obtain rfl : x = x' := Option.some.inj hx'
 have hkl : k < T.nl := by have := recs_n heldC_k (by omega) h.at_.all; have := (List.getElem?_eq_some_iff.1 ha).1; omega
 obtain ⟨bl, ol, s', hAL, hbl, ha', cl⟩ := recs_cell heldC_k (by omega) h.at_.all hkl
 rw [ha] at ha'
 obtain rfl : s = s' := Option.some.inj ha'
 have HX := lh hx
 have HAT := lh ha
 have HC0 := lh c0
 have HC1 := lh c1
 have HC2 := lh c2
 have HC3 := lh c3
 have HCL := lh cl
 have HAA := lh hAa
 have HAL := lh hAL
 have HBA := lh hba
 have HBL := lh hbl
 have HKA := lh hka
 have HKL := lh hkl
 have HKI : Hid (inB 1 4 [x.kind] = false) := lh (by rw [inB_one]; exact decide_eq_false (fun h => hk (by unfold KindOk; omega)))
 clear hx hx' ha ha' c0 c1 c2 c3 cl hAa hAL hba hba0 hbl h hka hkl hk
 refine callsIn_of_wp Try.func84 rfl trivial ?_ rfl
 simp only [Try.ntmps84, List.size_toArray, List.length_cons, List.length_nil, Nat.reduceAdd, Nat.reduceSub, Array.replicate_succ, Array.replicate_zero, List.push_toArray, List.append_toArray, List.nil_append, List.cons_append]
 gi_wp2
 have Ly := lh (Lay.nil w)
 gi_cut [5, 6] from 9 (fun v5 v6 wx => ∃ g5 g6, v5 = .pointer (some ⟨g5, 0, none⟩) ∧ v6 = .pointer (some ⟨g6, 0, none⟩) ∧ Hid (g5 ≠ g6 ∧ Below w.heap.size w wx ∧ w.heap.size ≤ g5 ∧ w.heap.size ≤ g6 ∧ Blk wx g5 67 #[.int .i64 x.kind, .int .i64 x.fr, .int .i64 x.to, .int .i64 x.drops] ∧ Blk wx g6 97 #[.int .i64 (heldAt s 0), .int .i64 (heldAt s 1), .int .i64 (heldAt s 2), .int .i64 (heldAt s 3)]))
 case first =>
  obtain ⟨s0, rfl⟩ : ∃ s0, s0 = s := ⟨_, rfl⟩
  clear Ly
  refine wpIn_region_stepsD (by kernel_rfl) (by kernel_rfl) (fun σ : (Nat × Nat) × (Nat → Value) => { tmps := #[.pointer (some ⟨T.g, 0, none⟩), .int .i64 k, undef, undef, .bool false, σ.2 5, σ.2 6, undef, undef, σ.2 9, σ.2 10, σ.2 11, σ.2 12, σ.2 13, σ.2 14, σ.2 15, σ.2 16, σ.2 17, σ.2 18, σ.2 19, σ.2 20, σ.2 21, σ.2 22, σ.2 23, undef, undef, undef, undef, undef, undef, undef, undef, undef, undef, undef, undef, undef, undef, undef, undef, undef, undef, undef, undef, undef, undef, undef, undef, undef, undef, undef, undef, undef, undef, undef, undef, undef, undef, undef, undef, undef, undef, undef], defers := [] })
   (fun L σ W => (Below w.heap.size w W) ∧ (L 15 = true → w.heap.size ≤ σ.1.1 ∧ σ.1.1 < W.heap.size ∧ (L 17 = false → Blk W σ.1.1 67 #[.int .i64 0, .int .i64 0, .int .i64 0, .int .i64 0]) ∧ (L 17 = true → Blk W σ.1.1 67 #[.int .i64 x.kind, .int .i64 x.fr, .int .i64 x.to, .int .i64 x.drops])) ∧ (L 16 = true → w.heap.size ≤ σ.1.2 ∧ σ.1.2 < W.heap.size ∧ (L 18 = false → Blk W σ.1.2 97 #[.int .i64 0, .int .i64 0, .int .i64 0, .int .i64 0]) ∧ (L 18 = true → Blk W σ.1.2 97 #[.int .i64 (heldAt s0 0), .int .i64 (heldAt s0 1), .int .i64 (heldAt s0 2), .int .i64 (heldAt s0 3)])) ∧ (L 15 = true → L 16 = true → σ.1.1 ≠ σ.1.2) ∧ (L 0 = true → σ.2 9 = .pointer (some ⟨T.g, 0, none⟩)) ∧ (L 1 = true → σ.2 10 = .pointer (some ⟨T.g, 0, none⟩)) ∧ (L 2 = true → σ.2 11 = .pointer (some ⟨T.g, 0, none⟩)) ∧ (L 3 = true → σ.2 12 = .pointer (some ⟨T.g, 2, none⟩)) ∧ (L 4 = true → σ.2 13 = .slice (some ⟨ba, oa, none⟩) T.na T.ca) ∧ (L 5 = true → σ.2 14 = .int .i64 k) ∧ (L 6 = true → σ.2 15 = .pointer (some ⟨ba, oa + k * 4, none⟩)) ∧ (L 7 = true → σ.2 16 = .agg #[.int .i64 x.kind, .int .i64 x.fr, .int .i64 x.to, .int .i64 x.drops]) ∧ (L 8 = true → σ.2 17 = .pointer (some ⟨T.g, 0, none⟩)) ∧ (L 9 = true → σ.2 18 = .pointer (some ⟨T.g, 0, none⟩)) ∧ (L 10 = true → σ.2 19 = .pointer (some ⟨T.g, 4, none⟩)) ∧ (L 11 = true → σ.2 20 = .slice (some ⟨bl, ol, none⟩) T.nl T.cl) ∧ (L 12 = true → σ.2 21 = .int .i64 k) ∧ (L 13 = true → σ.2 22 = .pointer (some ⟨bl, ol + k * 4, none⟩)) ∧ (L 14 = true → σ.2 23 = .agg #[.int .i64 (heldAt s0 0), .int .i64 (heldAt s0 1), .int .i64 (heldAt s0 2), .int .i64 (heldAt s0 3)]) ∧ (L 15 = true → σ.2 5 = .pointer (some ⟨σ.1.1, 0, none⟩)) ∧ (L 16 = true → σ.2 6 = .pointer (some ⟨σ.1.2, 0, none⟩)))
   ((0, 0), fun k => undef) rfl ?_ ?_ ?_
  ·exact ⟨below_drewN (Below.refl _ _) 1, (fun h => by cases h), (fun h => by cases h), (fun h => by cases h), (fun h => by cases h), (fun h => by cases h), (fun h => by cases h), (fun h => by cases h), (fun h => by cases h), (fun h => by cases h), (fun h => by cases h), (fun h => by cases h), (fun h => by cases h), (fun h => by cases h), (fun h => by cases h), (fun h => by cases h), (fun h => by cases h), (fun h => by cases h), (fun h => by cases h), (fun h => by cases h), (fun h => by cases h)⟩
  ·refine ⟨?_, ?_, ?_, ?_, ?_, ?_, ?_, ?_, ?_, ?_, ?_, ?_, ?_, ?_, ?_, ?_, ?_, ?_, ?_, trivial⟩
   ·rintro L ⟨gh, s⟩ W hu hd hdn ⟨g1, gA, gB, gN, f0, f1, f2, f3, f4, f5, f6, f7, f8, f9, f10, f11, f12, f13, f14, f15, f16⟩ K Q hK
    try dsimp only at g1 gA gB gN f0 f1 f2 f3 f4 f5 f6 f7 f8 f9 f10 f11 f12 f13 f14 f15 f16 ⊢
    have HF := lh (ai g1 (ai gA (ai gB (ai gN (ai f0 (ai f1 (ai f2 (ai f3 (ai f4 (ai f5 (ai f6 (ai f7 (ai f8 (ai f9 (ai f10 (ai f11 (ai f12 (ai f13 (ai f14 (ai f15 f16))))))))))))))))))))
    clear f16 f15 f14 f13 f12 f11 f10 f9 f8 f7 f6 f5 f4 f3 f2 f1 f0 gN gB gA g1 hd
    try simp only
    gi_wp2
    obtain ⟨g1, gA, gB, gN, f0, f1, f2, f3, f4, f5, f6, f7, f8, f9, f10, f11, f12, f13, f14, f15, f16⟩ := HF.out
    exact hK (gh, (upd s 9 (.pointer (some ⟨T.g, 0, none⟩)))) _ ⟨g1, gA, gB, gN, (fun _ => rfl), f1, f2, f3, f4, f5, f6, f7, f8, f9, f10, f11, f12, f13, f14, f15, f16⟩
   ·rintro L ⟨gh, s⟩ W hu hd hdn ⟨g1, gA, gB, gN, f0, f1, f2, f3, f4, f5, f6, f7, f8, f9, f10, f11, f12, f13, f14, f15, f16⟩ K Q hK
    try dsimp only at g1 gA gB gN f0 f1 f2 f3 f4 f5 f6 f7 f8 f9 f10 f11 f12 f13 f14 f15 f16 ⊢
    have e0 := f0 (hd.at_ 0 rfl)
    have tl := (HA.out.below g1).blk.lt
    have HF := lh (ai g1 (ai gA (ai gB (ai gN (ai f0 (ai f1 (ai f2 (ai f3 (ai f4 (ai f5 (ai f6 (ai f7 (ai f8 (ai f9 (ai f10 (ai f11 (ai f12 (ai f13 (ai f14 (ai f15 f16))))))))))))))))))))
    clear f16 f15 f14 f13 f12 f11 f10 f9 f8 f7 f6 f5 f4 f3 f2 f1 f0 gN gB gA g1 hd
    try simp only at e0 ⊢
    gi_wp2
    obtain ⟨g1, gA, gB, gN, f0, f1, f2, f3, f4, f5, f6, f7, f8, f9, f10, f11, f12, f13, f14, f15, f16⟩ := HF.out
    exact hK (gh, (upd (upd s 9 (.pointer (some ⟨T.g, 0, none⟩))) 10 (.pointer (some ⟨T.g, 0, none⟩)))) _ ⟨g1, gA, gB, gN, (fun _ => rfl), (fun _ => rfl), f2, f3, f4, f5, f6, f7, f8, f9, f10, f11, f12, f13, f14, f15, f16⟩
   ·rintro L ⟨gh, s⟩ W hu hd hdn ⟨g1, gA, gB, gN, f0, f1, f2, f3, f4, f5, f6, f7, f8, f9, f10, f11, f12, f13, f14, f15, f16⟩ K Q hK
    try dsimp only at g1 gA gB gN f0 f1 f2 f3 f4 f5 f6 f7 f8 f9 f10 f11 f12 f13 f14 f15 f16 ⊢
    have e1 := f1 (hd.at_ 1 rfl)
    have HF := lh (ai g1 (ai gA (ai gB (ai gN (ai f0 (ai f1 (ai f2 (ai f3 (ai f4 (ai f5 (ai f6 (ai f7 (ai f8 (ai f9 (ai f10 (ai f11 (ai f12 (ai f13 (ai f14 (ai f15 f16))))))))))))))))))))
    clear f16 f15 f14 f13 f12 f11 f10 f9 f8 f7 f6 f5 f4 f3 f2 f1 f0 gN gB gA g1 hd
    try simp only at e1 ⊢
    gi_wp2
    obtain ⟨g1, gA, gB, gN, f0, f1, f2, f3, f4, f5, f6, f7, f8, f9, f10, f11, f12, f13, f14, f15, f16⟩ := HF.out
    exact hK (gh, (upd (upd s 10 (.pointer (some ⟨T.g, 0, none⟩))) 11 (.pointer (some ⟨T.g, 0, none⟩)))) _ ⟨g1, gA, gB, gN, f0, (fun _ => rfl), (fun _ => rfl), f3, f4, f5, f6, f7, f8, f9, f10, f11, f12, f13, f14, f15, f16⟩
   ·rintro L ⟨gh, s⟩ W hu hd hdn ⟨g1, gA, gB, gN, f0, f1, f2, f3, f4, f5, f6, f7, f8, f9, f10, f11, f12, f13, f14, f15, f16⟩ K Q hK
    try dsimp only at g1 gA gB gN f0 f1 f2 f3 f4 f5 f6 f7 f8 f9 f10 f11 f12 f13 f14 f15 f16 ⊢
    have e2 := f2 (hd.at_ 2 rfl)
    have HF := lh (ai g1 (ai gA (ai gB (ai gN (ai f0 (ai f1 (ai f2 (ai f3 (ai f4 (ai f5 (ai f6 (ai f7 (ai f8 (ai f9 (ai f10 (ai f11 (ai f12 (ai f13 (ai f14 (ai f15 f16))))))))))))))))))))
    clear f16 f15 f14 f13 f12 f11 f10 f9 f8 f7 f6 f5 f4 f3 f2 f1 f0 gN gB gA g1 hd
    try simp only at e2 ⊢
    gi_wp2
    obtain ⟨g1, gA, gB, gN, f0, f1, f2, f3, f4, f5, f6, f7, f8, f9, f10, f11, f12, f13, f14, f15, f16⟩ := HF.out
    exact hK (gh, (upd (upd s 11 (.pointer (some ⟨T.g, 0, none⟩))) 12 (.pointer (some ⟨T.g, 2, none⟩)))) _ ⟨g1, gA, gB, gN, f0, f1, (fun _ => rfl), (fun _ => rfl), f4, f5, f6, f7, f8, f9, f10, f11, f12, f13, f14, f15, f16⟩
   ·rintro L ⟨gh, s⟩ W hu hd hdn ⟨g1, gA, gB, gN, f0, f1, f2, f3, f4, f5, f6, f7, f8, f9, f10, f11, f12, f13, f14, f15, f16⟩ K Q hK
    try dsimp only at g1 gA gB gN f0 f1 f2 f3 f4 f5 f6 f7 f8 f9 f10 f11 f12 f13 f14 f15 f16 ⊢
    have e3 := f3 (hd.at_ 3 rfl)
    have t2 : W.cell? ⟨T.g, 2, none⟩ = some (.slice (some ⟨ba, oa, none⟩) T.na T.ca) := by rw [← HAA.out]; exact (HA.out.below g1).blk.cell 2
    have HF := lh (ai g1 (ai gA (ai gB (ai gN (ai f0 (ai f1 (ai f2 (ai f3 (ai f4 (ai f5 (ai f6 (ai f7 (ai f8 (ai f9 (ai f10 (ai f11 (ai f12 (ai f13 (ai f14 (ai f15 f16))))))))))))))))))))
    clear f16 f15 f14 f13 f12 f11 f10 f9 f8 f7 f6 f5 f4 f3 f2 f1 f0 gN gB gA g1 hd
    try simp only at e3 ⊢
    gi_wp2
    obtain ⟨g1, gA, gB, gN, f0, f1, f2, f3, f4, f5, f6, f7, f8, f9, f10, f11, f12, f13, f14, f15, f16⟩ := HF.out
    exact hK (gh, (upd (upd s 12 (.pointer (some ⟨T.g, 2, none⟩))) 13 (.slice (some ⟨ba, oa, none⟩) T.na T.ca))) _ ⟨g1, gA, gB, gN, f0, f1, f2, (fun _ => rfl), (fun _ => rfl), f5, f6, f7, f8, f9, f10, f11, f12, f13, f14, f15, f16⟩
   ·rintro L ⟨gh, s⟩ W hu hd hdn ⟨g1, gA, gB, gN, f0, f1, f2, f3, f4, f5, f6, f7, f8, f9, f10, f11, f12, f13, f14, f15, f16⟩ K Q hK
    try dsimp only at g1 gA gB gN f0 f1 f2 f3 f4 f5 f6 f7 f8 f9 f10 f11 f12 f13 f14 f15 f16 ⊢
    have HF := lh (ai g1 (ai gA (ai gB (ai gN (ai f0 (ai f1 (ai f2 (ai f3 (ai f4 (ai f5 (ai f6 (ai f7 (ai f8 (ai f9 (ai f10 (ai f11 (ai f12 (ai f13 (ai f14 (ai f15 f16))))))))))))))))))))
    clear f16 f15 f14 f13 f12 f11 f10 f9 f8 f7 f6 f5 f4 f3 f2 f1 f0 gN gB gA g1 hd
    try simp only
    gi_wp2
    obtain ⟨g1, gA, gB, gN, f0, f1, f2, f3, f4, f5, f6, f7, f8, f9, f10, f11, f12, f13, f14, f15, f16⟩ := HF.out
    exact hK (gh, (upd s 14 (.int .i64 k))) _ ⟨g1, gA, gB, gN, f0, f1, f2, f3, f4, (fun _ => rfl), f6, f7, f8, f9, f10, f11, f12, f13, f14, f15, f16⟩
   ·rintro L ⟨gh, s⟩ W hu hd hdn ⟨g1, gA, gB, gN, f0, f1, f2, f3, f4, f5, f6, f7, f8, f9, f10, f11, f12, f13, f14, f15, f16⟩ K Q hK
    try dsimp only at g1 gA gB gN f0 f1 f2 f3 f4 f5 f6 f7 f8 f9 f10 f11 f12 f13 f14 f15 f16 ⊢
    have e4 := f4 (hd.at_ 4 rfl)
    have e5 := f5 (hd.at_ 5 rfl)
    have hka := HKA.out
    have HF := lh (ai g1 (ai gA (ai gB (ai gN (ai f0 (ai f1 (ai f2 (ai f3 (ai f4 (ai f5 (ai f6 (ai f7 (ai f8 (ai f9 (ai f10 (ai f11 (ai f12 (ai f13 (ai f14 (ai f15 f16))))))))))))))))))))
    clear f16 f15 f14 f13 f12 f11 f10 f9 f8 f7 f6 f5 f4 f3 f2 f1 f0 gN gB gA g1 hd
    try simp only at e4 e5 ⊢
    gi_wp2
    obtain ⟨g1, gA, gB, gN, f0, f1, f2, f3, f4, f5, f6, f7, f8, f9, f10, f11, f12, f13, f14, f15, f16⟩ := HF.out
    exact hK (gh, (upd (upd (upd s 13 (.slice (some ⟨ba, oa, none⟩) T.na T.ca)) 14 (.int .i64 k)) 15 (.pointer (some ⟨ba, oa + k * 4, none⟩)))) _ ⟨g1, gA, gB, gN, f0, f1, f2, f3, (fun _ => rfl), (fun _ => rfl), (fun _ => rfl), f7, f8, f9, f10, f11, f12, f13, f14, f15, f16⟩
   ·rintro L ⟨gh, s⟩ W hu hd hdn ⟨g1, gA, gB, gN, f0, f1, f2, f3, f4, f5, f6, f7, f8, f9, f10, f11, f12, f13, f14, f15, f16⟩ K Q hK
    try dsimp only at g1 gA gB gN f0 f1 f2 f3 f4 f5 f6 f7 f8 f9 f10 f11 f12 f13 f14 f15 f16 ⊢
    have e6 := f6 (hd.at_ 6 rfl)
    have a0 : W.cell? ⟨ba, oa + k * 4, none⟩ = some (.int .i64 x.kind) := (g1.cell (p := ⟨ba, oa + k * 4, none⟩) HBA.out).trans HC0.out
    have a1 : W.cell? ⟨ba, oa + k * 4 + 1, none⟩ = some (.int .i64 x.fr) := (g1.cell (p := ⟨ba, oa + k * 4 + 1, none⟩) HBA.out).trans HC1.out
    have a2 : W.cell? ⟨ba, oa + k * 4 + 2, none⟩ = some (.int .i64 x.to) := (g1.cell (p := ⟨ba, oa + k * 4 + 2, none⟩) HBA.out).trans HC2.out
    have a3 : W.cell? ⟨ba, oa + k * 4 + 3, none⟩ = some (.int .i64 x.drops) := (g1.cell (p := ⟨ba, oa + k * 4 + 3, none⟩) HBA.out).trans HC3.out
    have HF := lh (ai g1 (ai gA (ai gB (ai gN (ai f0 (ai f1 (ai f2 (ai f3 (ai f4 (ai f5 (ai f6 (ai f7 (ai f8 (ai f9 (ai f10 (ai f11 (ai f12 (ai f13 (ai f14 (ai f15 f16))))))))))))))))))))
    clear f16 f15 f14 f13 f12 f11 f10 f9 f8 f7 f6 f5 f4 f3 f2 f1 f0 gN gB gA g1 hd
    try simp only at e6 ⊢
    gi_wp2
    obtain ⟨g1, gA, gB, gN, f0, f1, f2, f3, f4, f5, f6, f7, f8, f9, f10, f11, f12, f13, f14, f15, f16⟩ := HF.out
    exact hK (gh, (upd (upd s 15 (.pointer (some ⟨ba, oa + k * 4, none⟩))) 16 (.agg #[.int .i64 x.kind, .int .i64 x.fr, .int .i64 x.to, .int .i64 x.drops]))) _ ⟨g1, gA, gB, gN, f0, f1, f2, f3, f4, f5, (fun _ => rfl), (fun _ => rfl), f8, f9, f10, f11, f12, f13, f14, f15, f16⟩
   ·rintro L ⟨gh, s⟩ W hu hd hdn ⟨g1, gA, gB, gN, f0, f1, f2, f3, f4, f5, f6, f7, f8, f9, f10, f11, f12, f13, f14, f15, f16⟩ K Q hK
    try dsimp only at g1 gA gB gN f0 f1 f2 f3 f4 f5 f6 f7 f8 f9 f10 f11 f12 f13 f14 f15 f16 ⊢
    have HF := lh (ai g1 (ai gA (ai gB (ai gN (ai f0 (ai f1 (ai f2 (ai f3 (ai f4 (ai f5 (ai f6 (ai f7 (ai f8 (ai f9 (ai f10 (ai f11 (ai f12 (ai f13 (ai f14 (ai f15 f16))))))))))))))))))))
    clear f16 f15 f14 f13 f12 f11 f10 f9 f8 f7 f6 f5 f4 f3 f2 f1 f0 gN gB gA g1 hd
    try simp only
    gi_wp2
    obtain ⟨g1, gA, gB, gN, f0, f1, f2, f3, f4, f5, f6, f7, f8, f9, f10, f11, f12, f13, f14, f15, f16⟩ := HF.out
    exact hK (gh, (upd s 17 (.pointer (some ⟨T.g, 0, none⟩)))) _ ⟨g1, gA, gB, gN, f0, f1, f2, f3, f4, f5, f6, f7, (fun _ => rfl), f9, f10, f11, f12, f13, f14, f15, f16⟩
   ·rintro L ⟨gh, s⟩ W hu hd hdn ⟨g1, gA, gB, gN, f0, f1, f2, f3, f4, f5, f6, f7, f8, f9, f10, f11, f12, f13, f14, f15, f16⟩ K Q hK
    try dsimp only at g1 gA gB gN f0 f1 f2 f3 f4 f5 f6 f7 f8 f9 f10 f11 f12 f13 f14 f15 f16 ⊢
    have e8 := f8 (hd.at_ 8 rfl)
    have tl := (HA.out.below g1).blk.lt
    have HF := lh (ai g1 (ai gA (ai gB (ai gN (ai f0 (ai f1 (ai f2 (ai f3 (ai f4 (ai f5 (ai f6 (ai f7 (ai f8 (ai f9 (ai f10 (ai f11 (ai f12 (ai f13 (ai f14 (ai f15 f16))))))))))))))))))))
    clear f16 f15 f14 f13 f12 f11 f10 f9 f8 f7 f6 f5 f4 f3 f2 f1 f0 gN gB gA g1 hd
    try simp only at e8 ⊢
    gi_wp2
    obtain ⟨g1, gA, gB, gN, f0, f1, f2, f3, f4, f5, f6, f7, f8, f9, f10, f11, f12, f13, f14, f15, f16⟩ := HF.out
    exact hK (gh, (upd (upd s 17 (.pointer (some ⟨T.g, 0, none⟩))) 18 (.pointer (some ⟨T.g, 0, none⟩)))) _ ⟨g1, gA, gB, gN, f0, f1, f2, f3, f4, f5, f6, f7, (fun _ => rfl), (fun _ => rfl), f10, f11, f12, f13, f14, f15, f16⟩
   ·rintro L ⟨gh, s⟩ W hu hd hdn ⟨g1, gA, gB, gN, f0, f1, f2, f3, f4, f5, f6, f7, f8, f9, f10, f11, f12, f13, f14, f15, f16⟩ K Q hK
    try dsimp only at g1 gA gB gN f0 f1 f2 f3 f4 f5 f6 f7 f8 f9 f10 f11 f12 f13 f14 f15 f16 ⊢
    have e9 := f9 (hd.at_ 9 rfl)
    have HF := lh (ai g1 (ai gA (ai gB (ai gN (ai f0 (ai f1 (ai f2 (ai f3 (ai f4 (ai f5 (ai f6 (ai f7 (ai f8 (ai f9 (ai f10 (ai f11 (ai f12 (ai f13 (ai f14 (ai f15 f16))))))))))))))))))))
    clear f16 f15 f14 f13 f12 f11 f10 f9 f8 f7 f6 f5 f4 f3 f2 f1 f0 gN gB gA g1 hd
    try simp only at e9 ⊢
    gi_wp2
    obtain ⟨g1, gA, gB, gN, f0, f1, f2, f3, f4, f5, f6, f7, f8, f9, f10, f11, f12, f13, f14, f15, f16⟩ := HF.out
    exact hK (gh, (upd (upd s 18 (.pointer (some ⟨T.g, 0, none⟩))) 19 (.pointer (some ⟨T.g, 4, none⟩)))) _ ⟨g1, gA, gB, gN, f0, f1, f2, f3, f4, f5, f6, f7, f8, (fun _ => rfl), (fun _ => rfl), f11, f12, f13, f14, f15, f16⟩
   ·rintro L ⟨gh, s⟩ W hu hd hdn ⟨g1, gA, gB, gN, f0, f1, f2, f3, f4, f5, f6, f7, f8, f9, f10, f11, f12, f13, f14, f15, f16⟩ K Q hK
    try dsimp only at g1 gA gB gN f0 f1 f2 f3 f4 f5 f6 f7 f8 f9 f10 f11 f12 f13 f14 f15 f16 ⊢
    have e10 := f10 (hd.at_ 10 rfl)
    have t4 : W.cell? ⟨T.g, 4, none⟩ = some (.slice (some ⟨bl, ol, none⟩) T.nl T.cl) := by rw [← HAL.out]; exact (HA.out.below g1).blk.cell 4
    have HF := lh (ai g1 (ai gA (ai gB (ai gN (ai f0 (ai f1 (ai f2 (ai f3 (ai f4 (ai f5 (ai f6 (ai f7 (ai f8 (ai f9 (ai f10 (ai f11 (ai f12 (ai f13 (ai f14 (ai f15 f16))))))))))))))))))))
    clear f16 f15 f14 f13 f12 f11 f10 f9 f8 f7 f6 f5 f4 f3 f2 f1 f0 gN gB gA g1 hd
    try simp only at e10 ⊢
    gi_wp2
    obtain ⟨g1, gA, gB, gN, f0, f1, f2, f3, f4, f5, f6, f7, f8, f9, f10, f11, f12, f13, f14, f15, f16⟩ := HF.out
    exact hK (gh, (upd (upd s 19 (.pointer (some ⟨T.g, 4, none⟩))) 20 (.slice (some ⟨bl, ol, none⟩) T.nl T.cl))) _ ⟨g1, gA, gB, gN, f0, f1, f2, f3, f4, f5, f6, f7, f8, f9, (fun _ => rfl), (fun _ => rfl), f12, f13, f14, f15, f16⟩
   ·rintro L ⟨gh, s⟩ W hu hd hdn ⟨g1, gA, gB, gN, f0, f1, f2, f3, f4, f5, f6, f7, f8, f9, f10, f11, f12, f13, f14, f15, f16⟩ K Q hK
    try dsimp only at g1 gA gB gN f0 f1 f2 f3 f4 f5 f6 f7 f8 f9 f10 f11 f12 f13 f14 f15 f16 ⊢
    have HF := lh (ai g1 (ai gA (ai gB (ai gN (ai f0 (ai f1 (ai f2 (ai f3 (ai f4 (ai f5 (ai f6 (ai f7 (ai f8 (ai f9 (ai f10 (ai f11 (ai f12 (ai f13 (ai f14 (ai f15 f16))))))))))))))))))))
    clear f16 f15 f14 f13 f12 f11 f10 f9 f8 f7 f6 f5 f4 f3 f2 f1 f0 gN gB gA g1 hd
    try simp only
    gi_wp2
    obtain ⟨g1, gA, gB, gN, f0, f1, f2, f3, f4, f5, f6, f7, f8, f9, f10, f11, f12, f13, f14, f15, f16⟩ := HF.out
    exact hK (gh, (upd s 21 (.int .i64 k))) _ ⟨g1, gA, gB, gN, f0, f1, f2, f3, f4, f5, f6, f7, f8, f9, f10, f11, (fun _ => rfl), f13, f14, f15, f16⟩
   ·rintro L ⟨gh, s⟩ W hu hd hdn ⟨g1, gA, gB, gN, f0, f1, f2, f3, f4, f5, f6, f7, f8, f9, f10, f11, f12, f13, f14, f15, f16⟩ K Q hK
    try dsimp only at g1 gA gB gN f0 f1 f2 f3 f4 f5 f6 f7 f8 f9 f10 f11 f12 f13 f14 f15 f16 ⊢
    have e11 := f11 (hd.at_ 11 rfl)
    have e12 := f12 (hd.at_ 12 rfl)
    have hkl := HKL.out
    have HF := lh (ai g1 (ai gA (ai gB (ai gN (ai f0 (ai f1 (ai f2 (ai f3 (ai f4 (ai f5 (ai f6 (ai f7 (ai f8 (ai f9 (ai f10 (ai f11 (ai f12 (ai f13 (ai f14 (ai f15 f16))))))))))))))))))))
    clear f16 f15 f14 f13 f12 f11 f10 f9 f8 f7 f6 f5 f4 f3 f2 f1 f0 gN gB gA g1 hd
    try simp only at e11 e12 ⊢
    gi_wp2
    obtain ⟨g1, gA, gB, gN, f0, f1, f2, f3, f4, f5, f6, f7, f8, f9, f10, f11, f12, f13, f14, f15, f16⟩ := HF.out
    exact hK (gh, (upd (upd (upd s 20 (.slice (some ⟨bl, ol, none⟩) T.nl T.cl)) 21 (.int .i64 k)) 22 (.pointer (some ⟨bl, ol + k * 4, none⟩)))) _ ⟨g1, gA, gB, gN, f0, f1, f2, f3, f4, f5, f6, f7, f8, f9, f10, (fun _ => rfl), (fun _ => rfl), (fun _ => rfl), f14, f15, f16⟩
   ·rintro L ⟨gh, s⟩ W hu hd hdn ⟨g1, gA, gB, gN, f0, f1, f2, f3, f4, f5, f6, f7, f8, f9, f10, f11, f12, f13, f14, f15, f16⟩ K Q hK
    try dsimp only at g1 gA gB gN f0 f1 f2 f3 f4 f5 f6 f7 f8 f9 f10 f11 f12 f13 f14 f15 f16 ⊢
    have e13 := f13 (hd.at_ 13 rfl)
    have l0 : W.cell? ⟨bl, ol + k * 4, none⟩ = some (.int .i64 (heldAt s0 0)) := (g1.cell (p := ⟨bl, ol + k * 4, none⟩) HBL.out).trans (HCL.out 0 _ rfl)
    have l1 : W.cell? ⟨bl, ol + k * 4 + 1, none⟩ = some (.int .i64 (heldAt s0 1)) := (g1.cell (p := ⟨bl, ol + k * 4 + 1, none⟩) HBL.out).trans (HCL.out 1 _ rfl)
    have l2 : W.cell? ⟨bl, ol + k * 4 + 2, none⟩ = some (.int .i64 (heldAt s0 2)) := (g1.cell (p := ⟨bl, ol + k * 4 + 2, none⟩) HBL.out).trans (HCL.out 2 _ rfl)
    have l3 : W.cell? ⟨bl, ol + k * 4 + 3, none⟩ = some (.int .i64 (heldAt s0 3)) := (g1.cell (p := ⟨bl, ol + k * 4 + 3, none⟩) HBL.out).trans (HCL.out 3 _ rfl)
    have HF := lh (ai g1 (ai gA (ai gB (ai gN (ai f0 (ai f1 (ai f2 (ai f3 (ai f4 (ai f5 (ai f6 (ai f7 (ai f8 (ai f9 (ai f10 (ai f11 (ai f12 (ai f13 (ai f14 (ai f15 f16))))))))))))))))))))
    clear f16 f15 f14 f13 f12 f11 f10 f9 f8 f7 f6 f5 f4 f3 f2 f1 f0 gN gB gA g1 hd
    try simp only at e13 ⊢
    gi_wp2
    obtain ⟨g1, gA, gB, gN, f0, f1, f2, f3, f4, f5, f6, f7, f8, f9, f10, f11, f12, f13, f14, f15, f16⟩ := HF.out
    exact hK (gh, (upd (upd s 22 (.pointer (some ⟨bl, ol + k * 4, none⟩))) 23 (.agg #[.int .i64 (heldAt s0 0), .int .i64 (heldAt s0 1), .int .i64 (heldAt s0 2), .int .i64 (heldAt s0 3)]))) _ ⟨g1, gA, gB, gN, f0, f1, f2, f3, f4, f5, f6, f7, f8, f9, f10, f11, f12, (fun _ => rfl), (fun _ => rfl), f15, f16⟩
   ·rintro L ⟨gh, s⟩ W hu hd hdn ⟨g1, gA, gB, gN, f0, f1, f2, f3, f4, f5, f6, f7, f8, f9, f10, f11, f12, f13, f14, f15, f16⟩ K Q hK
    try dsimp only at g1 gA gB gN f0 f1 f2 f3 f4 f5 f6 f7 f8 f9 f10 f11 f12 f13 f14 f15 f16 ⊢
    have h17 : L 17 = false := by
     cases hc : L 17 with
     | false => rfl
     | true => exact hdn.no 17 15 hc rfl hu
    have HF := lh (ai g1 (ai gA (ai gB (ai gN (ai f0 (ai f1 (ai f2 (ai f3 (ai f4 (ai f5 (ai f6 (ai f7 (ai f8 (ai f9 (ai f10 (ai f11 (ai f12 (ai f13 (ai f14 (ai f15 f16))))))))))))))))))))
    clear f16 f15 f14 f13 f12 f11 f10 f9 f8 f7 f6 f5 f4 f3 f2 f1 f0 gN gB gA g1 hd
    try simp only
    gi_wp2
    obtain ⟨g1, gA, gB, gN, f0, f1, f2, f3, f4, f5, f6, f7, f8, f9, f10, f11, f12, f13, f14, f15, f16⟩ := HF.out
    have hb : Below W.heap.size W (W.alloc (.cells #[.int .i64 0, .int .i64 0, .int .i64 0, .int .i64 0] 67)) := (Below.refl _ _).alloc (Nat.le_refl _) _
    exact hK ((W.heap.size, gh.2), (upd s 5 (.pointer (some ⟨W.heap.size, 0, none⟩)))) _ ⟨(g1.trans (hb.mono g1.size)), (fun _ => ⟨g1.size, by simp, fun _ => Blk.new W _ _, fun h => absurd (h17.symm.trans h) (by decide)⟩), (fun h => ⟨(gB h).1, Nat.lt_of_lt_of_le (gB h).2.1 hb.size, fun q => ((gB h).2.2.1 q).below hb (gB h).2.1, fun q => ((gB h).2.2.2 q).below hb (gB h).2.1⟩), (fun _ h => Nat.ne_of_gt (gB h).2.1), f0, f1, f2, f3, f4, f5, f6, f7, f8, f9, f10, f11, f12, f13, f14, (fun _ => rfl), f16⟩
   ·rintro L ⟨gh, s⟩ W hu hd hdn ⟨g1, gA, gB, gN, f0, f1, f2, f3, f4, f5, f6, f7, f8, f9, f10, f11, f12, f13, f14, f15, f16⟩ K Q hK
    try dsimp only at g1 gA gB gN f0 f1 f2 f3 f4 f5 f6 f7 f8 f9 f10 f11 f12 f13 f14 f15 f16 ⊢
    have h18 : L 18 = false := by
     cases hc : L 18 with
     | false => rfl
     | true => exact hdn.no 18 16 hc rfl hu
    have HF := lh (ai g1 (ai gA (ai gB (ai gN (ai f0 (ai f1 (ai f2 (ai f3 (ai f4 (ai f5 (ai f6 (ai f7 (ai f8 (ai f9 (ai f10 (ai f11 (ai f12 (ai f13 (ai f14 (ai f15 f16))))))))))))))))))))
    clear f16 f15 f14 f13 f12 f11 f10 f9 f8 f7 f6 f5 f4 f3 f2 f1 f0 gN gB gA g1 hd
    try simp only
    gi_wp2
    obtain ⟨g1, gA, gB, gN, f0, f1, f2, f3, f4, f5, f6, f7, f8, f9, f10, f11, f12, f13, f14, f15, f16⟩ := HF.out
    have hb : Below W.heap.size W (W.alloc (.cells #[.int .i64 0, .int .i64 0, .int .i64 0, .int .i64 0] 97)) := (Below.refl _ _).alloc (Nat.le_refl _) _
    exact hK ((gh.1, W.heap.size), (upd s 6 (.pointer (some ⟨W.heap.size, 0, none⟩)))) _ ⟨(g1.trans (hb.mono g1.size)), (fun h => ⟨(gA h).1, Nat.lt_of_lt_of_le (gA h).2.1 hb.size, fun q => ((gA h).2.2.1 q).below hb (gA h).2.1, fun q => ((gA h).2.2.2 q).below hb (gA h).2.1⟩), (fun _ => ⟨g1.size, by simp, fun _ => Blk.new W _ _, fun h => absurd (h18.symm.trans h) (by decide)⟩), (fun h _ => Nat.ne_of_lt (gA h).2.1), f0, f1, f2, f3, f4, f5, f6, f7, f8, f9, f10, f11, f12, f13, f14, f15, (fun _ => rfl)⟩
   ·rintro L ⟨gh, s⟩ W hu hd hdn ⟨g1, gA, gB, gN, f0, f1, f2, f3, f4, f5, f6, f7, f8, f9, f10, f11, f12, f13, f14, f15, f16⟩ K Q hK
    try dsimp only at g1 gA gB gN f0 f1 f2 f3 f4 f5 f6 f7 f8 f9 f10 f11 f12 f13 f14 f15 f16 ⊢
    have e15 := f15 (hd.at_ 15 rfl)
    have e7 := f7 (hd.at_ 7 rfl)
    have d15 := hd.at_ 15 rfl
    have RA := (gA d15).2.2.1 hu
    have y0 := RA.cell 0
    have z0 := RA.frozen 0
    have y1 := RA.cell 1
    have z1 := RA.frozen 1
    have y2 := RA.cell 2
    have z2 := RA.frozen 2
    have y3 := RA.cell 3
    have z3 := RA.frozen 3
    have rl := RA.lt
    have HRA := lh RA
    have HGE := lh (gA d15).1
    have HD15 := lh d15
    clear RA d15
    have HF := lh (ai g1 (ai gA (ai gB (ai gN (ai f0 (ai f1 (ai f2 (ai f3 (ai f4 (ai f5 (ai f6 (ai f7 (ai f8 (ai f9 (ai f10 (ai f11 (ai f12 (ai f13 (ai f14 (ai f15 f16))))))))))))))))))))
    clear f16 f15 f14 f13 f12 f11 f10 f9 f8 f7 f6 f5 f4 f3 f2 f1 f0 gN gB gA g1 hd
    try simp only at e15 e7 ⊢
    gi_wp2
    obtain ⟨g1, gA, gB, gN, f0, f1, f2, f3, f4, f5, f6, f7, f8, f9, f10, f11, f12, f13, f14, f15, f16⟩ := HF.out
    have R := ret4' HRA.out (Below.refl gh.1 W) (Nat.le_refl _) (.int .i64 x.kind) (.int .i64 x.fr) (.int .i64 x.to) (.int .i64 x.drops)
    exact hK (gh, (upd (upd s 5 (.pointer (some ⟨gh.1, 0, none⟩))) 16 (.agg #[.int .i64 x.kind, .int .i64 x.fr, .int .i64 x.to, .int .i64 x.drops]))) _ ⟨(g1.trans (R.2.1.mono HGE.out)), (fun _ => ⟨HGE.out, R.1.lt, (fun h => by cases h), fun _ => R.1⟩), (fun h => ⟨(gB h).1, Nat.lt_of_lt_of_le (gB h).2.1 R.2.2.size, fun q => ((gB h).2.2.1 q).grown R.2.2 (fun e => gN HD15.out h (Option.some.inj e).symm), fun q => ((gB h).2.2.2 q).grown R.2.2 (fun e => gN HD15.out h (Option.some.inj e).symm)⟩), gN, f0, f1, f2, f3, f4, f5, f6, (fun _ => rfl), f8, f9, f10, f11, f12, f13, f14, (fun _ => rfl), f16⟩
   ·rintro L ⟨gh, s⟩ W hu hd hdn ⟨g1, gA, gB, gN, f0, f1, f2, f3, f4, f5, f6, f7, f8, f9, f10, f11, f12, f13, f14, f15, f16⟩ K Q hK
    try dsimp only at g1 gA gB gN f0 f1 f2 f3 f4 f5 f6 f7 f8 f9 f10 f11 f12 f13 f14 f15 f16 ⊢
    have e16 := f16 (hd.at_ 16 rfl)
    have e14 := f14 (hd.at_ 14 rfl)
    have d16 := hd.at_ 16 rfl
    have RB := (gB d16).2.2.1 hu
    have y0 := RB.cell 0
    have z0 := RB.frozen 0
    have y1 := RB.cell 1
    have z1 := RB.frozen 1
    have y2 := RB.cell 2
    have z2 := RB.frozen 2
    have y3 := RB.cell 3
    have z3 := RB.frozen 3
    have rl := RB.lt
    have HRB := lh RB
    have HGE := lh (gB d16).1
    have HD16 := lh d16
    clear RB d16
    have HF := lh (ai g1 (ai gA (ai gB (ai gN (ai f0 (ai f1 (ai f2 (ai f3 (ai f4 (ai f5 (ai f6 (ai f7 (ai f8 (ai f9 (ai f10 (ai f11 (ai f12 (ai f13 (ai f14 (ai f15 f16))))))))))))))))))))
    clear f16 f15 f14 f13 f12 f11 f10 f9 f8 f7 f6 f5 f4 f3 f2 f1 f0 gN gB gA g1 hd
    try simp only at e16 e14 ⊢
    gi_wp2
    obtain ⟨g1, gA, gB, gN, f0, f1, f2, f3, f4, f5, f6, f7, f8, f9, f10, f11, f12, f13, f14, f15, f16⟩ := HF.out
    have R := ret4' HRB.out (Below.refl gh.2 W) (Nat.le_refl _) (.int .i64 (heldAt s0 0)) (.int .i64 (heldAt s0 1)) (.int .i64 (heldAt s0 2)) (.int .i64 (heldAt s0 3))
    exact hK (gh, (upd (upd s 6 (.pointer (some ⟨gh.2, 0, none⟩))) 23 (.agg #[.int .i64 (heldAt s0 0), .int .i64 (heldAt s0 1), .int .i64 (heldAt s0 2), .int .i64 (heldAt s0 3)]))) _ ⟨(g1.trans (R.2.1.mono HGE.out)), (fun h => ⟨(gA h).1, Nat.lt_of_lt_of_le (gA h).2.1 R.2.2.size, fun q => ((gA h).2.2.1 q).grown R.2.2 (fun e => gN h HD16.out (Option.some.inj e)), fun q => ((gA h).2.2.2 q).grown R.2.2 (fun e => gN h HD16.out (Option.some.inj e))⟩), (fun _ => ⟨HGE.out, R.1.lt, (fun h => by cases h), fun _ => R.1⟩), gN, f0, f1, f2, f3, f4, f5, f6, f7, f8, f9, f10, f11, f12, f13, (fun _ => rfl), f15, (fun _ => rfl)⟩
  ·rintro L ⟨gh, s⟩ W hall ⟨g1, gA, gB, gN, f0, f1, f2, f3, f4, f5, f6, f7, f8, f9, f10, f11, f12, f13, f14, f15, f16⟩
   have a15 := hall 15 (by decide)
   have a16 := hall 16 (by decide)
   have GA := gA a15
   have GB := gB a16
   have GN := gN a15 a16
   have GA2 := GA.2.2.2 (hall 17 (by decide))
   have GB2 := GB.2.2.2 (hall 18 (by decide))
   have e5 := f15 a15
   have e6 := f16 a16
   have HGG := lh (ai GN (ai g1 (ai GA.1 (ai GB.1 (ai GA2 GB2)))))
   clear f16 f15 f14 f13 f12 f11 f10 f9 f8 f7 f6 f5 f4 f3 f2 f1 f0 gN gB gA g1 GA GB GN GA2 GB2 a15 a16 hall
   try simp only at e5 e6 ⊢
   gi_wp2
   gi_meet
   exact ⟨_, _, rfl, rfl, HGG⟩
 case rest =>
  obtain ⟨g5, g6, rfl, rfl, HC⟩ := hcut
  rename World => C1
  replace Ly := lh (((show Lay w C1 [] from ⟨HC.out.2.1, fun b hb => by simp at hb⟩).add HC.out.2.2.1 HC.out.2.2.2.2.1).add HC.out.2.2.2.1 HC.out.2.2.2.2.2)
  have HN56 := lh HC.out.1
  clear HC
  gi_wp2
  refine wpIn_flow_old [([true, true], 2), ([], 3), ([false, false, false, false, true, true, false, true, true, false, false, true, true, true], 6), ([false, false, false, false, false, false, false, false, false, true, true], 14)] [false, false, false, false, false, false, false, false, false, false, false, false, false, false, false, true, true] [] (by kernel_rfl) (by kernel_rfl) (by kernel_rfl) (below_drewN (Below.refl _ _) 1) ?_
  refine wpFlow_cons (A := ?AF1) rfl ?hq1 ?_
  case hq1 =>
   rintro σ hσ of hof hcl
   have HOF := lh hof
   have HCL := lh hcl
   clear hof hcl
   obtain ⟨c0_, c1_, c2_, c3_⟩ := lyz4 Ly HOF 0 rfl
   obtain ⟨c4_, c5_, c6_, c7_⟩ := lyz4 Ly HOF 1 rfl
   have hfw := hfT
   simp only [pickB]
   repeat (gi_big_quiet_step (fail))
   refine wpQuietIn_nil ?_
   exact rfl
  intro W1 hW
  replace Ly := lyb Ly hW
  clear hW
  gi_wp2
  refine ⟨trivial, (Below.refl _ _).alloc (Nat.le_refl _) _, ?_⟩
  have hb : Below W1.heap.size W1 (W1.alloc (.cells #[.int .i64 x.kind] 3)) := (Below.refl _ _).alloc (Nat.le_refl _) _
  replace Ly := lyb Ly hb
  have HPl := lh (show IntsAt (W1.alloc (.cells #[.int .i64 x.kind] 3)) (W1.alloc (.cells #[.int .i64 x.kind] 3)).heap.size (some ⟨W1.heap.size, 0, none⟩) 1 [x.kind] from IntsAt.new W1 3 [x.kind] _ (by simp))
  obtain ⟨P3, hP⟩ : ∃ P, W1.heap.size = P := ⟨_, rfl⟩
  rw [hP] at HPl ⊢
  generalize (W1.alloc (.cells #[.int .i64 x.kind] 3)) = V2 at *
  clear hb hP
  refine wpFlow_cons rfl Quietly.none ?_
  intro W4 hW
  replace Ly := lyb Ly hW
  replace HPl := lh ((HPl.out.below hW).more hW.size)
  clear hW
  gi_wp2
  refine ⟨trivial, (callsIn_wide.2 (in_any 1 4 (some ⟨P3, 0, none⟩) 1 1 [x.kind] W4 HPl.out (by decide))).mono ?_⟩
  rintro e W5 ⟨rfl, hb⟩
  replace Ly := lyb Ly hb
  replace HPl := lh ((HPl.out.below hb).more hb.size)
  rw [HKI.out]
  gi_wp2
  refine ⟨trivial, hb, ?_⟩
  clear hb
  clear HPl
  refine wpFlow_cons (A := ?AF2) rfl ?hq2 ?_
  case hq2 =>
   rintro σ hσ of hof hcl
   have HOF := lh hof
   have HCL := lh hcl
   clear hof hcl
   obtain ⟨c0_, c1_, c2_, c3_⟩ := lyz4 Ly HOF 0 rfl
   obtain ⟨c4_, c5_, c6_, c7_⟩ := lyz4 Ly HOF 1 rfl
   have hfw := hfT
   simp only [pickB]
   repeat (gi_big_quiet_step (fail))
   refine wpQuietIn_nil ?_
   exact rfl
  intro W6 hW
  replace Ly := lyb Ly hW
  clear hW
  gi_wp2
  refine ⟨trivial, ?_⟩
  gi_wp2
  refine ⟨trivial, Below.refl _ _, ?_⟩
  refine wpFlow_cons (A := ?AF3) rfl ?hq3 ?_
  case hq3 =>
   rintro σ hσ of hof hcl
   have HOF := lh hof
   have HCL := lh hcl
   clear hof hcl
   obtain ⟨c0_, c1_, c2_, c3_⟩ := lyz4 Ly HOF 0 rfl
   obtain ⟨c4_, c5_, c6_, c7_⟩ := lyz4 Ly HOF 1 rfl
   have hfw := hfT
   simp only [pickB]
   repeat (gi_big_quiet_step (fail))
   refine wpQuietIn_nil ?_
   exact rfl
  intro W7 hW
  replace Ly := lyb Ly hW
  clear hW
  gi_wp2
  refine ⟨fun _ _ => trivial, ?_⟩
  gi_wp2
  refine ⟨trivial, Below.refl _ _, ?_⟩
  refine wpFlow_nil (A := ?AF4) ?hq4 ?_
  case hq4 =>
   rintro σ hσ of hof hcl
   have HOF := lh hof
   have HCL := lh hcl
   clear hof hcl
   obtain ⟨c0_, c1_, c2_, c3_⟩ := lyz4 Ly HOF 0 rfl
   obtain ⟨c4_, c5_, c6_, c7_⟩ := lyz4 Ly HOF 1 rfl
   have hfw := hfT
   simp only [pickB]
   repeat (gi_big_quiet_step (fail))
   refine wpQuietIn_nil ?_
   exact rfl
  intro W8 hW
  replace Ly := lyb Ly hW
  clear hW
  simp only [pickB]
  refine wpT_nil ?_
  gi_wp2
  refine bodyPost_ret (v := .bool false) (by simp [results, Try.results84, go_sem]) rfl ?_
  exact ⟨rfl, Ly.out.1⟩
end
end Go.Proofs.Ythofngceiecniaa
