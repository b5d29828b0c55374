/- TopWet: whatever the arguments, the law answers true. The row, and the card. -/
import Derived.Deep.RegionHeld3
import Derived.Deep.Cut
import Derived.Deep.DeepCutAuto
import Derived.Test.YtjdgdeiedkickaaDoorRows
import Derived.ProofKit
import Derived.LaidMore
import Derived.LaidHandle
import Derived.Stop.Joined
import Derived.ChangeSame
import Derived.OpenShut
import Derived.Lib.SmallJoins
import Derived.ChangeArms
import Derived.SevenTiedAt
import Derived.Test.YtjdgdeiedkickaaDoorCards
import Derived.Test.YtjdgdeiedkickaaDoorTie
import Derived.Test.YtjdgdeiedkickaaDoorTwT10
set_option linter.unusedVariables false
/- How much of a fountain is gone: mix.Gone. -/
namespace Go.Proofs.YtjdgdeiedkickaaDoor.Mx
open Go.RowKit
attribute [local go_sem] Oper.semAt_some

def GonQ (Pm : Held → Prop) (F : Int) (n : Int) : Prop := ∃ x : D4, Pm x.toH ∧ F - sumH x.toH = n
def sumK (s : Held) : Nat → Int
 | 0 => 0
 | k + 1 => sumK s k + heldAt s (k : Int)
theorem sumK_bd {s : Held} (h : ∀ q : Nat, q < 4 → 0 ≤ heldAt s q ∧ heldAt s q ≤ 12) : ∀ {k : Nat}, k ≤ 4 → 0 ≤ sumK s k ∧ sumK s k ≤ 12 * k
 | 0, _ => by simp [sumK]
 | k + 1, hk => by
  have h1 := sumK_bd h (k := k) (by omega)
  have h2 := h k (by omega)
  rw [sumK]
  omega
inductive FrG (v0 v1 v2 v3 v18 : Value) : Act → Prop
 | mk (u4 u5 u6 u7 u8 u9 u10 u11 u12 u13 u14 u15 u16 u17 u19 u20 u21 u22 u23 u24 u25 u26 u27 u28 u29 u30 u31 u32 u33 u34 u35 : Value) : FrG v0 v1 v2 v3 v18 { tmps := #[v0, v1, v2, v3, u4, u5, u6, u7, u8, u9, u10, u11, u12, u13, u14, u15, u16, u17, v18, u19, u20, u21, u22, u23, u24, u25, u26, u27, u28, u29, u30, u31, u32, u33, u34, u35], defers := [] }
inductive FrG2 (v0 v1 v2 v3 v18 v6 v24 v25 : Value) : Act → Prop
 | mk (u4 u5 u7 u8 u9 u10 u11 u12 u13 u14 u15 u16 u17 u19 u20 u21 u22 u23 u26 u27 u28 u29 u30 u31 u32 u33 u34 u35 : Value) : FrG2 v0 v1 v2 v3 v18 v6 v24 v25 { tmps := #[v0, v1, v2, v3, u4, u5, v6, u7, u8, u9, u10, u11, u12, u13, u14, u15, u16, u17, v18, u19, u20, u21, u22, u23, v24, v25, u26, u27, u28, u29, u30, u31, u32, u33, u34, u35], defers := [] }

set_option maxRecDepth 100000 in
set_option maxHeartbeats 8000000 in
theorem gone1_own (n : Nat) (hn : 2 ≤ n) (gU : Nat) (T : Tb) (f : Int) (A : Option Addr) (nn c : Nat) (rs : List Nat) (ms : List (List (D4 × Bool))) (g1 g2 g3 rk : Nat) (mk : List (D4 × Bool)) (Pm : Held → Prop) (F : Int) (m : Mix) (Av : Option Addr) (nv cv : Nat) (Aa : Option Addr) (na ca : Nat) (At : Option Addr) (nt ct : Nat) (w : World) (hT : TrAt w gU T f A nn c rs ms)
  (h1 : Blk w g1 78 #[.pointer (some ⟨gU, 0, none⟩)]) (h2 : Blk w g2 47 #[.int .i64 m.fountains, .slice Av nv cv, .slice Aa na ca, .slice At nt ct]) (h3 : Blk w g3 3 #[.int .i64 F]) (hrk : rs[na]? = some rk) (hmk : ms[na]? = some mk) (hm : CanIs mk Pm) (hrg : ∀ y : D4, Pm y.toH → ∀ q : Nat, q < 4 → 0 ≤ heldAt y.toH q ∧ heldAt y.toH q ≤ 12) (hfl : 0 ≤ F ∧ F ≤ 1000000) :
  SeqOwn Fence.wide n Tryd.prog 33 #[.pointer (some ⟨g1, 0, none⟩), .pointer (some ⟨g2, 0, none⟩), .pointer (some ⟨g3, 0, none⟩)] (encI (P := GonQ Pm F)) (KeepB w.heap.size) PAll mk.length w := by
 intro l J w0 hW hJ hY h0
 have HJ := Lib.hid hJ
 have HY := Lib.hid hY
 have H0 := Lib.hid h0
 have HT := Lib.hid hT
 have H1 := Lib.hid h1
 have H2 := Lib.hid h2
 have H3 := Lib.hid h3
 have HM := Lib.hid hm
 have HRK := Lib.hid hrk
 have HMK := Lib.hid hmk
 have HRG := Lib.hid hrg
 have HFL := Lib.hid hfl
 have HW := Lib.hid hW
 have hrd := (hT.below hW).rd
 obtain ⟨g, off, hA, hgl, hrd2⟩ := Reads.plain hrd (by have := (List.getElem?_eq_some_iff.1 hrk).1; simp; omega)
 have q9 := hrd2 na (canV rk) (by rw [List.getElem?_map, hrk]; rfl)
 unfold canV at q9
 subst hA
 have hkn : na < nn := by have := hT.rd.1; have := (List.getElem?_eq_some_iff.1 hrk).1; simp at *; omega
 obtain ⟨w1, hr1, hi1, hg1, hs1⟩ := MapIs.range (P := Tryd.prog) (t := 100) Tryd.underlying100 (show CanMap w0.drew rk mk from (hT.below hW).maps na rk mk hrk hmk)
 have q0 := (hT.below hW).blk.cell 2
 have q1 := (h1.below hW h1.lt).cell 0
 have q2 := (h2.below hW h2.lt).cell 2
 have l0 := (hT.below hW).blk.lt
 have l1 := (h1.below hW h1.lt).lt
 have l2 := (h2.below hW h2.lt).lt
 unfold trC at q0
 clear hJ hY h0 hT h1 h2 h3 hm hrk hmk hW hrd hrd2 hrg hfl
 refine callsIn_of_wp Tryd.func33 rfl trivial ?_ rfl
 simp only [Tryd.ntmps33, List.size_toArray, List.length_cons, List.length_nil, Nat.reduceAdd, Nat.reduceSub, Array.replicate_succ, Array.replicate_zero, List.push_toArray, List.append_toArray, List.nil_append, List.cons_append]
 gi_wp2
 gi_region
 clear q0 q1 q2 q9 l0 l1 l2 hr1 hgl
 have hb1 : Below w0.heap.size w0 w1 := (below_drewN (Below.refl w0.heap.size w0) 1).grown hg1 (Nat.le_refl _) (fun k e => by cases e)
 replace hi1 : IterIs D4.key Value.bool okD w1 w0.heap.size rk mk mk := hi1
 have hj1 : J [] w1 := HJ.out [] w0 w1 none H0.out (grown_of_below hb1 none) (fun r e => by cases e)
 have HB1 := Lib.hid (HW.out.trans (hb1.mono HW.out.size))
 have HI1 := Lib.hid hi1
 have HJ1 := Lib.hid hj1
 clear hg1 hs1 hi1 hj1 hb1
 gi_wp2
 refine wpIn_loop (fun a W => ∃ (left : List (D4 × Bool)) (pre : List (Pn (GonQ Pm F))), Hid (IterIs D4.key Value.bool okD W w0.heap.size rk mk left ∧ J pre W ∧ Below w.heap.size w W ∧ pre.length + left.length = mk.length ∧ (∀ p ∈ mk, p ∈ left ∨ ∃ y ∈ pre, y.1 = F - sumH p.1.toH)) ∧ FrG (.func (.yield l) #[] #[]) (.pointer (some ⟨g1, 0, none⟩)) (.pointer (some ⟨g2, 0, none⟩)) (.pointer (some ⟨g3, 0, none⟩)) (.pointer (some ⟨w0.heap.size, 0, none⟩)) a)
  (fun _ W => iterLeft W w0.heap.size) ?_ ?_
 ·exact ⟨mk, [], Lib.hid ⟨HI1.out, HJ1.out, HB1.out, by simp, fun p hp => .inl hp⟩, by constructor⟩
 clear HB1 HI1 HJ1
 rintro a W ⟨left, pre, HS, ha⟩
 cases ha
 rcases HS.out.1.next (P := Tryd.prog) 0 with ⟨hl, hr⟩ | ⟨i, ⟨y, v⟩, w2, hp, hr, hi2, hg2, hs2, he2⟩
 ·gi_wp2
  go_end0
  subst hl
  exact ⟨⟨_, rfl⟩, pre, fun n ⟨x, hx, e⟩ => by
   obtain ⟨v, hv⟩ := (HM.out.keys x).2 hx
   rcases HS.out.2.2.2.2 _ hv with h | ⟨y, hy, e2⟩
   ·cases h
   ·exact ⟨y, hy, e2.trans e⟩, HS.out.2.1⟩
 obtain ⟨v', hym⟩ := HS.out.1.sub (List.mem_of_getElem? hp)
 have hyP : Pm y.toH := (HM.out.keys y).1 ⟨v', hym⟩
 obtain ⟨x1, x2, x3, x4, ho⟩ := IterIs.obj HS.out.1
 have hj2 : J pre w2 := HJ.out pre W w2 _ HS.out.2.1 hg2 (fun r e => by cases e; exact ⟨Nat.le_refl _, _, ho, rfl⟩)
 have hb2 : Below w.heap.size w w2 := HS.out.2.2.1.grown hg2 HS.out.2.2.1.size (fun k e => by cases e; exact HW.out.size)
 have hyr := HRG.out y hyP
 obtain ⟨s, hs⟩ : ∃ s, y.toH = s := ⟨_, rfl⟩
 replace hr : (Instr.next (.pointer (some ⟨w0.heap.size, 0, none⟩)) false 0).run Tryd.prog W = .ok (.tuple #[.bool true, .agg #[.int .i64 (heldAt s 0), .int .i64 (heldAt s 1), .int .i64 (heldAt s 2), .int .i64 (heldAt s 3)], .bool v]) w2 := by rw [← hs]; exact hr
 replace he2 : (Instr.entry (.pointer (some ⟨w0.heap.size, 0, none⟩))).run Tryd.prog w2 = .ok (.tuple #[.agg #[.int .i64 (heldAt s 0), .int .i64 (heldAt s 1), .int .i64 (heldAt s 2), .int .i64 (heldAt s 3)], .bool v]) w2 := by rw [← hs]; exact he2
 rw [hs] at hyP hyr
 have HYP := Lib.hid hyP
 have HYR := Lib.hid hyr
 have HSY := Lib.hid hs
 have HI2 := Lib.hid hi2
 have HJ2 := Lib.hid hj2
 have HB2 := Lib.hid hb2
 have HP := Lib.hid hp
 clear hyP hs hi2 hj2 hb2 hp hg2 hs2 ho hym hyr
 have q3 := (H3.out.below HB2.out H3.out.lt).cell 0
 have l3 := (H3.out.below HB2.out H3.out.lt).lt
 gi_wp2
 clear hr he2 q3 l3
 have hb3 : Below w2.heap.size w2 (w2.alloc (.cells #[.int .i64 (heldAt s 0), .int .i64 (heldAt s 1), .int .i64 (heldAt s 2), .int .i64 (heldAt s 3)] 74)) := (Below.refl _ _).alloc (Nat.le_refl _) _
 have hj3 : J pre (w2.alloc (.cells #[.int .i64 (heldAt s 0), .int .i64 (heldAt s 1), .int .i64 (heldAt s 2), .int .i64 (heldAt s 3)] 74)) := HJ.out pre w2 _ none HJ2.out (grown_of_below hb3 none) (fun r e => by cases e)
 have HI3 := Lib.hid (HI2.out.below hb3 HI2.out.map.lt HI2.out.lt)
 have HB3 := Lib.hid (HB2.out.trans (hb3.mono HB2.out.size))
 have HJ3 := Lib.hid hj3
 clear hb3 hj3 HJ2 HI2 HB2
 generalize (w2.alloc (.cells #[.int .i64 (heldAt s 0), .int .i64 (heldAt s 1), .int .i64 (heldAt s 2), .int .i64 (heldAt s 3)] 74)) = w3 at *
 refine wpIn_loop (fun a W' => W' = w3 ∧ ∃ k : Nat, k ≤ 4 ∧ FrG2 (.func (.yield l) #[] #[]) (.pointer (some ⟨g1, 0, none⟩)) (.pointer (some ⟨g2, 0, none⟩)) (.pointer (some ⟨g3, 0, none⟩)) (.pointer (some ⟨w0.heap.size, 0, none⟩)) (.int .i64 (F - sumK s k)) (.agg #[.int .i64 (heldAt s 0), .int .i64 (heldAt s 1), .int .i64 (heldAt s 2), .int .i64 (heldAt s 3)]) (.int .i64 k) a)
  (fun a _ => 4 - (intOf (a.tmps.getD 25 undef)).toNat) ?_ ?_
 ·exact ⟨rfl, 0, by omega, by rw [show F - sumK s 0 = F from by simp [sumK]]; constructor⟩
 rintro a W' ⟨rfl, k, hk, ha⟩
 cases ha
 by_cases hk4 : k < 4
 ·have hix : ∀ z : World, (Instr.index 74 (.agg #[.int .i64 (heldAt s 0), .int .i64 (heldAt s 1), .int .i64 (heldAt s 2), .int .i64 (heldAt s 3)]) (.int .i64 (k : Int))).run Tryd.prog z = .ok (.int .i64 (heldAt s (k : Int))) z := fun z => by
   rcases (show k = 0 ∨ k = 1 ∨ k = 2 ∨ k = 3 by omega) with rfl | rfl | rfl | rfl <;> kernel_rfl
  have hsk := sumK_bd HYR.out (Nat.le_of_lt hk4)
  have hsb := HYR.out k hk4
  have hfl := HFL.out
  have HIX := Lib.hid (hix W')
  have hix2 := hix W'
  clear hix
  gi_wp2
  refine ⟨⟨trivial, k + 1, hk4, by rw [show F - sumK s (k + 1) = F - sumK s k - heldAt s (k : Int) from by rw [sumK]; omega, show ((k + 1 : Nat) : Int) = (k : Int) + 1 from by omega]; constructor⟩, ?_⟩
  simp [intOf]
  omega
 obtain rfl : k = 4 := by omega
 have e4 : sumK s 4 = sumH s := by simp [sumK, sumH]
 rw [e4]
 obtain ⟨fn, tmps, assign, body, hy, hR⟩ := HY.out pre ⟨F - sumH s, y, by rw [HSY.out]; exact ⟨HYP.out, rfl⟩⟩ W' HJ3.out (by
  have h1 := HS.out.2.2.2.1
  have h2 := (List.getElem?_eq_some_iff.1 HP.out).1
  omega)
 unfold encI at hy
 dsimp only at hy
 have HR := Lib.hid hR
 clear hR hk hk4 e4
 gi_wp2
 refine ⟨fun _ => by omega, HR.out.mono ?_⟩
 rintro e W3 ⟨rfl, hJ3, hk3, _⟩
 have HJ4 := Lib.hid hJ3
 have HI4 := Lib.hid (HI3.out.walks hk3.2.1)
 have HB4 := Lib.hid (HB3.out.trans hk3.1)
 clear hJ3 hk3 hy
 gi_wp2
 refine ⟨⟨left.eraseIdx i, _, Lib.hid ⟨HI4.out, HJ4.out, HB4.out, ?_, fun p hp => ?_⟩, by constructor⟩, ?_⟩
 ·have h1 := HS.out.2.2.2.1
  have h2 := (List.getElem?_eq_some_iff.1 HP.out).1
  rw [List.length_append, List.length_eraseIdx_of_lt h2, List.length_singleton]
  omega
 ·rcases HS.out.2.2.2.2 p hp with h | ⟨z, hz, e⟩
  ·rcases List.mem_cons.1 ((perm_erase HP.out).mem_iff.2 h) with rfl | h
   ·exact .inr ⟨_, List.mem_append_right _ (List.mem_singleton_self _), by dsimp only; rw [HSY.out]⟩
   ·exact .inl h
  ·exact .inr ⟨z, List.mem_append_left _ hz, e⟩
 ·have h2 := (List.getElem?_eq_some_iff.1 HP.out).1
  rw [HI4.out.left_eq, HS.out.1.left_eq, List.length_eraseIdx_of_lt h2]
  omega

theorem enters_gone1 (args : Array Value) (W : World) : (callFunc 33 args).run Tryd.prog W = .ok (.enter 33 args) W := by
 simp [go_sem]
/-- What Gone hands back. -/
def GoneOut (w : World) (m : Mix) (fountain : Int) (e : Ending) (w' : World) : Prop := ∃ lo hi ee : Int, e = .returned (.tuple #[.agg #[.int .i64 lo, .int .i64 hi], .int .i64 ee]) ∧ GoneIs m fountain (lo, hi) ee ∧ Below w.heap.size w w'
def filledK (m : Mix) (f : Int) (k : Nat) : Int := (m.acts.take k).foldl (fun n x => if x.kind = 1 ∧ x.fr = f then n + x.drops else n) 0
theorem filledK_succ {m : Mix} {f : Int} {k : Nat} {x : MAct} (hx : m.acts[k]? = some x) : filledK m f (k + 1) = if x.kind = 1 ∧ x.fr = f then filledK m f k + x.drops else filledK m f k := by
 unfold filledK
 rw [List.take_add_one, hx]
 simp [List.foldl_append]
theorem filledK_all {m : Mix} {f : Int} {k : Nat} (hk : m.acts.length = k) : filledK m f k = filledM m f := by
 unfold filledK filledM
 rw [← hk, List.take_length]
theorem filledK_bd {T : Tb} {f : Int} (hok : TbOk T) : ∀ {k : Nat}, k ≤ T.m.acts.length → 0 ≤ filledK T.m f k ∧ filledK T.m f k ≤ 2000 * k
 | 0, _ => by simp [filledK]
 | k + 1, hk => by
  have h1 := filledK_bd (f := f) hok (k := k) (by omega)
  obtain ⟨x, hx⟩ : ∃ x, T.m.acts[k]? = some x := ⟨_, List.getElem?_eq_getElem (by omega)⟩
  obtain ⟨all, hA⟩ := hok.at_ hx
  have h2 := hA.size
  rw [filledK_succ hx]
  split
  ·rename_i h
   unfold sizeA at h2
   rw [if_neg (by omega)] at h2
   omega
  ·omega
theorem gon_rng {T : Tb} {f : Int} {k : Nat} (hok : TbOk T) (hk : k < T.L.length) : ∀ y : D4, Truth T.m f T.L k y.toH → ∀ q : Nat, q < 4 → 0 ≤ heldAt y.toH q ∧ heldAt y.toH q ≤ 12 := fun y h q hq => by
 have hL : T.L[k]? = some T.L[k] := List.getElem?_eq_getElem hk
 have hr := allM_range hok.all hok.vess (okMix_ves hok.ok) hL
 have h2 := h.fits hok.all hok.vess hL
 have a := h2.le q hq
 have b := hr.2 q
 omega
theorem gonq_some {T : Tb} {f F : Int} {k : Nat} (hok : TbOk T) (ht : Truth T.m f T.L 0 zeroH) (hk : T.m.acts.length = k) : ∃ n, GonQ (Truth T.m f T.L k) F n := by
 obtain ⟨s, hs⟩ := truth_all ht (Nat.le_of_eq hk.symm)
 have hL : T.L[k]? = some (T.L[k]'(by have := hok.long; omega)) := List.getElem?_eq_getElem _
 have e2 := toH_ofH (hs.fits hok.all hok.vess hL).lh
 exact ⟨_, ofH s, by rw [e2]; exact hs, rfl⟩
theorem gonq_gonp {T : Tb} {m : Mix} {f : Int} {k : Nat} (hTm : T.m = m) (hok : TbOk T) (hk : m.acts.length = k) : ∀ n, GonQ (Truth T.m f T.L k) (filledM m f) n ↔ GoneP m f T.L n := fun n => by
 subst hTm
 unfold GonQ GoneP
 rw [hk]
 constructor
 ·rintro ⟨y, h1, h2⟩
  exact ⟨y.toH, h1, h2.symm⟩
 ·rintro ⟨s, h1, h2⟩
  have hL : T.L[k]? = some (T.L[k]'(by have := hok.long; omega)) := List.getElem?_eq_getElem _
  have e2 := toH_ofH (h1.fits hok.all hok.vess hL).lh
  exact ⟨ofH s, by rw [e2]; exact h1, by rw [e2]; exact h2.symm⟩
inductive FrL (v0 v1 v2 v4 v5 v8 v9 v39 v40 v41 : Value) : Act → Prop
 | mk (u3 u6 u7 u10 u11 u12 u13 u14 u15 u16 u17 u18 u19 u20 u21 u22 u23 u24 u25 u26 u27 u28 u29 u30 u31 u32 u33 u34 u35 u36 u37 u38 u42 u43 u44 u45 u46 u47 u48 u49 u50 u51 u52 u53 u54 u55 u56 u57 u58 u59 : Value) : FrL v0 v1 v2 v4 v5 v8 v9 v39 v40 v41 { tmps := #[v0, v1, v2, u3, v4, v5, u6, u7, v8, v9, u10, u11, u12, u13, u14, u15, u16, u17, u18, u19, u20, u21, u22, u23, u24, u25, u26, u27, u28, u29, u30, u31, u32, u33, u34, u35, u36, u37, u38, v39, v40, v41, u42, u43, u44, u45, u46, u47, u48, u49, u50, u51, u52, u53, u54, u55, u56, u57, u58, u59], defers := [] }

set_option maxRecDepth 100000 in
set_option maxHeartbeats 8000000 in
theorem gone_any (Av : Option Addr) (nv cv : Nat) (Aa : Option Addr) (na ca : Nat) (At : Option Addr) (nt ct : Nat) (m : Mix) (fountain : Int) (w : World) (h : MixS w Av nv Aa na At nt m) :
  CallsIn Fence.wide 9 Tryd.prog 14 #[.agg #[.int .i64 m.fountains, .slice Av nv cv, .slice Aa na ca, .slice At nt ct], .int .i64 fountain] w (GoneOut w m fountain) := by
 have HM := Lib.hid h
 have HLA := Lib.hid h.at_.lenA
 clear h
 refine callsIn_of_wp Tryd.func14 rfl trivial ?_ rfl
 simp only [Tryd.ntmps14, List.size_toArray, List.length_cons, List.length_nil, Nat.reduceAdd, Nat.reduceSub, Array.replicate_succ, Array.replicate_zero, List.push_toArray, List.append_toArray, List.nil_append, List.cons_append]
 gi_upto_region 1 with fail
 have HLay := Lib.hid (Lay.two w 47 #[.int .i64 m.fountains, .slice Av nv cv, .slice Aa na ca, .slice At nt ct] 27 #[.int .i64 0, .int .i64 0])
 generalize ((w.alloc (.cells #[.int .i64 m.fountains, .slice Av nv cv, .slice Aa na ca, .slice At nt ct] 47)).alloc (.cells #[.int .i64 0, .int .i64 0] 27)) = w0 at *
 have x0_0 := (HLay.out.blk 0 rfl).cell 0
 have x0_1 := (HLay.out.blk 0 rfl).cell 1
 have x0_2 := (HLay.out.blk 0 rfl).cell 2
 have x0_3 := (HLay.out.blk 0 rfl).cell 3
 have l0_ := HLay.out.lt 0 rfl
 gi_wp2
 clear x0_0 x0_1 x0_2 x0_3 l0_
 refine ⟨trivial, (callsIn_wide.2 (MixS.laid (HM.out.up HLay.out.1))).mono ?_⟩
 rintro e W1 ⟨pp, rfl, hb, hp⟩
 have HP := Lib.hid hp
 clear hp
 replace HLay := Lib.hid (HLay.out.below hb)
 clear hb
 cases hk : okMix m with
 | false =>
  have HF : Hid (GoneIs m fountain (0, 0) 40) := Lib.hid (.inl ⟨by unfold goneM; rw [if_neg (by rw [hk]; decide)]; decide, rfl, by unfold goneM; rw [if_neg (by rw [hk]; decide)]⟩)
  clear hk HP
  have x1_0 := (HLay.out.blk 1 rfl).cell 0
  have z1_0 := (HLay.out.blk 1 rfl).frozen 0
  have x1_1 := (HLay.out.blk 1 rfl).cell 1
  have z1_1 := (HLay.out.blk 1 rfl).frozen 1
  have l1_ := HLay.out.lt 1 rfl
  gi_wp2
  have R2 := ret2' (HLay.out.blk 1 rfl) HLay.out.1 (HLay.out.ge 1 rfl) (.int .i64 (0)) (.int .i64 (0))
  have v0 := R2.1.cell 0
  have v1 := R2.1.cell 1
  refine bodyPost_ret (v := .tuple #[.agg #[.int .i64 (0), .int .i64 (0)], .int .i64 (40)]) (by simp [results, Tryd.results14, go_sem, v0, v1]) rfl ?_
  exact ⟨_, _, _, rfl, HF.out, R2.2.1⟩
 | true =>
  obtain ⟨g, AA, nl, cl, L, rfl, hg, hL, hT⟩ := HP.out hk
  obtain ⟨T, hTT⟩ : ∃ T : Tb, T = ⟨g, Av, nv, cv, Aa, na, ca, At, nt, ct, AA, nl, cl, m, L⟩ := ⟨_, rfl⟩
  have hTg : g = T.g := by rw [hTT]
  have hTm : T.m = m := by rw [hTT]
  have HTL : Hid (allM m m.acts = some T.L) := Lib.hid (by rw [hTT]; exact hL)
  rw [← hTT] at hT
  subst hTg
  have HOK : Hid (TbOk T) := Lib.hid ⟨by rw [hTm]; exact hk, by rw [hTm]; exact HTL.out⟩
  have HK := Lib.hid hk
  have HT := Lib.hid hT.at_
  have HTM := Lib.hid hTm
  clear HP hTT hL hg hT hk hTm
  have x0_0 := (HLay.out.blk 0 rfl).cell 0
  have x0_1 := (HLay.out.blk 0 rfl).cell 1
  have x0_2 := (HLay.out.blk 0 rfl).cell 2
  have x0_3 := (HLay.out.blk 0 rfl).cell 3
  have l0_ := HLay.out.lt 0 rfl
  gi_wp2
  clear x0_0 x0_1 x0_2 x0_3 l0_
  have Y := IntsAt.new W1 3 [fountain] (W1.heap.size + 1) (by omega)
  have hb1 : Below W1.heap.size W1 (W1.alloc (.cells #[.int .i64 fountain] 3)) := (Below.refl _ _).alloc (Nat.le_refl _) _
  have hc := in_any 1 m.fountains (some ⟨W1.heap.size, 0, none⟩) 1 1 [fountain] _ (Y.more (by simp)) (by decide)
  refine ⟨trivial, (callsIn_wide.2 hc).mono ?_⟩
  clear hc Y
  rintro e W19 ⟨rfl, hb⟩
  have hbb := hb1.trans (hb.mono hb1.size)
  clear hb hb1
  replace HLay := Lib.hid (HLay.out.below hbb)
  replace HT := Lib.hid (HT.out.below hbb)
  clear hbb
  by_cases hq : 1 ≤ fountain ∧ fountain ≤ m.fountains
  ·
   have hi : inB 1 m.fountains [fountain] = true := by rw [inB_one]; exact decide_eq_true hq
   rw [hi]
   have HGM : Hid (goneM m fountain = 0) := Lib.hid (by unfold goneM; rw [if_pos HK.out, if_pos hq])
   clear hq hi
   gi_wp2
   have HTD := Lib.hid HT.out
   refine ⟨trivial, (callsIn_wide.2 (callsIn_wide.1 (told_in T fountain W19 HTD.out HOK.out))).mono ?_⟩
   rintro e W2 ⟨gU, b, A, n, c, rs, ms, rfl, hb, htr, hn, hcan, hb0⟩
   have HTR := Lib.hid htr
   have HN := Lib.hid hn
   have HCN := Lib.hid hcan
   have HBB := Lib.hid hb0
   clear htr hn hcan hb0
   replace HLay := Lib.hid (HLay.out.below hb)
   replace HT := Lib.hid (HT.out.below hb)
   clear hb
   gi_upto_region 7 with fail
   obtain ⟨V3, hV⟩ : ∃ V, (W2.alloc (.cells #[.pointer (some ⟨gU, 0, none⟩)] 78)) = V := ⟨_, rfl⟩
   rw [hV]
   have hb := fbox_bel hV
   have hnew := fbox_blk hV
   have hge := HLay.out.bel.size
   replace HLay := Lib.hid (HLay.out.below hb)
   replace HT := Lib.hid (HT.out.below hb)
   replace HTR := Lib.hid (HTR.out.below hb)
   replace HLay := Lib.hid (HLay.out.add hge hnew)
   clear hnew hge hb hV
   obtain ⟨G4, hG⟩ : ∃ g, W2.heap.size = g := ⟨_, rfl⟩
   rw [hG] at HLay ⊢
   clear hG
   replace HLay := Lib.hid (show Lay w V3 [(w.heap.size, 47, #[.int .i64 m.fountains, .slice Av nv cv, .slice Aa na ca, .slice At nt ct]), (w.heap.size + 1, 27, #[.int .i64 0, .int .i64 0]), (G4, 78, #[.pointer (some ⟨gU, 0, none⟩)])] from HLay.out)
   cases b with
   | false =>
    have HF : Hid (GoneIs m fountain (0, 0) 8) := Lib.hid (.inr ⟨HGM.out, T.L, HTL.out, .inl ⟨fun h => by have h2 := HBB.out; rw [HTM.out] at h2; simp [h] at h2, rfl, rfl⟩⟩)
    have x1_0 := (HLay.out.blk 1 rfl).cell 0
    have z1_0 := (HLay.out.blk 1 rfl).frozen 0
    have x1_1 := (HLay.out.blk 1 rfl).cell 1
    have z1_1 := (HLay.out.blk 1 rfl).frozen 1
    have l1_ := HLay.out.lt 1 rfl
    gi_wp2
    have R2 := ret2' (HLay.out.blk 1 rfl) HLay.out.1 (HLay.out.ge 1 rfl) (.int .i64 (0)) (.int .i64 (0))
    have v0 := R2.1.cell 0
    have v1 := R2.1.cell 1
    refine bodyPost_ret (v := .tuple #[.agg #[.int .i64 (0), .int .i64 (0)], .int .i64 (8)]) (by simp [results, Tryd.results14, go_sem, v0, v1]) rfl ?_
    exact ⟨_, _, _, rfl, HF.out, R2.2.1⟩
   | true =>
    have HTT : Hid (Truth m fountain T.L 0 zeroH) := Lib.hid (by have h := HBB.out; rw [HTM.out] at h; simpa using h)
    have hkl : na < T.L.length := by have h1 := HOK.out.long; have h2 := HLA.out; rw [HTM.out] at h1; omega
    have hn := HN.out
    rw [HTM.out] at hn
    have hkr : na < rs.length := by have h := HTR.out.own.len; have h2 := HLA.out; simp at h; omega
    have hkm : na < ms.length := by have h := HTR.out.len; have h2 := HLA.out; omega
    have HRK : Hid (rs[na]? = some rs[na]) := Lib.hid (List.getElem?_eq_getElem hkr)
    have HMK : Hid (ms[na]? = some ms[na]) := Lib.hid (List.getElem?_eq_getElem hkm)
    have HCK := Lib.hid (HCN.out na _ HMK.out)
    have HML : Hid (ms[na].length ≤ 28561) := Lib.hid (can_small' HTM.out HOK.out (Nat.le_of_eq HLA.out.symm) (HTR.out.maps na _ _ HRK.out HMK.out) (by rw [← HTM.out]; exact HCK.out))
    have HEX : Hid (∃ n, GonQ (Truth T.m fountain T.L na) (filledM m fountain) n) := Lib.hid (gonq_some HOK.out (by rw [HTM.out]; exact HTT.out) (by rw [HTM.out]; exact HLA.out))
    have HF : Hid (∀ lo hi : Int, IsSpan (GonQ (Truth T.m fountain T.L na) (filledM m fountain)) (lo, hi) → GoneIs m fountain (lo, hi) 0) := Lib.hid fun lo hi hs => .inr ⟨HGM.out, T.L, HTL.out, .inr ⟨HTT.out, rfl, hs.congr (gonq_gonp HTM.out HOK.out HLA.out)⟩⟩
    have HRG := Lib.hid (gon_rng HOK.out hkl (f := fountain))
    have HTRA := Lib.hid (HTR.out.at_ HT.out)
    clear hkl hn HCN HBB HN HTR
    have x0_0 := (HLay.out.blk 0 rfl).cell 0
    have x0_1 := (HLay.out.blk 0 rfl).cell 1
    have x0_2 := (HLay.out.blk 0 rfl).cell 2
    have x0_3 := (HLay.out.blk 0 rfl).cell 3
    have l0_ := HLay.out.lt 0 rfl
    gi_upto_region 10 with fail
    clear x0_0 x0_1 x0_2 x0_3 l0_
    obtain ⟨V9, hV⟩ : ∃ V, (V3.alloc (.cells #[.int .i64 0] 3)) = V := ⟨_, rfl⟩
    rw [hV]
    have HB9 := Lib.hid (fbox_bel hV)
    have HN9 := Lib.hid (fbox_blk hV)
    obtain ⟨G9, hG⟩ : ∃ g, V3.heap.size = g := ⟨_, rfl⟩
    rw [hG] at HN9 ⊢
    have HG9 := Lib.hid hG
    clear hV hG
    have x2 := ((HLay.out.blk 0 rfl).below HB9.out (HLay.out.lt 0 rfl)).cell 2
    have x2l := ((HLay.out.blk 0 rfl).below HB9.out (HLay.out.lt 0 rfl)).lt
    gi_wp2
    clear x2 x2l
    refine wpIn_loop (fun a W => ∃ k : Nat, Hid (k ≤ na ∧ Below V3.heap.size V3 W ∧ Blk W G9 3 #[.int .i64 (filledK m fountain k)]) ∧ FrL (.agg #[.int .i64 m.fountains, .slice Av nv cv, .slice Aa na ca, .slice At nt ct]) (.int .i64 fountain) (.pointer (some ⟨w.heap.size, 0, none⟩)) (.pointer (some ⟨w.heap.size + 1, 0, none⟩)) (.int .i64 0) (.pointer (some ⟨G4, 0, none⟩)) (.pointer (some ⟨G9, 0, none⟩)) (.slice Aa na ca) (.int .i64 na) (.int .i64 k) a)
     (fun a _ => na - (intOf (a.tmps.getD 41 undef)).toNat) ?_ ?_
    ·exact ⟨0, Lib.hid ⟨by omega, HB9.out, HN9.out⟩, by constructor⟩
    clear HB9 HN9
    rintro a W ⟨k, HS, ha⟩
    cases ha
    by_cases hlt : k < na
    ·obtain ⟨x, hx⟩ : ∃ x, m.acts[k]? = some x := ⟨_, List.getElem?_eq_getElem (by have := HLA.out; omega)⟩
     obtain ⟨b, off, x', hAa, hbB, hx', c0, c1, c2, c3⟩ := ((HM.out.at_.below HLay.out.1).more HLay.out.1.size).act hlt
     rw [hx] at hx'
     obtain rfl := Option.some.inj hx'
     have HBA : Hid (b < V3.heap.size) := Lib.hid hbB
     replace c0 := (HS.out.2.1.cell (p := ⟨b, off + k * 4, none⟩) hbB).trans c0
     replace c1 := (HS.out.2.1.cell (p := ⟨b, off + k * 4 + 1, none⟩) hbB).trans c1
     replace c2 := (HS.out.2.1.cell (p := ⟨b, off + k * 4 + 2, none⟩) hbB).trans c2
     replace c3 := (HS.out.2.1.cell (p := ⟨b, off + k * 4 + 3, none⟩) hbB).trans c3
     rw [hAa]
     gi_upto_region 13 with fail
     clear c0 c1 c2 c3
     have hbx : Below W.heap.size W (W.alloc (.cells #[.int .i64 x.kind, .int .i64 x.fr, .int .i64 x.to, .int .i64 x.drops] 43)) := (Below.refl _ _).alloc (Nat.le_refl _) _
     have hnx := Blk.new W 43 #[.int .i64 x.kind, .int .i64 x.fr, .int .i64 x.to, .int .i64 x.drops]
     obtain ⟨gx, hgx⟩ : ∃ g, W.heap.size = g := ⟨_, rfl⟩
     generalize (W.alloc (.cells #[.int .i64 x.kind, .int .i64 x.fr, .int .i64 x.to, .int .i64 x.drops] 43)) = W1 at *
     rw [hgx] at hnx ⊢
     have h9 : Blk W1 G9 3 #[.int .i64 (filledK m fountain k)] := HS.out.2.2.below hbx HS.out.2.2.lt
     have y0 := hnx.cell 0
     have y1 := hnx.cell 1
     have y2 := hnx.cell 2
     have y3 := hnx.cell 3
     have yl := hnx.lt
     have z9 := h9.cell 0
     have zl := h9.lt
     have zf := h9.frozen 0
     have HB1 := Lib.hid (HS.out.2.1.trans (hbx.mono HS.out.2.1.size))
     have H9 := Lib.hid h9
     clear h9 hbx hnx
     have HX := Lib.hid hx
     have hbd := filledK_bd (f := fountain) HOK.out (k := k) (by rw [HTM.out, HLA.out]; omega)
     have hbd2 := filledK_bd (f := fountain) HOK.out (k := k + 1) (by rw [HTM.out, HLA.out]; omega)
     rw [HTM.out] at hbd hbd2
     have hk12 : k + 1 ≤ 12 := by have h1 := HOK.out.acts; rw [HTM.out, HLA.out] at h1; omega
     have hsc := filledK_succ (f := fountain) hx
     clear hx
     by_cases hc : x.kind = 1 ∧ x.fr = fountain
     ·rw [if_pos hc] at hsc
      rw [hsc] at hbd2
      obtain ⟨hc1, hc2⟩ := hc
      gi_wp2
      refine ⟨⟨k + 1, Lib.hid ⟨hlt, HB1.out.setCell (by have := HG9.out; show V3.heap.size ≤ G9; omega) _, by rw [hsc]; exact H9.out.set_ 0 _⟩, by rw [show ((k + 1 : Nat) : Int) = (k : Int) + 1 from by omega]; constructor⟩, ?_⟩
      simp [intOf]
      omega
     ·rw [if_neg hc] at hsc
      have hdone : Hid (k + 1 ≤ na ∧ Below V3.heap.size V3 W1 ∧ Blk W1 G9 3 #[.int .i64 (filledK m fountain (k + 1))]) := Lib.hid ⟨hlt, HB1.out, by rw [hsc]; exact H9.out⟩
      clear hsc
      gi_wp2
      all_goals
       refine ⟨⟨k + 1, hdone, by rw [show ((k + 1 : Nat) : Int) = (k : Int) + 1 from by omega]; constructor⟩, ?_⟩
       simp [intOf]
       omega
    have hkn : na = k := by have := HS.out.1; omega
    subst hkn
    have hfk := HS.out.2.2
    rw [filledK_all HLA.out] at hfk
    have HFD : Hid (0 ≤ filledM m fountain ∧ filledM m fountain ≤ 1000000) := Lib.hid (by
     have h1 := filledK_bd (f := fountain) HOK.out (k := na) (by rw [HTM.out, HLA.out]; exact Nat.le_refl _)
     have h2 := HOK.out.acts
     rw [HTM.out] at h1 h2
     rw [HLA.out] at h2
     rw [filledK_all HLA.out] at h1
     omega)
    have hge : w.heap.size ≤ G9 := by have h1 := HG9.out; have h2 := HLay.out.1.size; omega
    replace HLay := Lib.hid ((HLay.out.below HS.out.2.1).add hge hfk)
    replace HTRA := Lib.hid (HTRA.out.below HS.out.2.1)
    replace HLay := Lib.hid (show Lay w W [(w.heap.size, 47, #[.int .i64 m.fountains, .slice Av nv cv, .slice Aa na ca, .slice At nt ct]), (w.heap.size + 1, 27, #[.int .i64 0, .int .i64 0]), (G4, 78, #[.pointer (some ⟨gU, 0, none⟩)]), (G9, 3, #[.int .i64 (filledM m fountain)])] from HLay.out)
    clear hge hfk hlt HS HG9
    gi_wp2
    refine ⟨trivial, (callsIn_wide.2 (between_any 33 #[.pointer (some ⟨G4, 0, none⟩), .pointer (some ⟨w.heap.size, 0, none⟩), .pointer (some ⟨G9, 0, none⟩)] ms[na].length W (by have := HML.out; omega) enters_gone1 HEX.out (fun w1 hw1 nq hnq => gone1_own nq (by omega) gU T fountain A n c rs ms G4 (w.heap.size) G9 rs[na] ms[na] (Truth T.m fountain T.L na) (filledM m fountain) m Av nv cv Aa na ca At nt ct w1 (HTRA.out.below hw1) ((HLay.out.below hw1).blk 2 rfl) ((HLay.out.below hw1).blk 0 rfl) ((HLay.out.below hw1).blk 3 rfl) HRK.out HMK.out HCK.out HRG.out HFD.out))).mono ?_⟩
    rintro e W5 ⟨lo, hi, rfl, hsp, hb⟩
    have HSP := Lib.hid (HF.out lo hi hsp)
    clear hsp
    replace HLay := Lib.hid (HLay.out.below hb)
    clear hb
    have x1_0 := (HLay.out.blk 1 rfl).cell 0
    have z1_0 := (HLay.out.blk 1 rfl).frozen 0
    have x1_1 := (HLay.out.blk 1 rfl).cell 1
    have z1_1 := (HLay.out.blk 1 rfl).frozen 1
    have l1_ := HLay.out.lt 1 rfl
    gi_wp2
    have R2 := ret2' (HLay.out.blk 1 rfl) HLay.out.1 (HLay.out.ge 1 rfl) (.int .i64 (lo)) (.int .i64 (hi))
    have v0 := R2.1.cell 0
    have v1 := R2.1.cell 1
    refine bodyPost_ret (v := .tuple #[.agg #[.int .i64 (lo), .int .i64 (hi)], .int .i64 (0)]) (by simp [results, Tryd.results14, go_sem, v0, v1]) rfl ?_
    exact ⟨lo, hi, 0, rfl, HSP.out, R2.2.1⟩
  ·
   have hi : inB 1 m.fountains [fountain] = false := by rw [inB_one]; exact decide_eq_false hq
   rw [hi]
   have HF : Hid (GoneIs m fountain (0, 0) 2) := Lib.hid (.inl ⟨by unfold goneM; rw [if_pos HK.out, if_neg hq]; decide, rfl, by unfold goneM; rw [if_pos HK.out, if_neg hq]⟩)
   clear hq hi
   have x1_0 := (HLay.out.blk 1 rfl).cell 0
   have z1_0 := (HLay.out.blk 1 rfl).frozen 0
   have x1_1 := (HLay.out.blk 1 rfl).cell 1
   have z1_1 := (HLay.out.blk 1 rfl).frozen 1
   have l1_ := HLay.out.lt 1 rfl
   gi_wp2
   have R2 := ret2' (HLay.out.blk 1 rfl) HLay.out.1 (HLay.out.ge 1 rfl) (.int .i64 (0)) (.int .i64 (0))
   have v0 := R2.1.cell 0
   have v1 := R2.1.cell 1
   refine bodyPost_ret (v := .tuple #[.agg #[.int .i64 (0), .int .i64 (0)], .int .i64 (2)]) (by simp [results, Tryd.results14, go_sem, v0, v1]) rfl ?_
   exact ⟨_, _, _, rfl, HF.out, R2.2.1⟩

end Go.Proofs.YtjdgdeiedkickaaDoor.Mx
/- mix.Holds. -/
namespace Go.Proofs.YtjdgdeiedkickaaDoor.Mx
open Go.RowKit

/-- What Holds hands back. -/
def HoldsOut (w : World) (m : Mix) (vessel after : Int) (e : Ending) (w' : World) : Prop := ∃ n ee : Int, e = .returned (.tuple #[.int .i64 n, .int .i64 ee]) ∧ HoldsIs m vessel after n ee ∧ Below w.heap.size w w'

set_option maxRecDepth 100000 in
set_option maxHeartbeats 8000000 in
theorem holds_in (Av : Option Addr) (nv cv : Nat) (Aa : Option Addr) (na ca : Nat) (At : Option Addr) (nt ct : Nat) (m : Mix) (vessel after : Int) (w : World) (h : MixS w Av nv Aa na At nt m) :
  CallsIn Fence.wide 9 Tryd.prog 10 #[.agg #[.int .i64 m.fountains, .slice Av nv cv, .slice Aa na ca, .slice At nt ct], .int .i64 vessel, .int .i64 after] w (HoldsOut w m vessel after) := by
 have HM := Lib.hid h
 clear h
 refine callsIn_of_wp Tryd.func10 rfl trivial ?_ rfl
 simp only [Tryd.ntmps10, List.size_toArray, List.length_cons, List.length_nil, Nat.reduceAdd, Nat.reduceSub, Array.replicate_succ, Array.replicate_zero, List.push_toArray, List.append_toArray, List.nil_append, List.cons_append]
 gi_upto_region 1 with fail
 have HLay := Lib.hid (Lay.one w 47 #[.int .i64 m.fountains, .slice Av nv cv, .slice Aa na ca, .slice At nt ct])
 generalize (w.alloc (.cells #[.int .i64 m.fountains, .slice Av nv cv, .slice Aa na ca, .slice At nt ct] 47)) = w0 at *
 have x0_0 := (HLay.out.blk 0 rfl).cell 0
 have x0_1 := (HLay.out.blk 0 rfl).cell 1
 have x0_2 := (HLay.out.blk 0 rfl).cell 2
 have x0_3 := (HLay.out.blk 0 rfl).cell 3
 have l0_ := HLay.out.lt 0 rfl
 gi_wp2
 clear x0_0 x0_1 x0_2 x0_3 l0_
 refine ⟨trivial, (callsIn_wide.2 (callsIn_wide.1 (placed_in Av nv cv Aa na ca At nt ct m vessel after none 0 0 [] w0 (HM.out.up HLay.out.1) Reads.none_ (by unfold maxLen; omega)))).mono ?_⟩
 rintro e W1 ⟨pp, s1, s2, rfl, hb, hp⟩
 have HP := Lib.hid hp
 clear hp
 replace HLay := Lib.hid (HLay.out.below hb)
 clear hb
 obtain ⟨ee, hee⟩ : ∃ ee, askM m vessel after [] = ee := ⟨_, rfl⟩
 rw [hee] at HP ⊢
 have HEE := Lib.hid hee
 clear hee
 by_cases h0 : ee = 0
 ·
  obtain ⟨hk, h1, h2, h3, h4, T, rfl, hTm, hTL, hTg, hT, _⟩ := HP.out h0
  subst h0
  subst h2
  obtain ⟨q, hq⟩ : ∃ q : Nat, s1 = q := ⟨s1.toNat, by omega⟩
  subst hq
  obtain ⟨k, hkk⟩ : ∃ k : Nat, s2 = k := ⟨s2.toNat, by omega⟩
  subst hkk
  have hv4 := (okMix_vess hk).1
  have hq4 : q < 4 := by have := idxV_lt (l := m.vessels) (id := vessel) (by omega); omega
  have hkl : k < T.nl := by have := recs_n heldC_k (by omega) hT.at_.all; have := allM_len _ _ _ hTL; omega
  obtain ⟨bl, ol, all, hAL, hbl, hall, hcl⟩ := recs_cell heldC_k (by omega) hT.at_.all hkl
  have HF : Hid (HoldsIs m vessel (k : Int) (heldAt all (q : Int)) 0) := Lib.hid (.inr ⟨HEE.out, rfl, T.L, all, hTL, hall, by rw [← h1]⟩)
  have HT := Lib.hid hT.at_
  have HAL := Lib.hid hAL
  have HBL := Lib.hid hbl
  have HCE := Lib.hid (hcl q _ (heldC_l all hq4))
  have HKL := Lib.hid hkl
  clear HP hk h1 h3 h4 hTm hTL hTg hT hAL hbl hall hcl hkl hv4
  have B00 := Lib.hid (Below.refl W1.heap.size W1)
  gi_upto_region 4 with fail
  obtain ⟨V2, hV⟩ : ∃ V, (W1.alloc (.cells #[.int .i64 (q : Int), .int .i64 (k : Int)] 70)) = V := ⟨_, rfl⟩
  rw [hV]
  have hb := fbox_bel hV
  have hnew := fbox_blk hV
  have hge := HLay.out.bel.size
  replace HLay := Lib.hid (HLay.out.below hb)
  replace B00 := Lib.hid (B00.out.trans (hb.mono B00.out.size))
  replace HLay := Lib.hid (HLay.out.add hge hnew)
  clear hnew hge hb hV
  obtain ⟨G3, hG⟩ : ∃ g, W1.heap.size = g := ⟨_, rfl⟩
  rw [hG] at HLay ⊢
  clear hG
  replace HLay := Lib.hid (show Lay w V2 [(w.heap.size, 47, #[.int .i64 m.fountains, .slice Av nv cv, .slice Aa na ca, .slice At nt ct]), (G3, 70, #[.int .i64 (q : Int), .int .i64 (k : Int)])] from HLay.out)
  refine wpIn_flow_old [] [true, true, true, true, true, true, true, true, true, true, true, true, true] [] (by kernel_rfl) (by kernel_rfl) (by kernel_rfl) (below_drewN (Below.refl _ _) 1) ?_
  refine wpFlow_nil (A := ?AF1) ?hq1 ?_
  case hq1 =>
   rintro σ hσ of hof hcl
   have HOF := Lib.hid hof
   have HCL := Lib.hid hcl
   clear hof hcl
   have c0_ : ∀ z, (of z).cell? ⟨G3, 0, none⟩ = some (.int .i64 (q : Int)) := fun z => ((HLay.out.below (HOF.out z)).blk 1 rfl).cell 0
   have c1_ : ∀ z, (of z).cell? ⟨G3, 1, none⟩ = some (.int .i64 (k : Int)) := fun z => ((HLay.out.below (HOF.out z)).blk 1 rfl).cell 1
   have hfw : ∀ f, Fence.wide.fn f := fun _ => trivial
   have t4 : ∀ z, (of z).cell? ⟨T.g, 4, none⟩ = some (.slice (some ⟨bl, ol, none⟩) T.nl T.cl) := fun z => by have := ((HT.out.below B00.out).below (HOF.out z)).blk.cell 4; rw [← HAL.out]; exact this
   have ch : ∀ z, (of z).cell? ⟨bl, ol + k * 4 + q, none⟩ = some (.int .i64 (heldAt all (q : Int))) := fun z => ((B00.out.trans ((HOF.out z).mono B00.out.size)).cell (p := ⟨bl, ol + k * 4 + q, none⟩) HBL.out).trans HCE.out
   have hkl := HKL.out
   simp only [pickB]
   repeat (gi_big_quiet_step (fail))
   refine wpQuietIn_nil ?_
   exact rfl
  intro W4 hW
  replace HLay := Lib.hid (HLay.out.below hW)
  replace B00 := Lib.hid (B00.out.trans (hW.mono B00.out.size))
  clear hW
  simp only [pickB]
  refine wpT_nil ?_
  gi_wp2
  refine bodyPost_ret (v := .tuple #[.int .i64 (heldAt all (q : Int)), .int .i64 0]) (by simp [results, Tryd.results10, go_sem]) rfl ?_
  exact ⟨_, _, rfl, HF.out, HLay.out.1⟩
 ·
  have h0b : (ee == 0) = false := by simpa using h0
  have h0c : (ee != 0) = true := by simpa using h0
  have HF : Hid (HoldsIs m vessel after 0 ee) := Lib.hid (.inl ⟨by rw [HEE.out]; exact h0, rfl, HEE.out.symm⟩)
  clear h0 HP
  gi_wp2
  have hbf : Below W1.heap.size W1 (W1.alloc (.cells #[.int .i64 s1, .int .i64 s2] 70)) := (Below.refl _ _).alloc (Nat.le_refl _) _
  refine bodyPost_ret (v := .tuple #[.int .i64 0, .int .i64 ee]) (by simp [results, Tryd.results10, go_sem]) rfl ?_
  exact ⟨_, _, rfl, HF.out, (HLay.out.below hbf).1⟩

end Go.Proofs.YtjdgdeiedkickaaDoor.Mx
/- The answer's within, Place, Link, Town, Great. -/
namespace Go.Proofs.YtjdgdeiedkickaaDoor
open Go.RowKit

theorem within_any (x lo hi : Int) (w : World) : Calls Tryd.prog 15 #[.int .i64 x, .int .i64 lo, .int .i64 hi] w fun e w' => e = .returned (.bool (inB lo hi [x])) ∧ w' = w := by
 have h := inB_one lo hi x
 by_cases h1 : lo ≤ x
 ·by_cases h2 : x ≤ hi
  ·have HI : Hid (inB lo hi [x] = true) := by show _ = _; rw [h]; simp [h1, h2]
   clear h
   go_enter Tryd.func15, Tryd.ntmps15
   go_wp2_with fail
   go_ret
   exact ⟨ret_bool (by rw [HI.out]), rfl⟩
  ·have HI : Hid (inB lo hi [x] = false) := by show _ = _; rw [h]; simp [h2]
   have h3 : hi < x := by omega
   clear h
   go_enter Tryd.func15, Tryd.ntmps15
   go_wp2_with fail
   go_ret
   exact ⟨ret_bool (by rw [HI.out]), rfl⟩
 ·have HI : Hid (inB lo hi [x] = false) := by show _ = _; rw [h]; simp [h1]
  have h3 : decide (lo ≤ x) = false := by simp; omega
  clear h
  go_enter Tryd.func15, Tryd.ntmps15
  go_wp2_with fail
  go_ret
  exact ⟨ret_bool (by rw [HI.out]), rfl⟩

/-- The place of a number; -1 if there is none. -/
def placeI (l : List Int) (id : Int) : Int := idx (fun y => y == id) l
theorem placeI_yes {l : List Int} {id : Int} (h : memI l id = true) : 0 ≤ placeI l id := by
 have := idx_ge (p := fun y => y == id) (l := l)
 unfold placeI
 rw [any_contains] at this
 unfold memI at h
 rw [h] at this
 simpa using this
theorem placeI_no {l : List Int} {id : Int} (h : memI l id = false) : placeI l id < 0 := by
 have := idx_ge (p := fun y => y == id) (l := l)
 unfold placeI
 rw [any_contains] at this
 unfold memI at h
 rw [h] at this
 simpa using this
set_option maxHeartbeats 1000000 in
theorem place_any (A : Option Addr) (n c : Nat) (A' : Option Addr) (m d : Nat) (t : Town) (id : Int) (w : World) (hn : n ≤ maxLen) (ht : IntsAt w w.heap.size A n t.places) :
  Calls Tryd.prog 16 #[.agg #[.slice A n c, .slice A' m d], .int .i64 id] w fun e w' => e = .returned (.int .i64 (placeI t.places id)) ∧ Below w.heap.size w w' := by
 unfold maxLen at hn
 go_enter Tryd.func16, Tryd.ntmps16
 go_wp2_with fail
 have T0 := Blk.new w 25 #[.slice A n c, .slice A' m d]
 have B0 : Below w.heap.size w (w.alloc (.cells #[.slice A n c, .slice A' m d] 25)) := (Below.refl _ _).alloc (Nat.le_refl _) _
 generalize (w.alloc (.cells #[.slice A n c, .slice A' m d] 25)) = w0 at *
 have t0 := T0.cell 0
 go_loop [5] (fun i => ∃ k : Nat, k ≤ n ∧ i = .int .i64 k ∧ (∀ y ∈ t.places.take k, (y == id) = false))
  (fun i => n - (intOf i).toNat)
 case atStart => exact ⟨0, by omega, rfl, by simp⟩
 case round =>
  obtain ⟨k, hk, rfl, hno⟩ := hrel
  have HN := Lib.hid hno
  clear hno
  by_cases hlt : k < n
  ·obtain ⟨b, off, x, rfl, hbB, hx, hc⟩ := (ht.below B0).cell hlt
   have HX := Lib.hid hx
   clear hx
   by_cases hp : x = id
   ·have hp' : (x == id) = true := by simpa using hp
    have HP := Lib.hid hp'
    clear hp
    go_wp2_with fail
    go_ret
    exact ⟨ret_int (idx_some HX.out HP.out HN.out).symm, B0⟩
   ·have hp' : (x == id) = false := by simpa using hp
    have HP := Lib.hid hp'
    clear hp
    go_wp2_with fail
    go_round
    case rel => exact ⟨k + 1, by omega, by go_num, take_snoc_all HX.out HP.out HN.out⟩
    case measure => simp [intOf]; omega
  ·go_wp2_with fail
   go_ret
   exact ⟨ret_int (idx_none (by
    have := HN.out
    rwa [List.take_of_length_le (by have := ht.len; omega)] at this)).symm, B0⟩

theorem hasB2 (t : Town) (a b : Int) : hasB t [a, b] = (memI t.places a && memI t.places b) := by
 unfold hasB
 cases h1 : memI t.places a <;> cases h2 : memI t.places b <;> simp [h1, h2]

theorem linkB_unf (t : Town) (last : Int) (x : Link) : linkB t last x = (inB (last + 1) 9999 [x.id] && memI t.places x.fr && memI t.places x.to && !(x.fr == x.to) && inB 0 500 [x.steps] && inB 1 2000 [x.paces]) := by
 unfold linkB
 rw [hasB2]
 cases inB (last + 1) 9999 [x.id] <;> cases memI t.places x.fr <;> cases memI t.places x.to <;> cases (x.fr == x.to) <;> cases inB 0 500 [x.steps] <;> cases inB 1 2000 [x.paces] <;> rfl

set_option maxRecDepth 100000 in
set_option maxHeartbeats 4000000 in
theorem rtown_any (A : Option Addr) (n c : Nat) (A' : Option Addr) (m d : Nat) (t : Town) (w : World) (hn : n ≤ 1000) (hm : m ≤ 1000) (ht : TownAt w w.heap.size A n A' m t) :
  Calls Tryd.prog 6 #[.agg #[.slice A n c, .slice A' m d]] w fun e w' => e = .returned (.bool (townB t)) ∧ Below w.heap.size w w' := by
 have hln := ht.places.len
 have hlm := ht.links.len
 have HT := Lib.hid ht
 have hn1 : n ≤ maxLen := by unfold maxLen; omega
 have hU : townB t = (inB 1 9 [(n : Int)] && decide ((m : Int) ≤ 20) && upB 0 t.places && linksB t 0 t.links) := by
  unfold townB sizeB
  rw [hln, hlm]
  have : decide (m ≤ 20) = decide ((m : Int) ≤ 20) := by simp; omega
  rw [this]
 have HN := Lib.hid hln
 have HM := Lib.hid hlm
 have HTB := Lib.hid hU
 clear ht hln hlm hU
 go_enter Tryd.func6, Tryd.ntmps6
 go_wp2_with fail
 have T0 := Blk.new w 25 #[.slice A n c, .slice A' m d]
 have B0 : Below w.heap.size w (w.alloc (.cells #[.slice A n c, .slice A' m d] 25)) := (Below.refl _ _).alloc (Nat.le_refl _) _
 generalize (w.alloc (.cells #[.slice A n c, .slice A' m d] 25)) = w0 at *
 have t0 := T0.cell 0
 have t1 := T0.cell 1
 with_reducible refine (within_any (n : Int) 1 9 w0).mono ?_
 rintro e w0 ⟨rfl, rfl⟩
 cases hi1 : inB 1 9 [(n : Int)] with
 | false =>
  have HI := Lib.hid hi1
  clear hi1
  go_wp2_with fail
  go_ret
  exact ⟨ret_bool (by rw [HTB.out, HI.out]; rfl), B0⟩
 | true =>
 have HI := Lib.hid hi1
 clear hi1
 by_cases h20 : (20 : Int) < (m : Int)
 ·go_wp2_with fail
  go_ret
  exact ⟨ret_bool (by rw [HTB.out, HI.out, show decide ((m : Int) ≤ 20) = false by simp; omega]; rfl), B0⟩
 have h20' : m ≤ 20 := by omega
 have h20d : decide ((20 : Int) < (m : Int)) = false := by simp; omega
 clear h20
 go_wp2_with fail
 go_loop [3, 22] (fun last i => ∃ (k : Nat) (z : Int), k ≤ n ∧ i = .int .i64 k ∧ last = .int .i64 z ∧ 0 ≤ z ∧ z ≤ 9999 ∧ upB 0 t.places = upB z (t.places.drop k))
  (fun _ i => n - (intOf i).toNat)
 case atStart => exact ⟨0, 0, by omega, rfl, rfl, by omega, by omega, by simp⟩
 case round =>
  obtain ⟨k, z, hk, rfl, rfl, hz0, hz1, hu⟩ := hrel
  have HU := Lib.hid hu
  clear hu
  by_cases hlt : k < n
  ·obtain ⟨b, off, x, rfl, hbB, hx, hc⟩ := (HT.out.places.below B0).cell hlt
   have HX := Lib.hid hx
   clear hx
   go_wp2_with fail
   with_reducible refine (within_any x (z + 1) 9999 _).mono ?_
   rintro e w0 ⟨rfl, rfl⟩
   cases hi : inB (z + 1) 9999 [x] with
   | true =>
    have HI2 := Lib.hid hi
    have hxz := inB_iff.1 hi
    clear hi
    go_wp2_with fail
    go_round
    case rel => exact ⟨k + 1, x, by omega, by go_num, rfl, by omega, by omega, by rw [HU.out, upB_drop HX.out, HI2.out]; rfl⟩
    case measure => simp [intOf]; omega
   | false =>
    have HI2 := Lib.hid hi
    clear hi
    go_wp2_with fail
    go_ret
    exact ⟨ret_bool (by rw [HTB.out, HU.out, upB_drop HX.out, HI2.out]; simp), B0⟩
  ·have HUP : Hid (upB 0 t.places = true) := by
    show _ = _
    rw [HU.out, List.drop_eq_nil_of_le (by have := HN.out; omega)]; rfl
   clear hz0 hz1 HU hk
   go_wp2_with fail
   go_loopw [3, 36] (fun last i wr => ∃ (k : Nat) (z : Int), k ≤ m ∧ i = .int .i64 k ∧ last = .int .i64 z ∧ 0 ≤ z ∧ z ≤ 9999 ∧ linksB t 0 t.links = linksB t z (t.links.drop k) ∧ Below w0.heap.size w0 wr)
    (fun _ i _ => m - (intOf i).toNat)
   case atStart => exact ⟨0, 0, by omega, rfl, rfl, by omega, by omega, by simp, Below.refl _ _⟩
   case round =>
    obtain ⟨k, z, hk, rfl, rfl, hz0, hz1, hu, hb⟩ := hrel
    have HU := Lib.hid hu
    clear hu
    have TR := T0.below hb T0.lt
    have BR := B0.trans (hb.mono B0.size)
    clear t0 t1
    by_cases hlt : k < m
    ·obtain ⟨b, off, x, rfl, hbB, hx, hc0, hc1, hc2, hc3, hc4⟩ := (HT.out.links.below BR).cell hlt
     have HX := Lib.hid hx
     clear hx
     have HTR := Lib.hid TR
     clear TR
     go_wp2_with fail
     have X1 := Lib.hid (Blk.new wr 58 #[.int .i64 x.id, .int .i64 x.fr, .int .i64 x.to, .int .i64 x.steps, .int .i64 x.paces])
     have T1 := Lib.hid (HTR.out.alloc (.cells #[.int .i64 x.id, .int .i64 x.fr, .int .i64 x.to, .int .i64 x.steps, .int .i64 x.paces] 58))
     have B1 := BR.alloc BR.size (.cells #[.int .i64 x.id, .int .i64 x.fr, .int .i64 x.to, .int .i64 x.steps, .int .i64 x.paces] 58)
     have b1 := hb.alloc hb.size (.cells #[.int .i64 x.id, .int .i64 x.fr, .int .i64 x.to, .int .i64 x.steps, .int .i64 x.paces] 58)
     clear hc0 hc1 hc2 hc3 hc4
     generalize (wr.alloc (.cells #[.int .i64 x.id, .int .i64 x.fr, .int .i64 x.to, .int .i64 x.steps, .int .i64 x.paces] 58)) = w1 at *
     with_reducible refine (within_any x.id (z + 1) 9999 w1).mono ?_
     rintro e w1 ⟨rfl, rfl⟩
     have t0 := T1.out.cell 0
     have t1 := T1.out.cell 1
     have x0 := X1.out.cell 0
     have x1 := X1.out.cell 1
     have x2 := X1.out.cell 2
     have x3 := X1.out.cell 3
     have x4 := X1.out.cell 4
     cases hi1 : inB (z + 1) 9999 [x.id] with
     | false =>
      have HF : Hid (linkB t z x = false) := by show _ = _; rw [linkB_unf, hi1]; rfl
      clear hi1
      go_wp2_with fail
      go_ret
      exact ⟨ret_bool (by rw [HTB.out, HU.out, linksB_drop HX.out, HF.out]; simp), B1⟩
     | true =>
     have HI1 := Lib.hid hi1
     have hxz := inB_iff.1 hi1
     clear hi1
     go_wp2_with fail
     with_reducible refine (place_any A n c _ m d t x.fr w1 hn1 ((HT.out.places.below B1).more B1.size)).mono ?_
     rintro e w2 ⟨rfl, hb2⟩
     have X2 := Lib.hid (X1.out.below hb2 X1.out.lt)
     have T2 := Lib.hid (T1.out.below hb2 T1.out.lt)
     have B2 := B1.trans (hb2.mono B1.size)
     have b2 := b1.trans (hb2.mono b1.size)
     clear hb2 t0 t1 x0 x1 x2 x3 x4 B1 b1
     have t0 := T2.out.cell 0
     have t1 := T2.out.cell 1
     have x1 := X2.out.cell 1
     have x2 := X2.out.cell 2
     have x3 := X2.out.cell 3
     have x4 := X2.out.cell 4
     cases hi2 : memI t.places x.fr with
     | false =>
      have HF : Hid (linkB t z x = false) := by show _ = _; rw [linkB_unf, hi2]; simp
      have hneg := placeI_no hi2
      clear hi2
      go_wp2_with fail
      go_ret
      exact ⟨ret_bool (by rw [HTB.out, HU.out, linksB_drop HX.out, HF.out]; simp), B2⟩
     | true =>
     have HI2 := Lib.hid hi2
     have hpf := placeI_yes hi2
     clear hi2
     go_wp2_with fail
     with_reducible refine (place_any A n c _ m d t x.to w2 hn1 ((HT.out.places.below B2).more B2.size)).mono ?_
     rintro e w3 ⟨rfl, hb3⟩
     have X3 := Lib.hid (X2.out.below hb3 X2.out.lt)
     have T3 := Lib.hid (T2.out.below hb3 T2.out.lt)
     have B3 := B2.trans (hb3.mono B2.size)
     have b3 := b2.trans (hb3.mono b2.size)
     clear hb3 t0 t1 x1 x2 x3 x4 B2 b2
     have x1 := X3.out.cell 1
     have x2 := X3.out.cell 2
     have x3 := X3.out.cell 3
     have x4 := X3.out.cell 4
     cases hi3 : memI t.places x.to with
     | false =>
      have HF : Hid (linkB t z x = false) := by show _ = _; rw [linkB_unf, hi3]; simp
      have hneg := placeI_no hi3
      clear hi3
      go_wp2_with fail
      go_ret
      exact ⟨ret_bool (by rw [HTB.out, HU.out, linksB_drop HX.out, HF.out]; simp), B3⟩
     | true =>
     have HI3 := Lib.hid hi3
     have hpt := placeI_yes hi3
     clear hi3
     by_cases he : x.fr = x.to
     ·have HF : Hid (linkB t z x = false) := by show _ = _; rw [linkB_unf, he]; simp
      have he' : (x.fr == x.to) = true := by simpa using he
      clear he
      go_wp2_with fail
      go_ret
      exact ⟨ret_bool (by rw [HTB.out, HU.out, linksB_drop HX.out, HF.out]; simp), B3⟩
     have he2 : (x.fr == x.to) = false := by simpa using he
     have HE := Lib.hid he2
     clear he
     go_wp2_with fail
     with_reducible refine (within_any x.steps 0 500 w3).mono ?_
     rintro e w3 ⟨rfl, rfl⟩
     cases hi4 : inB 0 500 [x.steps] with
     | false =>
      have HF : Hid (linkB t z x = false) := by show _ = _; rw [linkB_unf, hi4]; simp
      clear hi4
      go_wp2_with fail
      go_ret
      exact ⟨ret_bool (by rw [HTB.out, HU.out, linksB_drop HX.out, HF.out]; simp), B3⟩
     | true =>
     have HI4 := Lib.hid hi4
     clear hi4
     go_wp2_with fail
     with_reducible refine (within_any x.paces 1 2000 w3).mono ?_
     rintro e w3 ⟨rfl, rfl⟩
     cases hi5 : inB 1 2000 [x.paces] with
     | false =>
      have HF : Hid (linkB t z x = false) := by show _ = _; rw [linkB_unf, hi5]; simp
      clear hi5
      go_wp2_with fail
      go_ret
      exact ⟨ret_bool (by rw [HTB.out, HU.out, linksB_drop HX.out, HF.out]; simp), B3⟩
     | true =>
     have HF : Hid (linkB t z x = true) := by show _ = _; rw [linkB_unf, HI1.out, HI2.out, HI3.out, HE.out, HI4.out, hi5]; rfl
     have x0 := X3.out.cell 0
     clear hi5
     go_wp2_with fail
     go_roundw
     case rel => exact ⟨k + 1, x.id, by omega, by go_num, rfl, by omega, by omega, by rw [HU.out, linksB_drop HX.out, HF.out]; rfl, b3⟩
     case measure => simp [intOf]; omega
    ·go_wp2_with fail
     go_ret
     exact ⟨ret_bool (by rw [HTB.out, HI.out, HUP.out, HU.out, List.drop_eq_nil_of_le (by have := HM.out; omega)]; simp [linksB]; omega), BR⟩
end Go.Proofs.YtjdgdeiedkickaaDoor
/- The answer's spans, skins and gaits. -/
namespace Go.Proofs.YtjdgdeiedkickaaDoor
open Go.RowKit

theorem inB_span (most : Int) (x : Span) : (inB 0 most [x.hi] && inB 0 x.hi [x.lo]) = spanB most x := by
 unfold spanB inB
 simp only [List.any_cons, List.any_nil, Bool.or_false]
 by_cases h1 : x.hi < 0 <;> by_cases h2 : most < x.hi <;> by_cases h3 : x.lo < 0 <;> by_cases h4 : x.hi < x.lo <;> simp [h1, h2, h3, h4] <;> omega

set_option maxRecDepth 100000 in
set_option maxHeartbeats 2000000 in
theorem rspanned_any (x : Span) (most : Int) (w : World) :
  Calls Tryd.prog 17 #[.agg #[.int .i64 x.lo, .int .i64 x.hi], .int .i64 most] w fun e w' => e = .returned (.bool (spanB most x)) ∧ Below w.heap.size w w' := by
 have HS := Lib.hid (inB_span most x)
 have B0 : Below w.heap.size w (w.alloc (.cells #[.int .i64 x.lo, .int .i64 x.hi] 27)) := (Below.refl _ _).alloc (Nat.le_refl _) _
 go_enter Tryd.func17, Tryd.ntmps17
 go_wp2_with fail
 refine (within_any x.hi 0 most _).mono ?_
 rintro e w1 ⟨rfl, rfl⟩
 cases hi : inB 0 most [x.hi] with
 | false =>
  have HI := Lib.hid hi
  clear hi
  go_wp2_with fail
  go_ret
  exact ⟨ret_bool (by rw [← HS.out, HI.out]; rfl), B0⟩
 | true =>
  have HI := Lib.hid hi
  clear hi
  go_wp2_with fail
  refine (within_any x.lo 0 x.hi _).mono ?_
  rintro e w1 ⟨rfl, rfl⟩
  go_wp2_with fail
  go_ret
  exact ⟨ret_bool (by rw [← HS.out, HI.out]; rfl), B0⟩

set_option maxRecDepth 100000 in
set_option maxHeartbeats 2000000 in
theorem rskin_any (s : Skin) (w : World) :
  Calls Tryd.prog 7 #[.agg #[.int .i64 s.drops, .int .i64 s.pace.lo, .int .i64 s.pace.hi, .int .i64 s.step.lo, .int .i64 s.step.hi]] w fun e w' => e = .returned (.bool (skinB s)) ∧ Below w.heap.size w w' := by
 have hs : skinB s = (inB 0 100000 [s.drops] && (spanB 50 s.pace && spanB 50 s.step)) := by
  unfold skinB spansB
  simp [Bool.not_or]
 have HS := Lib.hid hs
 clear hs
 go_enter Tryd.func7, Tryd.ntmps7
 go_wp2_with fail
 refine (within_any s.drops 0 100000 _).mono ?_
 rintro e w1 ⟨rfl, rfl⟩
 have B0 : Below w.heap.size w (w.alloc (.cells #[.int .i64 s.drops, .int .i64 s.pace.lo, .int .i64 s.pace.hi, .int .i64 s.step.lo, .int .i64 s.step.hi] 29)) := (Below.refl _ _).alloc (Nat.le_refl _) _
 have X0 := Blk.new w 29 #[.int .i64 s.drops, .int .i64 s.pace.lo, .int .i64 s.pace.hi, .int .i64 s.step.lo, .int .i64 s.step.hi]
 cases hi : inB 0 100000 [s.drops] with
 | false =>
  have HI := Lib.hid hi
  clear hi
  go_wp2_with fail
  go_ret
  exact ⟨ret_bool (by rw [HS.out, HI.out]; rfl), B0⟩
 | true =>
  have HI := Lib.hid hi
  clear hi
  go_wp2_with fail
  refine (rspanned_any s.pace 50 _).mono ?_
  rintro e w1 ⟨rfl, hb1⟩
  have X1 := X0.below hb1 X0.lt
  have B1 := B0.trans (hb1.mono B0.size)
  have x3 := X1.cell 3
  have x4 := X1.cell 4
  clear X0 hb1 B0 X1
  cases hj : spanB 50 s.pace with
  | false =>
   have HJ := Lib.hid hj
   clear hj
   go_wp2_with fail
   go_ret
   exact ⟨ret_bool (by rw [HS.out, HI.out, HJ.out]; rfl), B1⟩
  | true =>
   have HJ := Lib.hid hj
   clear hj
   go_wp2_with fail
   refine (rspanned_any s.step 50 _).mono ?_
   rintro e w2 ⟨rfl, hb2⟩
   have B2 := B1.trans (hb2.mono B1.size)
   clear hb2
   go_wp2_with fail
   go_ret
   exact ⟨ret_bool (by rw [HS.out, HI.out, HJ.out]; rfl), B2⟩

end Go.Proofs.YtjdgdeiedkickaaDoor
/- The answer's Great, for TopWet's seat. -/
namespace Go.Proofs.YtjdgdeiedkickaaDoor
open Go.RowKit

set_option maxRecDepth 100000
def greatB (n m : Nat) : Bool := decide (20 < n) || decide (40 < m)
set_option maxHeartbeats 1000000 in
theorem great_any (A : Option Addr) (n c : Nat) (A' : Option Addr) (m d : Nat) (w : World) :
  Calls Tryd.prog 5 #[.agg #[.slice A n c, .slice A' m d]] w fun e w' => e = .returned (.bool (greatB n m)) ∧ Below w.heap.size w w' := by
 by_cases h1 : 20 < n
 ·have HG : Hid (greatB n m = true) := by show _ = _; unfold greatB; simp [h1]
  have h1' : (20 : Int) < (n : Int) := by omega
  clear h1
  go_enter Tryd.func5, Tryd.ntmps5
  go_wp2_with fail
  go_ret
  exact ⟨ret_bool HG.out.symm, (Below.refl _ _).alloc (Nat.le_refl _) _⟩
 ·have h1' : decide ((20 : Int) < (n : Int)) = false := by simp; omega
  by_cases h2 : 40 < m
  ·have HG : Hid (greatB n m = true) := by show _ = _; unfold greatB; simp [h2]
   have h2' : (40 : Int) < (m : Int) := by omega
   clear h1 h2
   go_enter Tryd.func5, Tryd.ntmps5
   go_wp2_with fail
   go_ret
   exact ⟨ret_bool HG.out.symm, (Below.refl _ _).alloc (Nat.le_refl _) _⟩
  ·have HG : Hid (greatB n m = false) := by show _ = _; unfold greatB; simp [h1, h2]
   have h2' : ¬ (40 : Int) < (m : Int) := by omega
   clear h1 h2
   go_enter Tryd.func5, Tryd.ntmps5
   go_wp2_with fail
   go_ret
   exact ⟨ret_bool HG.out.symm, (Below.refl _ _).alloc (Nat.le_refl _) _⟩
theorem great_small {n m : Nat} (h : greatB n m = false) : n ≤ 20 ∧ m ≤ 40 := by unfold greatB at h; simp at h; omega
end Go.Proofs.YtjdgdeiedkickaaDoor
/- TopWet's walks: a stroll by bytes, each to the next link that leads on. -/
namespace Go.Proofs.YtjdgdeiedkickaaDoor
open Go.RowKit

/-- A slice of bytes. -/
def BytesAt (w : World) (B : Nat) (A : Option Addr) (n : Nat) (l : List Nat) : Prop := Reads w B 1 A n (l.map fun b => Value.int .u8 (b : Nat)) ∧ ∀ b ∈ l, b ≤ 255
theorem BytesAt.len {w : World} {B n : Nat} {A : Option Addr} {l : List Nat} (h : BytesAt w B A n l) : l.length = n := by have := h.1.1; simpa using this
theorem BytesAt.below {w w' : World} {B n : Nat} {A : Option Addr} {l : List Nat} (h : BytesAt w B A n l) (hb : Below B w w') : BytesAt w' B A n l := ⟨h.1.below hb, h.2⟩
theorem BytesAt.more {w : World} {B B' n : Nat} {A : Option Addr} {l : List Nat} (h : BytesAt w B A n l) (hB : B ≤ B') : BytesAt w B' A n l := ⟨h.1.more hB, h.2⟩
theorem BytesAt.cell {w : World} {B n : Nat} {A : Option Addr} {l : List Nat} (h : BytesAt w B A n l) {k : Nat} (hk : k < n) : ∃ b off x, A = some ⟨b, off, none⟩ ∧ b < B ∧ l[k]? = some x ∧ w.cell? ⟨b, off + k, none⟩ = some (.int .u8 (x : Nat)) ∧ x ≤ 255 := by
 have hl := h.len
 obtain ⟨b, off, e, hb, hc⟩ := Reads.plain h.1 (by simp; omega)
 have hx : l[k]? = some l[k] := List.getElem?_eq_getElem (by omega)
 exact ⟨b, off, _, e, hb, hx, hc k _ (by rw [List.getElem?_map, hx]; rfl), h.2 _ (List.getElem_mem _)⟩
theorem back_wrap {x y a : Int} (hf : 1 ≤ x ∧ x ≤ 9999) (ht : 1 ≤ y ∧ y ≤ 9999) (ha : a = x ∨ a = y) : IntKind.i64.wrap (x + y) = x + y ∧ IntKind.i64.wrap (x + y - a) = x + y - a :=
 ⟨IntWalk.i64_in _ (by omega), IntWalk.i64_in _ (by rcases ha with rfl | rfl <;> omega)⟩

def WalksOut (w : World) (t : Town) (u v : Int) (n : Nat) (e : Ending) (w' : World) : Prop :=
 ∃ (g : Gone) (l : List Int) (B : Option Addr) (q : Nat), e = .returned (.tuple #[.slice B l.length q, .bool (g.at_ == v)]) ∧ Strolled t false u n g l ∧ Own w' w.heap.size 3 1 B l.length q (l.map (Value.int .i64)) ∧ Below w.heap.size w w' ∧ l.length ≤ q

set_option maxRecDepth 100000 in
set_option maxHeartbeats 8000000 in
theorem walks_any (A : Option Addr) (n c : Nat) (A' : Option Addr) (m d : Nat) (t : Town) (u v : Int) (A2 : Option Addr) (n2 c2 : Nat) (l : List Nat) (w : World) (hm : m ≤ 20) (hk : n2 ≤ maxLen) (ht : LinksAt w w.heap.size A' m t.links) (hf : Fine t) (hp : ∀ x ∈ t.places, 1 ≤ x ∧ x ≤ 9999) (hr : BytesAt w w.heap.size A2 n2 l) :
  Calls Tryd.prog 8 #[.agg #[.slice A n c, .slice A' m d], .int .i64 u, .int .i64 v, .slice A2 n2 c2] w (WalksOut w t u v n2) := by
 unfold maxLen at hk
 have HT := Lib.hid ht
 have HR := Lib.hid hr
 have HF := Lib.hid hf
 have HP := Lib.hid hp
 have HLm := Lib.hid ht.len
 clear ht hr hf hp
 have HLay := Lib.hid (Lay.one w 25 #[.slice A n c, .slice A' m d])
 go_enter Tryd.func8, Tryd.ntmps8
 go_upto_region 2 with fail
 generalize (w.alloc (.cells #[.slice A n c, .slice A' m d] 25)) = w0 at *
 have HW0 : Hid (w.heap.size < w0.heap.size) := Lib.hid (HLay.out.lt 0 rfl)
 go_wp2_with fail
 go_loopw [10, 11, 19] (fun v10 v11 v19 wr => ∃ (k q : Nat) (B : Option Addr) (g : Gone) (ls : List Int), k ≤ n2 ∧ v19 = .int .i64 k ∧ v10 = .int .i64 g.at_ ∧ v11 = .slice B ls.length q ∧ ls.length ≤ 40 ∧ Hid (Lay w wr [(w.heap.size, 25, #[.slice A n c, .slice A' m d])] ∧ Own wr w0.heap.size 3 1 B ls.length q (ls.map (Value.int .i64)) ∧ w0.heap.size ≤ wr.heap.size ∧ GW t false (startG u) ls g ∧ ls.length ≤ k))
  (fun _ _ vi _ => n2 - (intOf vi).toNat)
 case atStart => exact ⟨0, 0, none, startG u, [], by omega, rfl, rfl, rfl, by simp, Lib.hid ⟨HLay.out, Own.none_ _ _ _ _, Nat.le_refl _, .nil _, by simp⟩⟩
 case round =>
  obtain ⟨k, q, B, g, ls, hkk, rfl, rfl, rfl, h40, HS⟩ := hrel
  by_cases hlt : k < n2
  ·obtain ⟨b1, o1, x, rfl, hb1, hx, cx, hx255⟩ := (HR.out.below HS.out.1.1).cell hlt
   have y1 := (HS.out.1.blk 0 rfl).cell 1
   have ly := HS.out.1.lt 0 rfl
   clear hx hb1
   by_cases hstop : g.at_ = v ∨ ls.length = 40
   ·have hst3 : (((g.at_ == v) = true) ∨ ((g.at_ == v) = false ∧ (((ls.length : Nat) : Int) == 40) = true)) := by
     by_cases e1 : g.at_ = v
     ·exact .inl (by simpa using e1)
     ·refine .inr ⟨by simpa using e1, ?_⟩
      rcases hstop with h | h
      ·exact absurd h e1
      ·simp; omega
    clear hstop
    rcases hst3 with e1 | ⟨e1, e3⟩
    all_goals
     have e1' := e1
     simp only [beq_iff_eq, beq_eq_false_iff_ne, ne_eq] at e1'
     go_wp2_with fail
     refine bodyPost_ret (v := .tuple #[.slice B ls.length q, .bool (g.at_ == v)]) (by simp [results, Tryd.results8, go_sem, e1']) rfl ⟨g, ls, B, q, rfl, ⟨HS.out.2.2.2.1, h40, by have := HS.out.2.2.2.2; omega⟩, HS.out.2.1.mono (by have := HW0.out; omega), HS.out.1.1, HS.out.2.1.cap_le.1⟩
   ·simp only [not_or] at hstop
    obtain ⟨hs1, hs3⟩ := hstop
    have hs1' : (g.at_ == v) = false := by simpa using hs1
    have hs3' : (((ls.length : Nat) : Int) == 40) = false := by simp; omega
    have h39 : ls.length ≤ 39 := by omega
    clear hs1 hs3
    go_wp2_with fail
    clear y1 ly cx hs1' hs3'
    go_loopw [10, 11, 34] (fun v10 v11 v34 wr2 => ∃ (j : Nat), j ≤ m ∧ v34 = .int .i64 j ∧ v10 = .int .i64 g.at_ ∧ v11 = .slice B ls.length q ∧ Hid (Lay w wr2 [(w.heap.size, 25, #[.slice A n c, .slice A' m d])] ∧ Own wr2 w0.heap.size 3 1 B ls.length q (ls.map (Value.int .i64)) ∧ w0.heap.size ≤ wr2.heap.size))
     (fun _ _ vj _ => m - (intOf vj).toNat)
    case atStart => exact ⟨0, by omega, rfl, rfl, rfl, Lib.hid ⟨HS.out.1, HS.out.2.1, HS.out.2.2.1⟩⟩
    case round =>
     rename World => wr2
     obtain ⟨j, hj, rfl, rfl, rfl, HJ⟩ := hrel
     by_cases hjm : j < m
     ·have hm0 : 0 < m := by omega
      have hrm : (x + j) % m < m := Nat.mod_lt _ hm0
      have HM : Hid (Int.tmod ((x : Int) + (j : Int)) (m : Int) = (((x + j) % m : Nat) : Int)) := Lib.hid (by rw [Int.tmod_eq_emod_of_nonneg (by omega)]; push_cast; rfl)
      obtain ⟨r, hrq⟩ : ∃ r, (x + j) % m = r := ⟨_, rfl⟩
      rw [hrq] at HM hrm
      obtain ⟨b2, off2, y, rfl, hb2, hy, h0, h1, h2, h3, h4⟩ := (HT.out.below HJ.out.1.1).cell hrm
      have HY := Lib.hid hy
      have hbl2 : b2 < wr2.heap.size := Nat.lt_of_lt_of_le hb2 HJ.out.1.1.size
      clear hy hrq
      have K0 : wr2.drew.cell? ⟨w.heap.size, 1, none⟩ = some (.slice (some ⟨b2, off2, none⟩) m d) ∧ wr2.drew.cell? ⟨b2, off2 + r * 5, none⟩ = some (.int .i64 y.id) ∧ wr2.drew.cell? ⟨b2, off2 + r * 5 + 1, none⟩ = some (.int .i64 y.fr) ∧ wr2.drew.cell? ⟨b2, off2 + r * 5 + 2, none⟩ = some (.int .i64 y.to) ∧ wr2.drew.cell? ⟨b2, off2 + r * 5 + 3, none⟩ = some (.int .i64 y.steps) ∧ wr2.drew.cell? ⟨b2, off2 + r * 5 + 4, none⟩ = some (.int .i64 y.paces) := ⟨(HJ.out.1.blk 0 rfl).cell 1, h0, h1, h2, h3, h4⟩
      have lyt := HJ.out.1.lt 0 rfl
      have KK := Lib.hid (fun (W' : World) (hb : Below wr2.heap.size wr2 W') => (show W'.cell? ⟨w.heap.size, 1, none⟩ = some (.slice (some ⟨b2, off2, none⟩) m d) ∧ W'.cell? ⟨b2, off2 + r * 5, none⟩ = some (.int .i64 y.id) ∧ W'.cell? ⟨b2, off2 + r * 5 + 1, none⟩ = some (.int .i64 y.fr) ∧ W'.cell? ⟨b2, off2 + r * 5 + 2, none⟩ = some (.int .i64 y.to) ∧ W'.cell? ⟨b2, off2 + r * 5 + 3, none⟩ = some (.int .i64 y.steps) ∧ W'.cell? ⟨b2, off2 + r * 5 + 4, none⟩ = some (.int .i64 y.paces) from ⟨(hb.cell (p := ⟨w.heap.size, 1, none⟩) (HJ.out.1.lt 0 rfl)).trans ((HJ.out.1.blk 0 rfl).cell 1), (hb.cell (p := ⟨b2, off2 + r * 5, none⟩) hbl2).trans h0, (hb.cell (p := ⟨b2, off2 + r * 5 + 1, none⟩) hbl2).trans h1, (hb.cell (p := ⟨b2, off2 + r * 5 + 2, none⟩) hbl2).trans h2, (hb.cell (p := ⟨b2, off2 + r * 5 + 3, none⟩) hbl2).trans h3, (hb.cell (p := ⟨b2, off2 + r * 5 + 4, none⟩) hbl2).trans h4⟩))
      have r0 : (0 : Int) ≤ (r : Int) := by omega
      have rm : (r : Int) < (m : Int) := by omega
      have wxj : IntKind.i64.wrap ((x : Int) + (j : Int)) = (x : Int) + (j : Int) := IntWalk.i64_in _ (by omega)
      have hm1 : ((m : Nat) : Int) ≠ 0 := by omega
      have htm := HM.out
      have hmn : ¬ m = 0 := by omega
      have hmn2 : (m == 0) = false := by simp; omega
      have wx : IntKind.i64.wrap (x : Int) = (x : Int) := IntWalk.i64_in _ (by omega)
      have hmz : (((m : Nat) : Int) == 0) = false := by simp; omega
      have wrr : IntKind.i64.wrap (r : Int) = (r : Int) := IntWalk.i64_in _ (by omega)
      go_wp2_with fail
      go_region_held3 (fun w' => w'.cell? ⟨w.heap.size, 1, none⟩ = some (.slice (some ⟨b2, off2, none⟩) m d) ∧ w'.cell? ⟨b2, off2 + r * 5, none⟩ = some (.int .i64 y.id) ∧ w'.cell? ⟨b2, off2 + r * 5 + 1, none⟩ = some (.int .i64 y.fr) ∧ w'.cell? ⟨b2, off2 + r * 5 + 2, none⟩ = some (.int .i64 y.to) ∧ w'.cell? ⟨b2, off2 + r * 5 + 3, none⟩ = some (.int .i64 y.steps) ∧ w'.cell? ⟨b2, off2 + r * 5 + 4, none⟩ = some (.int .i64 y.paces))
       (first | with_reducible assumption | exact KK.out _ (below_drewN ((Below.refl wr2.heap.size wr2).alloc (Nat.le_refl _) _) 1) | exact KK.out _ (below_drewN ((((((Below.refl wr2.heap.size wr2).alloc (Nat.le_refl _) _).setCell (Nat.le_refl _) _).setCell (Nat.le_refl _) _).setCell (Nat.le_refl _) _).setCell (Nat.le_refl _) _) 1) | go_keep) (fail)
      have X1 := Lib.hid ((Blk.new wr2 58 #[.int .i64 y.id, .int .i64 y.fr, .int .i64 y.to, .int .i64 y.steps, .int .i64 y.paces]).drewN 1)
      have HB3 : Below wr2.heap.size wr2 (wr2.alloc (.cells #[.int .i64 y.id, .int .i64 y.fr, .int .i64 y.to, .int .i64 y.steps, .int .i64 y.paces] 58)).drew := below_drewN ((Below.refl wr2.heap.size wr2).alloc (Nat.le_refl _) _) 1
      have HL3 := Lib.hid (HJ.out.1.below HB3)
      have HO3 := Lib.hid (HJ.out.2.1.below HB3 (Nat.le_refl _))
      have HZ3 := Lib.hid (Nat.le_trans HJ.out.2.2 HB3.size)
      clear HB3 K0 KK h0 h1 h2 h3 h4 wxj wx wrr htm hmn hmn2 hmz hm1 lyt rm r0 hbl2 hb2
      replace X1 := Lib.hid (show Blk (wr2.alloc (.cells #[.int .i64 y.id, .int .i64 y.fr, .int .i64 y.to, .int .i64 y.steps, .int .i64 y.paces] 58)).drew wr2.heap.size 58 #[.int .i64 y.id, .int .i64 y.fr, .int .i64 y.to, .int .i64 y.steps, .int .i64 y.paces] from X1.out)
      generalize (wr2.alloc (.cells #[.int .i64 y.id, .int .i64 y.fr, .int .i64 y.to, .int .i64 y.steps, .int .i64 y.paces] 58)).drew = w3 at *
      have HXM := Lib.hid (List.mem_of_getElem? HY.out)
      have x0 := X1.out.cell 0
      have x1 := X1.out.cell 1
      have x2 := X1.out.cell 2
      have xl := X1.out.lt
      by_cases hlead : g.at_ = y.fr ∨ g.at_ = y.to
      ·have HG0 : Hid (∃ g', goesF false y g = some g' ∧ g'.at_ = y.fr + y.to - g.at_) := Lib.hid (by
        unfold goesF
        rw [if_neg (by simp)]
        by_cases e : y.fr = g.at_
        ·rw [if_pos e]; exact ⟨_, rfl, by dsimp only; omega⟩
        ·rw [if_neg e, if_pos (by omega)]; exact ⟨_, rfl, by dsimp only; omega⟩)
       have hw2 := back_wrap (HP.out _ (HF.out.ends y HXM.out).1) (HP.out _ (HF.out.ends y HXM.out).2) hlead
       obtain ⟨ww1, ww2⟩ := hw2
       have hl2 : (((y.fr == g.at_) = true) ∨ ((y.fr == g.at_) = false ∧ (y.to == g.at_) = true)) := by
        by_cases e : y.fr = g.at_
        ·exact .inl (by simpa using e)
        ·exact .inr ⟨by simpa using e, by simp; omega⟩
       clear hlead
       rcases hl2 with e1 | ⟨e1, e2⟩
       all_goals
        go_wp2_with (at_builtin; refine wpList_append_any _ rfl _ _ rfl elem_int rfl (HO3.out.alloc _) rfl (one_int (x := y.id) (Nat.lt_succ_self _) (by simp [go_sem])) (ints_one _) (by unfold maxLen; omega) (by omega) (by have := HZ3.out; simp; omega) ?_)
        rintro A8 c8 w8 hown hg hA
        have HB8 : Below w0.heap.size w3 w8 := ((Below.refl w0.heap.size w3).alloc HZ3.out _).grown hg (by have := HZ3.out; simp; omega) (fun j hj => own_row HO3.out hj)
        have HO8 : Hid (Own w8 w0.heap.size 3 1 A8 (ls.length + 1) c8 ((ls ++ [y.id]).map (Value.int .i64))) := Lib.hid (by rw [List.map_append]; exact hown)
        have HL8 : Hid (Lay w w8 [(w.heap.size, 25, #[.slice A n c, .slice (some ⟨b2, off2, none⟩) m d])]) := Lib.hid ⟨HL3.out.1.trans (HB8.mono (by have := HW0.out; omega)), fun b hb => by
         simp only [List.mem_cons, List.not_mem_nil, or_false] at hb
         subst hb
         exact ⟨Nat.le_refl _, (HL3.out.blk 0 rfl).below HB8 HW0.out⟩⟩
        have HZ8 := Lib.hid (Nat.le_trans HZ3.out HB8.size)
        clear hown hg hA HB8 x0 x1 x2 xl X1
        obtain ⟨g', hg1, hg2⟩ := HG0.out
        have HG9 : Hid (GW t false (startG u) (ls ++ [y.id]) g') := Lib.hid (HS.out.2.2.2.1.snoc HXM.out hg1)
        go_wp2_with fail
        go_roundw
        case rel => exact ⟨k + 1, c8, A8, g', ls ++ [y.id], by omega, by go_num, by rw [hg2], by simp, by simp; omega, Lib.hid ⟨HL8.out, by simpa using HO8.out, HZ8.out, HG9.out, by have := HS.out.2.2.2.2; simp; omega⟩⟩
        case measure => simp [intOf]; omega
      ·have e1 : (y.fr == g.at_) = false := by simp only [not_or] at hlead; simp; omega
       have e2 : (y.to == g.at_) = false := by simp only [not_or] at hlead; simp; omega
       clear hlead
       go_wp2_with fail
       go_roundw
       case rel => exact ⟨j + 1, by omega, by go_num, rfl, rfl, Lib.hid ⟨HL3.out, HO3.out, HZ3.out⟩⟩
       case measure => simp [intOf]; omega
     ·obtain rfl : j = m := by omega
      go_wp2_with fail
      go_roundw
      case rel => exact ⟨k + 1, q, B, g, ls, by omega, by go_num, rfl, rfl, h40, Lib.hid ⟨HJ.out.1, HJ.out.2.1, HJ.out.2.2, HS.out.2.2.2.1, by have := HS.out.2.2.2.2; omega⟩⟩
      case measure => simp [intOf]; omega
  ·obtain rfl : k = n2 := by omega
   go_wp2_with fail
   refine bodyPost_ret (v := .tuple #[.slice B ls.length q, .bool (g.at_ == v)]) (by simp [results, Tryd.results8, go_sem]) rfl ⟨g, ls, B, q, rfl, ⟨HS.out.2.2.2.1, h40, by have := HS.out.2.2.2.2; omega⟩, HS.out.2.1.mono (by have := HW0.out; omega), HS.out.1.1, HS.out.2.1.cap_le.1⟩
end Go.Proofs.YtjdgdeiedkickaaDoor
/- jarful, walked. -/
namespace Go.Proofs.YtjdgdeiedkickaaDoor
open Go.RowKit Go.Shelf

theorem reads_blk {W : World} {g k n : Nat} {t : TypeId} {xs : List Value} (h : Blk W g t xs.toArray) (hn : xs.length = n * k) : Reads W W.heap.size k (some ⟨g, 0, none⟩) n xs :=
 ⟨hn, fun _ => ⟨_, rfl, h.lt, fun j u hu => by
  have ha : ((⟨g, 0, none⟩ : Addr).add j) = ⟨g, j, none⟩ := by
   unfold Addr.add
   by_cases hj : j = 0
   ·subst hj; simp
   ·simp [hj]
  rw [ha, h.cell]
  simpa using hu⟩⟩
set_option maxRecDepth 100000 in
set_option maxHeartbeats 16000000 in
theorem jarful_in (w : World) (hL : Laid w) : CallsIn Fence.wide 9 Tryd.prog 4 #[] w fun e w' => e = .returned (.bool true) ∧ Below w.heap.size w w' := by
 have HL := Lib.hid hL
 clear hL
 have HLay := Lib.hid (Lay.nil w)
 refine callsIn_of_wp Tryd.func4 rfl trivial ?_ rfl
 simp only [Tryd.ntmps4, List.size_toArray, List.length_nil, Nat.reduceSub, Array.replicate_succ, Array.replicate_zero, List.push_toArray, List.append_toArray, List.nil_append, List.cons_append]
 have HW := Lib.hid (Lay.four w 3 #[.int .i64 1, .int .i64 2] 58 #[.int .i64 1, .int .i64 1, .int .i64 2, .int .i64 0, .int .i64 3] 25 #[.slice (some ⟨w.heap.size, 0, none⟩) 2 2, .slice (some ⟨w.heap.size + 1, 0, none⟩) 1 1] 3 #[.int .i64 1])
 gi_wp2
 obtain ⟨W1, hW⟩ : ∃ W, ((((w.alloc (.cells #[.int .i64 1, .int .i64 2] 3)).alloc (.cells #[.int .i64 1, .int .i64 1, .int .i64 2, .int .i64 0, .int .i64 3] 58)).alloc (.cells #[.slice (some ⟨w.heap.size, 0, none⟩) 2 2, .slice (some ⟨w.heap.size + 1, 0, none⟩) 1 1] 25)).alloc (.cells #[.int .i64 1] 3)) = W := ⟨_, rfl⟩
 rw [hW] at HW ⊢
 clear hW
 have HI := Lib.hid (reads_blk (k := 1) (n := 2) (HW.out.blk 0 rfl) rfl)
 have HN := Lib.hid (reads_blk (k := 5) (n := 1) (HW.out.blk 1 rfl) rfl)
 have HP := Lib.hid (reads_blk (k := 1) (n := 1) (HW.out.blk 3 rfl) rfl)
 replace HLay := Lib.hid (HW.out.sub (bs' := []) (fun b h => by simp at h))
 clear HW
 refine ⟨trivial, (callsIn_wide.2 (end_any (some ⟨w.heap.size, 0, none⟩) 2 2 (some ⟨w.heap.size + 1, 0, none⟩) 1 1 jarT jarS 1 (some ⟨w.heap.size + 1 + 1 + 1, 0, none⟩) 1 1 [1] W1 (by omega) (by omega) (by omega) ⟨HI.out, HN.out⟩ HP.out (HL.out.below HLay.out.bel HL.out.2.2.2))).mono ?_⟩
 rintro e W2 ⟨rfl, hb⟩
 rw [jar_end.1, jar_end.2]
 replace HLay := Lib.hid (HLay.out.below hb)
 clear hb HI HN HP
 have HX := Lib.hid (Lay.four W2 27 #[.int .i64 3, .int .i64 6] 40 #[.int .i64 1, .int .i64 9, .int .i64 2, .int .i64 9] 43 #[.int .i64 1, .int .i64 1, .int .i64 1, .int .i64 9, .int .i64 3, .int .i64 1, .int .i64 0, .int .i64 4, .int .i64 1, .int .i64 2, .int .i64 2, .int .i64 1, .int .i64 2, .int .i64 1, .int .i64 2, .int .i64 5] 47 #[.int .i64 2, .slice (some ⟨W2.heap.size + 1, 0, none⟩) 2 2, .slice (some ⟨W2.heap.size + 1 + 1, 0, none⟩) 4 4, .slice none 0 0])
 gi_wp2
 obtain ⟨W3, hW⟩ : ∃ W, ((((W2.alloc (.cells #[.int .i64 3, .int .i64 6] 27)).alloc (.cells #[.int .i64 1, .int .i64 9, .int .i64 2, .int .i64 9] 40)).alloc (.cells #[.int .i64 1, .int .i64 1, .int .i64 1, .int .i64 9, .int .i64 3, .int .i64 1, .int .i64 0, .int .i64 4, .int .i64 1, .int .i64 2, .int .i64 2, .int .i64 1, .int .i64 2, .int .i64 1, .int .i64 2, .int .i64 5] 43)).alloc (.cells #[.int .i64 2, .slice (some ⟨W2.heap.size + 1, 0, none⟩) 2 2, .slice (some ⟨W2.heap.size + 1 + 1, 0, none⟩) 4 4, .slice none 0 0] 47)) = W := ⟨_, rfl⟩
 rw [hW] at HX ⊢
 clear hW
 have HV := Lib.hid (reads_blk (k := 2) (n := 2) (HX.out.blk 1 rfl) rfl)
 have HA := Lib.hid (reads_blk (k := 4) (n := 4) (HX.out.blk 2 rfl) rfl)
 have HM := Lib.hid (show Mx.MixS W3 (some ⟨W2.heap.size + 1, 0, none⟩) 2 (some ⟨W2.heap.size + 1 + 1, 0, none⟩) 4 none 0 jarK from ⟨⟨HV.out, HA.out, Reads.none_⟩, by decide, by decide, by decide⟩)
 clear HV HA
 replace HLay := Lib.hid (HLay.out.below HX.out.bel)
 obtain ⟨G, hG⟩ : ∃ g, W2.heap.size = g := ⟨_, rfl⟩
 have HB1 := Lib.hid (show Blk W3 G 27 #[.int .i64 3, .int .i64 6] from hG ▸ HX.out.blk 0 rfl)
 have HB2 := Lib.hid (show Blk W3 (G + 1 + 1 + 1) 47 #[.int .i64 2, .slice (some ⟨G + 1, 0, none⟩) 2 2, .slice (some ⟨G + 1 + 1, 0, none⟩) 4 4, .slice none 0 0] from hG ▸ HX.out.blk 3 rfl)
 rw [hG] at HM ⊢
 clear HX hG
 refine ⟨trivial, (callsIn_wide.2 (callsIn_wide.1 (Mx.of_any (some ⟨G + 1, 0, none⟩) 2 2 (some ⟨G + 1 + 1, 0, none⟩) 4 4 none 0 0 jarK 2 4 1 W3 HM.out))).mono ?_⟩
 rintro e W4 ⟨lo, hi, ee, rfl, hma, hb⟩
 obtain ⟨e1, rfl⟩ := Mx.OfIs.same hma jar_of
 obtain ⟨rfl, rfl⟩ : lo = 5 ∧ hi = 5 := ⟨congrArg Prod.fst e1, congrArg Prod.snd e1⟩
 clear hma e1
 replace HLay := Lib.hid (HLay.out.below hb)
 replace HM := Lib.hid (HM.out.up hb)
 replace HB1 := Lib.hid (HB1.out.below hb HB1.out.lt)
 replace HB2 := Lib.hid (HB2.out.below hb HB2.out.lt)
 clear hb
 have hb : Below W4.heap.size W4 (W4.alloc (.cells #[.int .i64 5, .int .i64 5] 27)) := (Below.refl _ _).alloc (Nat.le_refl _) _
 have HB3 := Lib.hid (Blk.new W4 27 #[.int .i64 5, .int .i64 5])
 have x0 := HB2.out.cell 0
 have x1 := HB2.out.cell 1
 have x2 := HB2.out.cell 2
 have x3 := HB2.out.cell 3
 have xl := HB2.out.lt
 gi_wp2
 clear x0 x1 x2 x3 xl
 obtain ⟨W5, hW⟩ : ∃ W, (W4.alloc (.cells #[.int .i64 5, .int .i64 5] 27)) = W := ⟨_, rfl⟩
 rw [hW] at HB3 hb ⊢
 replace HLay := Lib.hid (HLay.out.below hb)
 replace HM := Lib.hid (HM.out.up hb)
 replace HB1 := Lib.hid (HB1.out.below hb HB1.out.lt)
 clear hb hW HB2
 refine ⟨trivial, (callsIn_wide.2 (callsIn_wide.1 (Mx.met_in (some ⟨G + 1, 0, none⟩) 2 2 (some ⟨G + 1 + 1, 0, none⟩) 4 4 none 0 0 jarK 2 4 1 2 W5 HM.out ⟨by decide, by decide⟩))).mono ?_⟩
 rintro e W6 ⟨mb, me, rfl, hma, hb⟩
 obtain ⟨rfl, rfl⟩ := Mx.MetIs.same hma jar_met
 clear hma HM
 replace HLay := Lib.hid (HLay.out.below hb)
 replace HB1 := Lib.hid (HB1.out.below hb HB1.out.lt)
 replace HB3 := Lib.hid (HB3.out.below hb HB3.out.lt)
 clear hb
 have x0 := HB1.out.cell 0
 have x1 := HB1.out.cell 1
 have xl := HB1.out.lt
 have y0 := HB3.out.cell 0
 have y1 := HB3.out.cell 1
 have yl := HB3.out.lt
 gi_wp2
 exact bodyPost_ret (v := .bool true) (by simp [results, Tryd.results4, go_sem]) rfl ⟨rfl, HLay.out.1⟩
end Go.Proofs.YtjdgdeiedkickaaDoor
/- TopWet's jar in memory: the box of the mix, its acts growing. -/
namespace Go.Proofs.YtjdgdeiedkickaaDoor
open Go.RowKit

abbrev jarLay (w : World) (s : Skin) (V : Nat) : List (Nat × TypeId × Array Value) :=
 [(w.heap.size + 1, 29, #[.int .i64 s.drops, .int .i64 s.pace.lo, .int .i64 s.pace.hi, .int .i64 s.step.lo, .int .i64 s.step.hi]), (V, 40, #[.int .i64 1, .int .i64 s.drops, .int .i64 2, .int .i64 12])]
abbrev jarBox (V : Nat) (Aa : Option Addr) (k ca : Nat) : Array Value := #[.int .i64 2, .slice (some ⟨V, 0, none⟩) 2 2, .slice Aa k ca, .slice none 0 0]
/-- The world behind some of the jar's acts. -/
structure JarW (w W : World) (s : Skin) (B V M : Nat) (Aa : Option Addr) (ca : Nat) (acts : List Mx.MAct) : Prop where
 lay : Lay w W (jarLay w s V ++ [(M, 47, jarBox V Aa acts.length ca)])
 own : Own W B 43 4 Aa acts.length ca (acts.flatMap Mx.MAct.vals)
 row : ∀ a, Aa = some a → a.block ≠ M
 le : B ≤ W.heap.size
 ord : w.heap.size + 1 < V ∧ V < B ∧ V < M

theorem JarW.step {w W w8 : World} {s : Skin} {B V M ca c8 : Nat} {Aa A8 : Option Addr} {acts : List Mx.MAct} (h : JarW w W s B V M Aa ca acts) (x : Mx.MAct)
  (hown : Own w8 B 43 4 A8 (acts.length + 1) c8 (acts.flatMap Mx.MAct.vals ++ x.vals)) (hg : (W.alloc (.cells x.vals.toArray 43)).grownBy w8 (Aa.map (·.block))) (hA : A8 = Aa ∨ A8 = some ⟨W.heap.size + 1, 0, none⟩) :
  JarW w (w8.setCell ⟨M, 2, none⟩ (.slice A8 (acts.length + 1) c8)) s B V M A8 c8 (acts ++ [x]) := by
 have hM : M < W.heap.size := h.lay.lt 2 rfl
 have hne : ∀ a, A8 = some a → a.block ≠ M := by
  intro a ha
  rcases hA with e | e
  ·exact h.row a (e ▸ ha)
  ·rw [e] at ha; cases ha; dsimp only; omega
 have hl1 := h.lay.below ((Below.refl W.heap.size W).alloc (Nat.le_refl _) (.cells x.vals.toArray 43))
 have ho := h.ord
 have hl2 := hl1.row hg (fun r e => by
  cases Aa with
  | none => cases e
  | some a =>
   have hb := (h.own.lt rfl).1
   have hr := h.row a rfl
   obtain rfl : a.block = r := by simpa using e
   refine ⟨by omega, fun b hb2 => ?_⟩
   simp only [List.cons_append, List.nil_append, List.mem_cons, List.not_mem_nil, or_false] at hb2
   rcases hb2 with rfl | rfl | rfl <;> dsimp only <;> omega)
 have hl3 := hl2.setLast (fun p hp => by
  simp only [List.mem_cons, List.not_mem_nil, or_false] at hp
  rcases hp with rfl | rfl <;> dsimp only <;> omega) 2 (.slice A8 (acts.length + 1) c8)
 refine ⟨?_, ?_, hne, ?_, ho⟩
 ·rw [List.length_append]
  exact hl3
 ·rw [List.length_append, List.flatMap_append, List.flatMap_singleton]
  exact hown.grown (grown_setCell (grown_refl w8 (some M)) (p := ⟨M, 2, none⟩) (.inl rfl) _) (fun a ha e => hne a ha (Option.some.inj e))
 ·have := hl3.1.size
  have h2 := hg.size
  have := h.le
  simp at h2 ⊢
  omega
theorem own_lit {W : World} {g n size : Nat} {t : TypeId} {xs : List Value} (h : Blk W g t xs.toArray) (hn : xs.length = n * size) (hm : n ≤ maxLen) : Own W g t size (some ⟨g, 0, none⟩) n n xs :=
 ⟨hn, .inr ⟨g, n, xs.toArray, rfl, Nat.le_refl _, h, Nat.le_refl _, hm, by simpa using hn, by rw [← hn]; simp⟩⟩
theorem jar_start {w W9 W : World} {s : Skin} {t0 : TypeId} {x : Array Value} (hs : Lay w W9 [(w.heap.size, t0, x), (w.heap.size + 1, 29, #[.int .i64 s.drops, .int .i64 s.pace.lo, .int .i64 s.pace.hi, .int .i64 s.step.lo, .int .i64 s.step.hi])])
  (h : Lay W9 W [(W9.heap.size, 40, #[.int .i64 1, .int .i64 s.drops, .int .i64 2, .int .i64 12]), (W9.heap.size + 1, 43, #[.int .i64 1, .int .i64 1, .int .i64 1, .int .i64 s.drops]), (W9.heap.size + 1 + 1, 47, jarBox W9.heap.size (some ⟨W9.heap.size + 1, 0, none⟩) 1 1)]) :
  JarW w W s (W9.heap.size + 1) W9.heap.size (W9.heap.size + 1 + 1) (some ⟨W9.heap.size + 1, 0, none⟩) 1 [⟨1, 1, 1, s.drops⟩] := by
 have hl := hs.below h.bel
 have lz := hs.lt 1 rfl
 have l2 := h.lt 2 rfl
 refine ⟨⟨hl.1, fun b hb => ?_⟩, own_lit (h.blk 1 rfl) rfl (by show 1 ≤ maxLen; decide), fun a ha => by cases ha; dsimp only; omega, by omega, ⟨by omega, by omega, by omega⟩⟩
 simp only [List.cons_append, List.nil_append, List.mem_cons, List.not_mem_nil, or_false] at hb
 rcases hb with rfl | rfl | rfl
 ·exact ⟨by dsimp only; omega, hl.blk 1 rfl⟩
 ·exact ⟨by dsimp only; omega, h.blk 0 rfl⟩
 ·exact ⟨by dsimp only; omega, h.blk 2 rfl⟩
theorem JarW.mixS {w W : World} {s : Skin} {B V M ca : Nat} {Aa : Option Addr} {acts : List Mx.MAct} (h : JarW w W s B V M Aa ca acts) (hl : acts.length ≤ 1000) :
  Mx.MixS W (some ⟨V, 0, none⟩) 2 Aa acts.length none 0 (Mx.jarM s.drops acts) :=
 ⟨⟨reads_blk (k := 2) (n := 2) (h.lay.blk 1 rfl) rfl, h.own.reads (Nat.le_refl _), Reads.none_⟩, by decide, hl, by decide⟩
theorem jar_told {D lost rest other all e1 e2 e3 e4 e5 e6 lo1 hi1 lo2 hi2 lo3 hi3 pv : Int} {met : Bool} {L1 L2 L3 : List Mx.MAct} (hD : D = lost + rest ∧ 0 ≤ lost) (hd : 1 ≤ D ∧ D ≤ 12) (hr : 0 ≤ rest ∧ rest ≤ D) (ho : 0 ≤ other ∧ rest + other ≤ 12)
  (E1 : ([⟨1, 1, 1, D⟩] ++ if 0 < lost then [⟨3, 1, 0, lost⟩] else [] : List Mx.MAct) = L1) (E2 : (L1 ++ if 0 < other then [⟨1, 2, 2, other⟩] else [] : List Mx.MAct) = L2) (E3 : (L2 ++ if 0 < rest then [⟨2, 1, 2, rest⟩] else [] : List Mx.MAct) = L3)
  (K1 : Mx.HoldsIs (Mx.jarM D L3) 2 (L3.length : Int) all e1) (K2 : Mx.OfIs (Mx.jarM D L3) 2 (L3.length : Int) 1 (lo1, hi1) e2) (K3 : Mx.OfIs (Mx.jarM D L3) 2 (L3.length : Int) 2 (lo2, hi2) e3)
  (K4 : Mx.PureIs (Mx.jarM D L3) 2 (L3.length : Int) 1 pv e4) (K5 : Mx.MetIs (Mx.jarM D L3) 2 (L3.length : Int) 1 2 met e5) (K6 : Mx.GoneIs (Mx.jarM D L3) 1 (lo3, hi3) e6) :
  (e1 = 0 ∧ e2 = 0 ∧ e3 = 0 ∧ e4 = 0 ∧ e5 = 0 ∧ e6 = 0) ∧ all = rest + other ∧ (lo1 = rest ∧ hi1 = rest) ∧ (lo2 = other ∧ hi2 = other) ∧ (pv = 2 ↔ other = 0) ∧ (met = true ↔ 0 < rest ∧ 0 < other) ∧ lo3 = lost ∧ hi3 = lost := by
 obtain ⟨hD, h0⟩ := hD
 have HE : L3 = Mx.jarL lost rest other := by unfold Mx.jarL; rw [← E3, ← E2, ← E1, hD]
 clear E1 E2 E3
 subst hD
 subst HE
 obtain ⟨q1, q2, q3, q4, q5, q6, q7, q8, q9, hpv, hmet, qg⟩ := Mx.jar_law (j := 0) h0 hr.1 ho.1 hd ho.2 rfl K1 K2 K3 K4 K5 K6
 exact ⟨⟨q1, q2, q3, q4, q5, q6⟩, q7, ⟨congrArg Prod.fst q8, congrArg Prod.snd q8⟩, ⟨congrArg Prod.fst q9, congrArg Prod.snd q9⟩, hpv, hmet, congrArg Prod.fst qg, congrArg Prod.snd qg⟩
end Go.Proofs.YtjdgdeiedkickaaDoor
/- TopWet: the law, walked. -/
namespace Go.Proofs.YtjdgdeiedkickaaDoor
open Go.RowKit Go.Shelf

theorem upB_all : ∀ (l : List Int) (last : Int), 0 ≤ last → upB last l = true → ∀ x ∈ l, 1 ≤ x ∧ x ≤ 9999
 | [], _, _, _ => fun x hx => by simp at hx
 | y :: l, last, h0, h => by
  unfold upB at h
  simp only [Bool.and_eq_true] at h
  have hy : last + 1 ≤ y ∧ y ≤ 9999 := by have := h.1; unfold inB at this; simp at this; omega
  intro x hx
  rcases List.mem_cons.1 hx with rfl | hx
  ·omega
  ·exact upB_all l y (by omega) h.2 x hx
theorem places_in {t : Town} (h : townB t = true) : (1 ≤ t.places.length) ∧ ∀ x ∈ t.places, 1 ≤ x ∧ x ≤ 9999 := by
 unfold townB sizeB at h
 simp only [Bool.and_eq_true] at h
 refine ⟨?_, upB_all _ 0 (Int.le_refl _) h.1.2⟩
 have := h.1.1.1
 unfold inB at this
 simp at this
 omega
theorem links_in {t : Town} (h : townB t = true) : t.links.length ≤ 20 := by
 unfold townB sizeB at h
 simp only [Bool.and_eq_true, decide_eq_true_eq] at h
 exact h.1.1.2

theorem ask_one {t : Town} {u : Int} (h : townB t = true) (hu : u ∈ t.places) : askE t [u] = 0 := by
 unfold askE
 rw [if_pos h, if_pos]
 unfold hasB
 have : memI t.places u = true := by unfold memI; simpa using hu
 simp [this]

theorem end_le {t : Town} {u : Int} {l : List Int} {g : Gone} {s : Skin} (ht : Fine t) (h : GW t false (startG u) l g) (hs : skinB s = true) (hd : 0 ≤ s.drops) :
  0 ≤ max 0 (s.drops - g.paces * s.pace.hi - g.steps * s.step.hi) ∧ max 0 (s.drops - g.paces * s.pace.hi - g.steps * s.step.hi) ≤ max 0 (s.drops - g.paces * s.pace.lo - g.steps * s.step.lo) ∧ max 0 (s.drops - g.paces * s.pace.lo - g.steps * s.step.lo) ≤ s.drops := by
 have hi := h.in_ ht (startG_in u)
 unfold skinB spansB spanB inB at hs
 simp at hs
 have hp : 0 ≤ s.pace.lo ∧ s.pace.lo ≤ s.pace.hi := by omega
 have hq : 0 ≤ s.step.lo ∧ s.step.lo ≤ s.step.hi := by omega
 have gp : 0 ≤ g.paces := hi.paces.1
 have gs : 0 ≤ g.steps := hi.steps.1
 have a1 := Int.mul_le_mul_of_nonneg_left hp.2 gp
 have a2 := Int.mul_le_mul_of_nonneg_left hq.2 gs
 have a3 := Int.mul_nonneg gp hp.1
 have a4 := Int.mul_nonneg gs hq.1
 omega

def TopOut (w : World) (e : Ending) (w' : World) : Prop := e = .returned (.bool true) ∧ Below w.heap.size w w'

set_option maxRecDepth 100000 in
set_option maxHeartbeats 16000000 in
theorem topWet_walk (A : Option Addr) (n c : Nat) (A' : Option Addr) (m d : Nat) (t : Town) (s : Skin) (x0 : Nat) (A2 : Option Addr) (n2 c2 : Nat) (l : List Nat) (x1 x2 : Nat) (w : World) (h0 : x0 ≤ 255) (h1 : x1 ≤ 255) (h2 : x2 ≤ 255) (hk : n2 ≤ maxLen) (ht : TownAt w w.heap.size A n A' m t) (hr : BytesAt w w.heap.size A2 n2 l) (hL : Laid w) :
  Calls Tryd.prog 3 #[.agg #[.slice A n c, .slice A' m d], .agg #[.int .i64 s.drops, .int .i64 s.pace.lo, .int .i64 s.pace.hi, .int .i64 s.step.lo, .int .i64 s.step.hi], .int .u8 x0, .slice A2 n2 c2, .int .u8 x1, .int .u8 x2] w (TopOut w) := by
 have HT := Lib.hid ht
 have HR := Lib.hid hr
 have HL := Lib.hid hL
 clear ht hr hL
 have HLay := Lib.hid (Lay.two w 25 #[.slice A n c, .slice A' m d] 29 #[.int .i64 s.drops, .int .i64 s.pace.lo, .int .i64 s.pace.hi, .int .i64 s.step.lo, .int .i64 s.step.hi])
 go_enter Tryd.func3, Tryd.ntmps3
 go_upto_region 1 with fail
 generalize ((w.alloc (.cells #[.slice A n c, .slice A' m d] 25)).alloc (.cells #[.int .i64 s.drops, .int .i64 s.pace.lo, .int .i64 s.pace.hi, .int .i64 s.step.lo, .int .i64 s.step.hi] 29)) = W0 at *
 go_wp2_with fail
 refine (callsIn_wide.1 (jarful_in W0 (HL.out.below HLay.out.bel HL.out.2.2.2))).mono ?_
 rintro e W1 ⟨rfl, hb⟩
 replace HLay := Lib.hid (HLay.out.below hb)
 clear hb W0
 go_upto_region 2 with fail
 have y0 := (HLay.out.blk 0 rfl).cell 0
 have y1 := (HLay.out.blk 0 rfl).cell 1
 have ly := HLay.out.lt 0 rfl
 have z0 := (HLay.out.blk 1 rfl).cell 0
 have z1 := (HLay.out.blk 1 rfl).cell 1
 have z2 := (HLay.out.blk 1 rfl).cell 2
 have z3 := (HLay.out.blk 1 rfl).cell 3
 have z4 := (HLay.out.blk 1 rfl).cell 4
 have lz := HLay.out.lt 1 rfl
 go_wp2_with fail
 refine (great_any A n c A' m d W1).mono ?_
 rintro e W2 ⟨rfl, hb⟩
 replace HLay := Lib.hid (HLay.out.below hb)
 clear hb y0 y1 ly z0 z1 z2 z3 z4 lz
 cases hg : greatB n m with
 | true =>
  clear hg
  as_aux_lemma =>
   go_wp2_with fail
   go_ret
   exact ⟨rfl, HLay.out.1⟩
 | false =>
  have hsz := great_small hg
  clear hg
  have y0 := (HLay.out.blk 0 rfl).cell 0
  have y1 := (HLay.out.blk 0 rfl).cell 1
  have ly := HLay.out.lt 0 rfl
  go_wp2_with fail
  refine (rtown_any A n c A' m d t W2 (by omega) (by omega) ((HT.out.below HLay.out.1).more HLay.out.1.size)).mono ?_
  rintro e W3 ⟨rfl, hb⟩
  replace HLay := Lib.hid (HLay.out.below hb)
  clear hb y0 y1 ly
  cases htb : townB t with
  | false =>
   clear htb
   as_aux_lemma =>
    go_wp2_with fail
    go_ret
    exact ⟨rfl, HLay.out.1⟩
  | true =>
   have HTB := Lib.hid htb
   clear htb
   have z0 := (HLay.out.blk 1 rfl).cell 0
   have z1 := (HLay.out.blk 1 rfl).cell 1
   have z2 := (HLay.out.blk 1 rfl).cell 2
   have z3 := (HLay.out.blk 1 rfl).cell 3
   have z4 := (HLay.out.blk 1 rfl).cell 4
   have lz := HLay.out.lt 1 rfl
   go_wp2_with fail
   refine (rskin_any s W3).mono ?_
   rintro e W4 ⟨rfl, hb⟩
   replace HLay := Lib.hid (HLay.out.below hb)
   clear hb z0 z1 z2 z3 z4 lz
   cases hsb : skinB s with
   | false =>
    clear hsb
    as_aux_lemma =>
     go_wp2_with fail
     go_ret
     exact ⟨rfl, HLay.out.1⟩
   | true =>
    have HSB := Lib.hid hsb
    clear hsb
    have z0 := (HLay.out.blk 1 rfl).cell 0
    have lz := HLay.out.lt 1 rfl
    by_cases hd1 : s.drops < 1
    ·go_wp2_with fail
     go_ret
     exact ⟨rfl, HLay.out.1⟩
    ·have hd1' : decide (s.drops < 1) = false := by simp; omega
     by_cases hd2 : 12 < s.drops
     ·go_wp2_with fail
      go_ret
      exact ⟨rfl, HLay.out.1⟩
     ·have hd2' : decide (12 < s.drops) = false := by simp; omega
      have hn1 : 1 ≤ n := by have := (places_in HTB.out).1; have := HT.out.places.len; omega
      have hlt : x0 % n < n := Nat.mod_lt _ (by omega)
      obtain ⟨q, hq⟩ : ∃ q, x0 % n = q := ⟨_, rfl⟩
      rw [hq] at hlt
      obtain ⟨bb, off, st, hA, hbl, hx, hc⟩ := HT.out.places.cell hlt
      subst hA
      have HX := Lib.hid (List.mem_of_getElem? hx)
      have hm : (x0 : Int).tmod (n : Int) = (q : Int) := by
       rw [Int.tmod_eq_emod_of_nonneg (by omega)]
       omega
      clear hx hq
      have hc4 := ((HLay.out.1.cell (p := ⟨bb, off + q, none⟩) hbl).trans hc)
      have K0 : W4.drew.cell? ⟨w.heap.size, 0, none⟩ = some (.slice (some ⟨bb, off, none⟩) n c) ∧ W4.drew.cell? ⟨bb, off + q, none⟩ = some (.int .i64 st) := ⟨(HLay.out.blk 0 rfl).cell 0, hc4⟩
      have ly := HLay.out.lt 0 rfl
      have r0 : (0 : Int) ≤ (q : Int) := by omega
      have rm : (q : Int) < (n : Int) := by omega
      have hm1 : ((n : Nat) : Int) ≠ 0 := by omega
      have hmn : ¬ n = 0 := by omega
      have hmn2 : (n == 0) = false := by simp; omega
      have wx : IntKind.i64.wrap (x0 : Int) = (x0 : Int) := IntWalk.i64_in _ (by omega)
      have hmz : (((n : Nat) : Int) == 0) = false := by simp; omega
      have wrr : IntKind.i64.wrap (q : Int) = (q : Int) := IntWalk.i64_in _ (by omega)
      go_wp2_with fail
      go_region_held3 (fun w' => w'.cell? ⟨w.heap.size, 0, none⟩ = some (.slice (some ⟨bb, off, none⟩) n c) ∧ w'.cell? ⟨bb, off + q, none⟩ = some (.int .i64 st)) (first | with_reducible assumption | go_keep) (fail)
      replace HLay := Lib.hid (HLay.out.drewN 1)
      clear K0 hc hc4 ly z0 lz hd1' hd2' r0 rm hm1 hmn hmn2 wx hmz wrr hm hbl hlt
      obtain ⟨W5, hW⟩ : ∃ W, W4.drew = W := ⟨_, rfl⟩
      replace HLay := Lib.hid (show Lay w W4.drew _ from HLay.out)
      rw [hW] at HLay ⊢
      rename_i hHeld4
      clear hHeld4 hW W4
      have y0 := (HLay.out.blk 0 rfl).cell 0
      have y1 := (HLay.out.blk 0 rfl).cell 1
      have ly := HLay.out.lt 0 rfl
      go_wp2_with fail
      refine (walks_any (some ⟨bb, off, none⟩) n c A' m d t st (-1) A2 n2 c2 l W5 (by have := links_in HTB.out; have := HT.out.links.len; omega) hk ((HT.out.links.below HLay.out.1).more HLay.out.1.size) (goodT HTB.out).fine (places_in HTB.out).2 ((HR.out.below HLay.out.1).more HLay.out.1.size)).mono ?_
      rintro e W6 ⟨g, ls, B, q1, rfl, hst, hown, hb, hq⟩
      have HST := Lib.hid hst
      have HWL := Lib.hid (ints_of_own hown (Nat.le_refl _))
      replace HLay := Lib.hid (HLay.out.below hb)
      clear hst hown hb y0 y1 ly
      have y0 := (HLay.out.blk 0 rfl).cell 0
      have y1 := (HLay.out.blk 0 rfl).cell 1
      have ly := HLay.out.lt 0 rfl
      have z0 := (HLay.out.blk 1 rfl).cell 0
      have z1 := (HLay.out.blk 1 rfl).cell 1
      have z2 := (HLay.out.blk 1 rfl).cell 2
      have z3 := (HLay.out.blk 1 rfl).cell 3
      have z4 := (HLay.out.blk 1 rfl).cell 4
      have lz := HLay.out.lt 1 rfl
      go_wp2_with fail
      have h40 := HST.out.2.1
      refine (end_any (some ⟨bb, off, none⟩) n c A' m d t s st B ls.length q1 ls W6 (by omega) (by omega) (by omega) ((HT.out.below HLay.out.1).more HLay.out.1.size) HWL.out (HL.out.below HLay.out.bel HL.out.2.2.2)).mono ?_
      rintro e W7 ⟨rfl, hb⟩
      have hE := end_gw (goodT HTB.out).fine HST.out.1 h40 (ask_one HTB.out HX.out) HSB.out
      rw [hE.1, hE.2]
      replace HLay := Lib.hid (HLay.out.below hb)
      clear hb hE y0 y1 ly z0 z1 z2 z3 z4 lz HWL
      have HS := Lib.hid (end_le (goodT HTB.out).fine HST.out.1 HSB.out (by omega))
      generalize max 0 (s.drops - g.paces * s.pace.hi - g.steps * s.step.hi) = lo at *
      generalize max 0 (s.drops - g.paces * s.pace.lo - g.steps * s.step.lo) = hi at *
      obtain ⟨hs1, hs2, hs3⟩ := HS.out
      have HX7 := Lib.hid (Lay.one W7 27 #[.int .i64 lo, .int .i64 hi])
      go_upto_region 7 with fail
      obtain ⟨W8, hW⟩ : ∃ W, (W7.alloc (.cells #[.int .i64 lo, .int .i64 hi] 27)) = W := ⟨_, rfl⟩
      rw [hW] at HX7 ⊢
      clear hW
      replace HLay := Lib.hid ((HLay.out.below HX7.out.bel).add (g := W7.heap.size) HLay.out.1.size (HX7.out.blk 0 rfl))
      obtain ⟨G, hG⟩ : ∃ g, W7.heap.size = g := ⟨_, rfl⟩
      rw [hG] at HLay ⊢
      clear HX7 hG
      have z0 := (HLay.out.blk 1 rfl).cell 0
      have lz := HLay.out.lt 1 rfl
      have u0 := (HLay.out.blk 2 rfl).cell 0
      have u1 := (HLay.out.blk 2 rfl).cell 1
      have lu := HLay.out.lt 2 rfl
      have c1 : decide (lo < 0) = false := by simp; omega
      have c2 : decide (hi < lo) = false := by simp; omega
      have c3 : decide (s.drops < hi) = false := by simp; omega
      obtain ⟨r, hr0, hr1⟩ : ∃ r : Int, (x1 : Int).tmod (hi - lo + 1) = r ∧ 0 ≤ r ∧ r < hi - lo + 1 := ⟨_, rfl, Int.tmod_nonneg _ (by omega), Int.tmod_lt_of_pos _ (by omega)⟩
      have K0 : W8.drew.cell? ⟨G, 0, none⟩ = some (.int .i64 lo) ∧ W8.drew.cell? ⟨G, 1, none⟩ = some (.int .i64 hi) := ⟨u0, u1⟩
      have wx : IntKind.i64.wrap (x1 : Int) = (x1 : Int) := IntWalk.i64_in _ (by omega)
      have w1 : IntKind.i64.wrap (hi - lo) = hi - lo := IntWalk.i64_in _ (by omega)
      have w2 : IntKind.i64.wrap (hi - lo + 1) = hi - lo + 1 := IntWalk.i64_in _ (by omega)
      have w3 : IntKind.i64.wrap r = r := IntWalk.i64_in _ (by omega)
      have w4 : IntKind.i64.wrap (lo + r) = lo + r := IntWalk.i64_in _ (by omega)
      have nz : (hi - lo + 1 == 0) = false := by simp; omega
      have nz2 : ¬ (hi - lo + 1 = 0) := by omega
      go_wp2_with fail
      go_region_held3 (fun w' => w'.cell? ⟨G, 0, none⟩ = some (.int .i64 lo) ∧ w'.cell? ⟨G, 1, none⟩ = some (.int .i64 hi)) (first | with_reducible assumption | go_keep) (fail)
      rename_i hHeld9
      clear hHeld9 K0 wx w1 w2 w3 w4 nz nz2 z0 lz u0 u1 lu c1 c2 c3
      replace HLay := Lib.hid (show Lay w W8.drew [(w.heap.size, 25, #[.slice (some ⟨bb, off, none⟩) n c, .slice A' m d]), (w.heap.size + 1, 29, #[.int .i64 s.drops, .int .i64 s.pace.lo, .int .i64 s.pace.hi, .int .i64 s.step.lo, .int .i64 s.step.hi])] from (HLay.out.drewN 1).sub (fun b hb => by
       simp only [List.mem_append]; exact .inl hb))
      obtain ⟨W9, hW⟩ : ∃ W, W8.drew = W := ⟨_, rfl⟩
      rw [hW] at HLay ⊢
      clear hW
      obtain ⟨rest, hrest⟩ : ∃ x, lo + r = x := ⟨_, rfl⟩
      rw [hrest]
      have HRS := Lib.hid (show 0 ≤ rest ∧ rest ≤ s.drops from by omega)
      clear hrest hr0 hr1
      have z0 := (HLay.out.blk 1 rfl).cell 0
      have lz := HLay.out.lt 1 rfl
      have HX := Lib.hid (Lay.three W9 40 #[.int .i64 1, .int .i64 s.drops, .int .i64 2, .int .i64 12] 43 #[.int .i64 1, .int .i64 1, .int .i64 1, .int .i64 s.drops] 47 #[.int .i64 2, .slice (some ⟨W9.heap.size, 0, none⟩) 2 2, .slice (some ⟨W9.heap.size + 1, 0, none⟩) 1 1, .slice none 0 0])
      go_upto_region 11 with fail
      obtain ⟨W10, hW⟩ : ∃ W, (((W9.alloc (.cells #[.int .i64 1, .int .i64 s.drops, .int .i64 2, .int .i64 12] 40)).alloc (.cells #[.int .i64 1, .int .i64 1, .int .i64 1, .int .i64 s.drops] 43)).alloc (.cells #[.int .i64 2, .slice (some ⟨W9.heap.size, 0, none⟩) 2 2, .slice (some ⟨W9.heap.size + 1, 0, none⟩) 1 1, .slice none 0 0] 47)) = W := ⟨_, rfl⟩
      rw [hW] at HX ⊢
      have HJ := Lib.hid (jar_start HLay.out HX.out)
      clear HX hW
      obtain ⟨V, hV⟩ : ∃ V, W9.heap.size = V := ⟨_, rfl⟩
      rw [hV] at HJ ⊢
      clear hV HLay z0 lz
      have z0 := (HJ.out.lay.blk 0 rfl).cell 0
      have lz := HJ.out.lay.lt 0 rfl
      have w5 : IntKind.i64.wrap (s.drops - rest) = s.drops - rest := IntWalk.i64_in _ (by have := HRS.out; omega)
      go_upto_region 12 with fail
      obtain ⟨lost, hlost⟩ : ∃ x, s.drops - rest = x := ⟨_, rfl⟩
      rw [hlost]
      have HD := Lib.hid (show s.drops = lost + rest ∧ 0 ≤ lost from by have := HRS.out; omega)
      clear hlost w5 z0 lz
      go_upto_if 138 with fail
      go_cut [] (fun wr => ∃ (Aa : Option Addr) (ca : Nat), Hid (JarW w wr s (V + 1) V (V + 1 + 1) Aa ca ([⟨1, 1, 1, s.drops⟩] ++ if 0 < lost then [⟨3, 1, 0, lost⟩] else [])))
      case first =>
       as_aux_lemma =>
        by_cases h0 : 0 < lost
        ·have m0 := (HJ.out.lay.blk 2 rfl).cell 2
         have lm := HJ.out.lay.lt 2 rfl
         have mz := (HJ.out.lay.blk 2 rfl).frozen 2
         have HJL := HJ.out.le
         go_wp2_with (at_builtin; refine wpList_append_any _ rfl _ _ rfl Mx.elem_act rfl (HJ.out.own.alloc _) rfl (reads_blk (k := 4) (n := 1) (xs := [.int .i64 3, .int .i64 1, .int .i64 0, .int .i64 lost]) (Blk.new _ _ _) rfl) (by intro u hu; simp at hu; rcases hu with rfl | rfl | rfl | rfl <;> rfl) (by simp [maxLen]) (by simp) (by simp; omega) ?_)
         rintro A8 c8 w8 hown hg hA
         have HJ8 := Lib.hid (HJ.out.step ⟨3, 1, 0, lost⟩ hown hg hA)
         have bm := ((HJ.out.lay.blk 2 rfl).below ((Below.refl W10.heap.size W10).alloc (Nat.le_refl _) (.cells #[.int .i64 3, .int .i64 1, .int .i64 0, .int .i64 lost] 43)) lm).grown hg (by simp)
         have q2 := bm.cell 2
         have qz := bm.frozen 2
         have ql := bm.lt
         clear hown hg hA bm m0 lm mz
         go_wp2_with fail
         go_meet
         case rel => exact ⟨A8, c8, Lib.hid (by rw [if_pos h0]; exact HJ8.out)⟩
        ·have h0' : decide (0 < lost) = false := by simp; omega
         go_wp2_with fail
         go_meet
         case rel => exact ⟨_, _, Lib.hid (by rw [if_neg (show ¬ 0 < lost by omega)]; exact HJ.out)⟩
      case rest =>
       as_aux_lemma =>
        obtain ⟨Aa, ca, HJ1⟩ := hcut
        clear HJ
        have HL1 := Lib.hid (show ([⟨1, 1, 1, s.drops⟩] ++ if 0 < lost then [⟨3, 1, 0, lost⟩] else [] : List Mx.MAct).length ≤ 2 from by by_cases e : 0 < lost <;> simp [e])
        obtain ⟨L1, hL1⟩ : ∃ L, ([⟨1, 1, 1, s.drops⟩] ++ if 0 < lost then [⟨3, 1, 0, lost⟩] else [] : List Mx.MAct) = L := ⟨_, rfl⟩
        rw [hL1] at HJ1 HL1
        have HE1 := Lib.hid hL1
        clear hL1
        have HO := Lib.hid (show 0 ≤ (x2 : Int).tmod (12 - rest + 1) ∧ (x2 : Int).tmod (12 - rest + 1) < 12 - rest + 1 from ⟨Int.tmod_nonneg _ (by omega), Int.tmod_lt_of_pos _ (by have := HRS.out; omega)⟩)
        obtain ⟨other, ho⟩ : ∃ x, (x2 : Int).tmod (12 - rest + 1) = x := ⟨_, rfl⟩
        have w1 : IntKind.i64.wrap (x2 : Int) = (x2 : Int) := IntWalk.i64_in _ (by omega)
        have w2 : IntKind.i64.wrap (12 - rest) = 12 - rest := IntWalk.i64_in _ (by have := HRS.out; omega)
        have w3 : IntKind.i64.wrap (12 - rest + 1) = 12 - rest + 1 := IntWalk.i64_in _ (by have := HRS.out; omega)
        have w4 : IntKind.i64.wrap other = other := IntWalk.i64_in _ (by have := HRS.out; have := HO.out; rw [ho] at this; omega)
        have nz : (12 - rest + 1 == 0) = false := by have := HRS.out; simp; omega
        have nz2 : ¬ (12 - rest + 1 = 0) := by have := HRS.out; omega
        go_upto_region 15 with fail
        have HO2 := Lib.hid (show 0 ≤ other ∧ rest + other ≤ 12 from by have := HO.out; rw [ho] at this; omega)
        clear ho HO w1 w2 w3 w4 nz nz2
        go_upto_if 153 with fail
        go_cut [] (fun wr => ∃ (Aa : Option Addr) (ca : Nat), Hid (JarW w wr s (V + 1) V (V + 1 + 1) Aa ca (L1 ++ if 0 < other then [⟨1, 2, 2, other⟩] else [])))
        case first =>
         as_aux_lemma =>
          by_cases h0 : 0 < other
          ·have m0 := (HJ1.out.lay.blk 2 rfl).cell 2
           have lm := HJ1.out.lay.lt 2 rfl
           have mz := (HJ1.out.lay.blk 2 rfl).frozen 2
           have HJL := HJ1.out.le
           have hLb : L1.length + 1 ≤ maxLen := by simp only [maxLen]; have := HL1.out; omega
           go_wp2_with (at_builtin; refine wpList_append_any _ rfl _ _ rfl Mx.elem_act rfl (HJ1.out.own.alloc _) rfl (reads_blk (k := 4) (n := 1) (xs := [.int .i64 1, .int .i64 2, .int .i64 2, .int .i64 other]) (Blk.new _ _ _) rfl) (by intro u hu; simp at hu; rcases hu with rfl | rfl | rfl | rfl <;> rfl) (by exact hLb) (by have := HL1.out; omega) (by simp; omega) ?_)
           rintro A8 c8 w8 hown hg hA
           have HJ8 := Lib.hid (HJ1.out.step ⟨1, 2, 2, other⟩ hown hg hA)
           have bm := ((HJ1.out.lay.blk 2 rfl).below ((Below.refl _ _).alloc (Nat.le_refl _) (.cells #[.int .i64 1, .int .i64 2, .int .i64 2, .int .i64 other] 43)) lm).grown hg (fun e => by obtain ⟨a, ha, hb⟩ := Option.map_eq_some_iff.1 e.symm; exact HJ1.out.row a ha hb)
           have q2 := bm.cell 2
           have qz := bm.frozen 2
           have ql := bm.lt
           clear hown hg hA bm m0 lm mz
           go_wp2_with fail
           go_meet
           case rel => exact ⟨A8, c8, Lib.hid (by rw [if_pos h0]; exact HJ8.out)⟩
          ·have h0' : decide (0 < other) = false := by simp; omega
           go_wp2_with fail
           go_meet
           case rel => exact ⟨_, _, Lib.hid (by rw [if_neg (show ¬ 0 < other by omega), List.append_nil]; exact HJ1.out)⟩
        case rest =>
         as_aux_lemma =>
  
        obtain ⟨Aq2, cq2, HJ2⟩ := hcut
        clear HJ1
        have HL2 := Lib.hid (show (L1 ++ if 0 < other then [⟨1, 2, 2, other⟩] else [] : List Mx.MAct).length ≤ 3 from by have := HL1.out; rw [List.length_append]; by_cases e : 0 < other <;> simp [e] <;> omega)
        obtain ⟨L2, hL⟩ : ∃ L, (L1 ++ if 0 < other then [⟨1, 2, 2, other⟩] else [] : List Mx.MAct) = L := ⟨_, rfl⟩
        rw [hL] at HJ2 HL2
        have HE2 := Lib.hid hL
        clear hL
        go_upto_if 162 with fail
        go_cut [] (fun wr => ∃ (Aa : Option Addr) (ca : Nat), Hid (JarW w wr s (V + 1) V (V + 1 + 1) Aa ca (L2 ++ if 0 < rest then [⟨2, 1, 2, rest⟩] else [])))
        case first =>
         as_aux_lemma =>
          by_cases h0 : 0 < rest
          ·have m0 := (HJ2.out.lay.blk 2 rfl).cell 2
           have lm := HJ2.out.lay.lt 2 rfl
           have mz := (HJ2.out.lay.blk 2 rfl).frozen 2
           have HJL := HJ2.out.le
           have hLb : L2.length + 1 ≤ maxLen := by simp only [maxLen]; have := HL2.out; omega
           go_wp2_with (at_builtin; refine wpList_append_any _ rfl _ _ rfl Mx.elem_act rfl (HJ2.out.own.alloc _) rfl (reads_blk (k := 4) (n := 1) (xs := [.int .i64 2, .int .i64 1, .int .i64 2, .int .i64 rest]) (Blk.new _ _ _) rfl) (by intro u hu; simp at hu; rcases hu with rfl | rfl | rfl | rfl <;> rfl) (by exact hLb) (by have := HL2.out; omega) (by simp; omega) ?_)
           rintro A8 c8 w8 hown hg hA
           have HJ8 := Lib.hid (HJ2.out.step ⟨2, 1, 2, rest⟩ hown hg hA)
           have bm := ((HJ2.out.lay.blk 2 rfl).below ((Below.refl _ _).alloc (Nat.le_refl _) (.cells #[.int .i64 2, .int .i64 1, .int .i64 2, .int .i64 rest] 43)) lm).grown hg (fun e => by obtain ⟨a, ha, hb⟩ := Option.map_eq_some_iff.1 e.symm; exact HJ2.out.row a ha hb)
           have q2 := bm.cell 2
           have qz := bm.frozen 2
           have ql := bm.lt
           clear hown hg hA bm m0 lm mz
           go_wp2_with fail
           go_meet
           case rel => exact ⟨A8, c8, Lib.hid (by rw [if_pos h0]; exact HJ8.out)⟩
          ·have h0' : decide (0 < rest) = false := by simp; omega
           go_wp2_with fail
           go_meet
           case rel => exact ⟨_, _, Lib.hid (by rw [if_neg (show ¬ 0 < rest by omega), List.append_nil]; exact HJ2.out)⟩
        case rest =>
         as_aux_lemma =>
  
        obtain ⟨Aq3, cq3, HJ3⟩ := hcut
        clear HJ2
        have HL3 := Lib.hid (show (L2 ++ if 0 < rest then [⟨2, 1, 2, rest⟩] else [] : List Mx.MAct).length ≤ 4 from by have := HL2.out; rw [List.length_append]; by_cases e : 0 < rest <;> simp [e] <;> omega)
        obtain ⟨L3, hL⟩ : ∃ L, (L2 ++ if 0 < rest then [⟨2, 1, 2, rest⟩] else [] : List Mx.MAct) = L := ⟨_, rfl⟩
        rw [hL] at HJ3 HL3
        have HE3 := Lib.hid hL
        clear hL
        have HM := Lib.hid (HJ3.out.mixS (by have := HL3.out; omega))
        have HC := Lib.hid HJ3.out.own.cap_le
        have HLay := Lib.hid HJ3.out.lay
        have m0 := (HLay.out.blk 2 rfl).cell 0
        have m1 := (HLay.out.blk 2 rfl).cell 1
        have m2 := (HLay.out.blk 2 rfl).cell 2
        have m3 := (HLay.out.blk 2 rfl).cell 3
        have lm := HLay.out.lt 2 rfl
        go_wp2_with fail
        refine (callsIn_wide.1 (Mx.holds_in (some ⟨V, 0, none⟩) 2 2 Aq3 L3.length cq3 none 0 0 (Mx.jarM s.drops L3) 2 (L3.length : Int) wc HM.out)).mono ?_
        rintro e X1 ⟨all, e1, rfl, k1, hb⟩
        have K1 := Lib.hid k1
        replace HLay := Lib.hid (HLay.out.below hb)
        replace HM := Lib.hid (HM.out.up hb)
        clear hb k1 m0 m1 m2 m3 lm HJ3
        have m0 := (HLay.out.blk 2 rfl).cell 0
        have m1 := (HLay.out.blk 2 rfl).cell 1
        have m2 := (HLay.out.blk 2 rfl).cell 2
        have m3 := (HLay.out.blk 2 rfl).cell 3
        have lm := HLay.out.lt 2 rfl
        go_wp2_with fail
        refine (callsIn_wide.1 (Mx.of_any (some ⟨V, 0, none⟩) 2 2 Aq3 L3.length cq3 none 0 0 (Mx.jarM s.drops L3) 2 (L3.length : Int) 1 X1 HM.out)).mono ?_
        rintro e X2 ⟨lo1, hi1, e2, rfl, k, hb⟩
        replace HLay := Lib.hid (HLay.out.below hb)
        replace HM := Lib.hid (HM.out.up hb)
        have K2 := Lib.hid k
        clear hb k m0 m1 m2 m3 lm
        go_upto_region 22 with fail
        have HX := Lib.hid (Lay.one X2 27 #[.int .i64 lo1, .int .i64 hi1])
        obtain ⟨X3, hW⟩ : ∃ W, (X2.alloc (.cells #[.int .i64 lo1, .int .i64 hi1] 27)) = W := ⟨_, rfl⟩
        rw [hW] at HX ⊢
        clear hW
        replace HM := Lib.hid (HM.out.up HX.out.bel)
        replace HLay := Lib.hid ((HLay.out.below HX.out.bel).add (g := X2.heap.size) HLay.out.1.size (HX.out.blk 0 rfl))
        obtain ⟨B1, hG⟩ : ∃ g, X2.heap.size = g := ⟨_, rfl⟩
        rw [hG] at HLay ⊢
        clear HX hG
        have m0 := (HLay.out.blk 2 rfl).cell 0
        have m1 := (HLay.out.blk 2 rfl).cell 1
        have m2 := (HLay.out.blk 2 rfl).cell 2
        have m3 := (HLay.out.blk 2 rfl).cell 3
        have lm := HLay.out.lt 2 rfl
        go_wp2_with fail
        refine (callsIn_wide.1 (Mx.of_any (some ⟨V, 0, none⟩) 2 2 Aq3 L3.length cq3 none 0 0 (Mx.jarM s.drops L3) 2 (L3.length : Int) 2 X3 HM.out)).mono ?_
        rintro e X4 ⟨lo2, hi2, e3, rfl, k, hb⟩
        replace HLay := Lib.hid (HLay.out.below hb)
        replace HM := Lib.hid (HM.out.up hb)
        have K3 := Lib.hid k
        clear hb k m0 m1 m2 m3 lm
        go_upto_region 23 with fail
        have HX := Lib.hid (Lay.one X4 27 #[.int .i64 lo2, .int .i64 hi2])
        obtain ⟨X5, hW⟩ : ∃ W, (X4.alloc (.cells #[.int .i64 lo2, .int .i64 hi2] 27)) = W := ⟨_, rfl⟩
        rw [hW] at HX ⊢
        clear hW
        replace HM := Lib.hid (HM.out.up HX.out.bel)
        replace HLay := Lib.hid ((HLay.out.below HX.out.bel).add (g := X4.heap.size) HLay.out.1.size (HX.out.blk 0 rfl))
        obtain ⟨B2, hG⟩ : ∃ g, X4.heap.size = g := ⟨_, rfl⟩
        rw [hG] at HLay ⊢
        clear HX hG
        have m0 := (HLay.out.blk 2 rfl).cell 0
        have m1 := (HLay.out.blk 2 rfl).cell 1
        have m2 := (HLay.out.blk 2 rfl).cell 2
        have m3 := (HLay.out.blk 2 rfl).cell 3
        have lm := HLay.out.lt 2 rfl
        go_wp2_with fail
        refine (callsIn_wide.1 (Mx.pure_any (some ⟨V, 0, none⟩) 2 2 Aq3 L3.length cq3 none 0 0 (Mx.jarM s.drops L3) 2 (L3.length : Int) 1 X5 HM.out)).mono ?_
        intro e X6 hpu
        obtain ⟨pv, e4, rfl, k, hb⟩ := Mx.pure_form hpu
        replace HLay := Lib.hid (HLay.out.below hb)
        replace HM := Lib.hid (HM.out.up hb)
        have K4 := Lib.hid k
        clear hb k hpu m0 m1 m2 m3 lm
        have m0 := (HLay.out.blk 2 rfl).cell 0
        have m1 := (HLay.out.blk 2 rfl).cell 1
        have m2 := (HLay.out.blk 2 rfl).cell 2
        have m3 := (HLay.out.blk 2 rfl).cell 3
        have lm := HLay.out.lt 2 rfl
        go_wp2_with fail
        refine (callsIn_wide.1 (Mx.met_in (some ⟨V, 0, none⟩) 2 2 Aq3 L3.length cq3 none 0 0 (Mx.jarM s.drops L3) 2 (L3.length : Int) 1 2 X6 HM.out HC.out)).mono ?_
        rintro e X7 ⟨met, e5, rfl, k, hb⟩
        replace HLay := Lib.hid (HLay.out.below hb)
        replace HM := Lib.hid (HM.out.up hb)
        have K5 := Lib.hid k
        clear hb k m0 m1 m2 m3 lm
        have m0 := (HLay.out.blk 2 rfl).cell 0
        have m1 := (HLay.out.blk 2 rfl).cell 1
        have m2 := (HLay.out.blk 2 rfl).cell 2
        have m3 := (HLay.out.blk 2 rfl).cell 3
        have lm := HLay.out.lt 2 rfl
        go_wp2_with fail
        refine (callsIn_wide.1 (Mx.gone_any (some ⟨V, 0, none⟩) 2 2 Aq3 L3.length cq3 none 0 0 (Mx.jarM s.drops L3) 1 X7 HM.out)).mono ?_
        rintro e X8 ⟨lo3, hi3, e6, rfl, k, hb⟩
        replace HLay := Lib.hid (HLay.out.below hb)
        replace HM := Lib.hid (HM.out.up hb)
        have K6 := Lib.hid k
        clear hb k m0 m1 m2 m3 lm
        go_upto_region 26 with fail
        have HX := Lib.hid (Lay.one X8 27 #[.int .i64 lo3, .int .i64 hi3])
        obtain ⟨X9, hW⟩ : ∃ W, (X8.alloc (.cells #[.int .i64 lo3, .int .i64 hi3] 27)) = W := ⟨_, rfl⟩
        rw [hW] at HX ⊢
        clear hW
        replace HM := Lib.hid (HM.out.up HX.out.bel)
        replace HLay := Lib.hid ((HLay.out.below HX.out.bel).add (g := X8.heap.size) HLay.out.1.size (HX.out.blk 0 rfl))
        obtain ⟨B3, hG⟩ : ∃ g, X8.heap.size = g := ⟨_, rfl⟩
        rw [hG] at HLay ⊢
        clear HX hG
        have HF := Lib.hid (jar_told HD.out ⟨hd1, hd2⟩ HRS.out HO2.out HE1.out HE2.out HE3.out K1.out K2.out K3.out K4.out K5.out K6.out)
        clear K1 K2 K3 K4 K5 K6 HE1 HE2 HE3 HL1 HL2 HL3 HM HC
        obtain ⟨⟨q1, q2, q3, q4, q5, q6⟩, q7, ⟨r1, r2⟩, ⟨r3, r4⟩, hpv, hmet, r5, r6⟩ := HF.out
        have HPV := Lib.hid hpv
        have HMT := Lib.hid hmet
        clear HF hpv hmet
        subst q1 q2 q3 q4 q5 q6 q7
        replace r1 := r1.symm
        replace r2 := r2.symm
        replace r3 := r3.symm
        replace r4 := r4.symm
        replace r5 := r5.symm
        replace r6 := r6.symm
        subst r1 r2 r3 r4 r5 r6
        go_upto_region 28 with fail
        have z0 := (HLay.out.blk 0 rfl).cell 0
        have lz := HLay.out.lt 0 rfl
        have w6 : IntKind.i64.wrap (s.drops - rest) = lost := (IntWalk.i64_in _ (by have := HRS.out; omega)).trans (by have := HD.out; omega)
        go_upto_region 29 with fail
        have w7 : IntKind.i64.wrap (rest + other) = rest + other := IntWalk.i64_in _ (by have := HRS.out; have := HO2.out; omega)
        have b10 := (HLay.out.blk 3 rfl).cell 0
        have b11 := (HLay.out.blk 3 rfl).cell 1
        have b1l := HLay.out.lt 3 rfl
        have b20 := (HLay.out.blk 4 rfl).cell 0
        have b21 := (HLay.out.blk 4 rfl).cell 1
        have b2l := HLay.out.lt 4 rfl
        have b30 := (HLay.out.blk 5 rfl).cell 0
        have b31 := (HLay.out.blk 5 rfl).cell 1
        have b3l := HLay.out.lt 5 rfl
        clear z0 lz w6
        by_cases ro : 0 < rest
        ·by_cases oo : 0 < other
         ·obtain rfl : met = true := HMT.out.2 ⟨ro, oo⟩
          have p1 : (pv == 2) = false := by have := HPV.out; simp; intro h; have := this.1 h; omega
          have p2 : (other == 0) = false := by simp; omega
          have p3 : ¬ pv = 2 := by have := HPV.out; omega
          have p4 : ¬ other = 0 := by omega
          as_aux_lemma =>
           go_wp2_with fail
           go_ret
           exact ⟨rfl, HLay.out.1⟩
         ·obtain rfl : 0 = other := by have := HO2.out; omega
          obtain rfl : met = false := by have := HMT.out; cases met with | false => rfl | true => exact absurd (this.1 rfl).2 (by omega)
          obtain rfl : pv = 2 := HPV.out.2 rfl
          have w8 : IntKind.i64.wrap rest = rest := IntWalk.i64_in _ (by have := HRS.out; omega)
          clear w7
          as_aux_lemma =>
           go_wp2_with fail
           go_ret
           exact ⟨rfl, HLay.out.1⟩
        ·obtain rfl : met = false := by have := HMT.out; cases met with | false => rfl | true => exact absurd (this.1 rfl).1 ro
         have ro' : decide (0 < rest) = false := by simp; omega
         by_cases oo : 0 < other
         ·have p1 : (pv == 2) = false := by have := HPV.out; simp; intro h; have := this.1 h; omega
          have p2 : (other == 0) = false := by simp; omega
          have p3 : ¬ pv = 2 := by have := HPV.out; omega
          have p4 : ¬ other = 0 := by omega
          as_aux_lemma =>
           go_wp2_with fail
           go_ret
           exact ⟨rfl, HLay.out.1⟩
         ·obtain rfl : 0 = other := by have := HO2.out; omega
          obtain rfl : pv = 2 := HPV.out.2 rfl
          have w8 : IntKind.i64.wrap rest = rest := IntWalk.i64_in _ (by have := HRS.out; omega)
          clear w7
          as_aux_lemma =>
           go_wp2_with fail
           go_ret
           exact ⟨rfl, HLay.out.1⟩
end Go.Proofs.YtjdgdeiedkickaaDoor
/- The table of checks as the row lists it: its three cells. The door's own heap meets the condition. -/
namespace Go.Proofs.YtjdgdeiedkickaaDoor
open Go.ChangeShapes Go.WideShapes Go.ChangeAt Go.RowKit
set_option maxRecDepth 100000

def laidL : List (String × DataW Unit) := [("aguador/climb.checks", Rows.laid_aguador_climb_checks)]
theorem gChecks : Tryd.prog.globalNamed "aguador/climb.checks" = some 0 := by kernel_rfl
theorem tChecks : (Tryd.prog.globals[0]?).map (·.type) = some 131 := by kernel_rfl
theorem cellsCheck : Tryd.prog.cellsOf 130 = 1 := by kernel_rfl
theorem cellsFuncB : Tryd.prog.cellsOf 32 = 1 := by kernel_rfl
theorem checkUnd : ∃ f, Tryd.prog.underlying 130 = some (.struct #[f]) ∧ f.type = 32 ∧ f.offset = 0 := ⟨_, Tryd.underlying130, rfl, rfl⟩

/-- The door's own heap meets the condition. -/
theorem door_met (os : Os) (args : Array Value) : laidMetH Tryd.prog laidL ((World.doorLaid Tryd.prog 800 os).forCall (fun _ _ => 0) ⟨#[], args, []⟩).memory :=
 laidMetH_of_parts3 (fuel := 8) (laidMet_of_run' 8 (by kernel_rfl) (by kernel_rfl)) (by kernel_rfl) (by kernel_rfl)

theorem check_cell {W : World} {fuel : Nat} {cs : List Value} {b : UInt8} {r : List UInt8} {q : List MemPlace} {f0 : FuncId} (h : DataW.trod (funcToken Tryd.prog) Tryd.prog W 0 (fun _ => true) true fuel 130 cs = some (.agg [.held (b :: r)], q))
  (hone : ((List.range Tryd.prog.funcs.size).filter fun f => (Tryd.prog.funcs[f]?).any (·.name.toUTF8.data.toList == b :: r)) = [f0]) : cs = [.func (.func f0) #[] #[]] := by
 obtain ⟨f, hu, ht, ho⟩ := checkUnd
 obtain ⟨y0, n, hx, hl, h0⟩ := trod_struct1 hu h
 rw [cellsCheck] at hl
 match cs, hl with
 | [c], _ =>
  have h1 : DataW.trod (funcToken Tryd.prog) Tryd.prog W 0 (fun _ => true) true n 32 [c] = some y0 := by simpa [ht, ho, cellsFuncB] using h0
  simp only [Prod.mk.injEq, DataW.agg.injEq, List.cons.injEq, and_true] at hx
  obtain ⟨z, p⟩ := y0
  obtain ⟨e1, e2⟩ := hx
  simp only at e1
  subst e1
  rw [func_of_trod Tryd.underlying32 hone h1]

theorem of_laid {W : World} (h : laidMetH Tryd.prog laidL W) : Laid W := by
 obtain ⟨g, t, cs, fuel, p, hg, ht, hv, hd⟩ := h.funcs (List.mem_singleton.2 rfl)
 obtain rfl := Option.some.inj (gChecks.symm.trans hg)
 obtain rfl := Option.some.inj (tChecks.symm.trans ht)
 obtain ⟨xs, m, _, hx, hlen, hn, hel⟩ := DataW.trod_array Tryd.underlying131 hd
 rw [cellsCheck] at hel
 match xs, hn with
 | [x0, x1, x2], _ =>
  have h0 := hel 0 (by decide)
  have h1 := hel 1 (by decide)
  have h2 := hel 2 (by decide)
  simp only [Prod.mk.injEq] at hx
  have hx1 := hx.1
  simp only [DataW.funcsOut, DataW.funcsOutAll, List.map_cons, List.map_nil, DataW.agg.injEq, List.cons.injEq, and_true] at hx1
  obtain ⟨e0, e1, e2⟩ := hx1
  obtain ⟨x0, p0⟩ := x0
  obtain ⟨x1, p1⟩ := x1
  obtain ⟨x2, p2⟩ := x2
  simp only at e0 e1 e2
  subst e0 e1 e2
  have k0 := check_cell (f0 := 100) h0 (by kernel_rfl)
  have k1 := check_cell (f0 := 101) h1 (by kernel_rfl)
  have k2 := check_cell (f0 := 102) h2 (by kernel_rfl)
  have at_ : ∀ i, W.cell? ⟨0, i, none⟩ = cs[i]? := fun i => by simpa using World.var?_cell hg hv i
  obtain ⟨l⟩ := cs
  have c0 : W.cell? ⟨0, 0, none⟩ = some (.func (.func 100) #[] #[]) := by
   rw [at_]
   have := congrArg (·[0]?) k0
   simpa [List.getElem?_take, List.getElem?_drop] using this
  have c1 : W.cell? ⟨0, 1, none⟩ = some (.func (.func 101) #[] #[]) := by
   rw [at_]
   have := congrArg (·[0]?) k1
   simpa [List.getElem?_take, List.getElem?_drop] using this
  have c2 : W.cell? ⟨0, 2, none⟩ = some (.func (.func 102) #[] #[]) := by
   rw [at_]
   have := congrArg (·[0]?) k2
   simpa [List.getElem?_take, List.getElem?_drop] using this
  exact ⟨c0, c1, c2, World.block_lt_of_cell? W _ c0⟩

end Go.Proofs.YtjdgdeiedkickaaDoor
/- The laws' arguments, opened: lists of whole numbers, lists of links, towns, a link; the table of checks. -/
namespace Go.Proofs.YtjdgdeiedkickaaDoor
open Go.ChangeShapes Go.WideShapes Go.RowKit Go.Deep Go.Joins
set_option maxRecDepth 100000

section
variable {H : Type} {enc : TypeId × Value → H} {P : Program} {w : World} {base : Nat} {spare : Nat → Bool} {held : Bool}
end

section
variable {H : Type} {enc : TypeId × Value → H} {w : World}

theorem linkUnd : ∃ f0 f1 f2 f3 f4, Tryd.prog.underlying 58 = some (.struct #[f0, f1, f2, f3, f4]) ∧ oneCellFields Tryd.prog #[f0, f1, f2, f3, f4] = true ∧ f0.type = 3 ∧ f1.type = 3 ∧ f2.type = 3 ∧ f3.type = 3 ∧ f4.type = 3 ∧ f0.offset = 0 ∧ f1.offset = 1 ∧ f2.offset = 2 ∧ f3.offset = 3 ∧ f4.offset = 4 :=
 ⟨_, _, _, _, _, Tryd.underlying58, by kernel_rfl, rfl, rfl, rfl, rfl, rfl, rfl, rfl, rfl, rfl, rfl⟩
theorem cellsLink : Tryd.prog.cellsOf 58 = 5 := by kernel_rfl
theorem cellsInt1 : Tryd.prog.cellsOf 3 = 1 := by kernel_rfl
theorem cellsTown2 : Tryd.prog.cellsOf 25 = 2 := by kernel_rfl

/-- A list of whole numbers. -/
theorem ints_open {v : Value} {fuel : Nat} {x : DataW H × List MemPlace} (h : DataW.trod enc Tryd.prog w 0 (fun _ => true) true fuel 22 [v] = some x) :
  ∃ A n c l, v = .slice A n c ∧ n ≤ c ∧ n ≤ maxLen ∧ c ≤ maxLen ∧ IntsAt w w.heap.size A n l := by
 rcases open_slice1 Tryd.underlying22 cellsInt1 h with ⟨e, _⟩ | ⟨a, len, cap, m, k, V, D, Pl, e, _, hl, hm, hmm, _, hx⟩
 ·simp only [List.cons.injEq, and_true] at e
  exact ⟨none, 0, 0, [], e, Nat.le_refl _, Nat.zero_le _, Nat.zero_le _, Reads.none_⟩
 ·simp only [List.cons.injEq, and_true] at e
  have hmc : m = cap := by simpa using hmm
  subst hmc
  have hn : ∀ i, i < m → ∃ z : Int, V i = .int .i64 z := fun i hi => by
   obtain ⟨z, f0, _, _⟩ := DataW.trod_int Tryd.underlying3 (hx i hi).2
   simp only [List.cons.injEq, and_true] at f0
   exact ⟨z, f0⟩
  obtain ⟨Z, hZ⟩ := choose_lt hn
  refine ⟨some a, len, m, (List.range len).map Z, e, hl, by omega, hm, by simp, fun h0 => ⟨a, rfl, ?_, fun j u hu => ?_⟩⟩
  ·have := World.block_lt_of_cell? w _ (hx 0 (by omega)).1
   rwa [block_of_add] at this
  ·simp only [List.getElem?_map, Option.map_map] at hu
   have hj : j < len := by
    rcases Nat.lt_or_ge j len with h' | h'
    ·exact h'
    ·rw [List.getElem?_eq_none (by simpa using h')] at hu; cases hu
   rw [List.getElem?_range hj] at hu
   simp only [Option.map_some, Option.some.injEq, Function.comp] at hu
   rw [(hx j (by omega)).1, hZ j (by omega), ← hu]

/-- A link's five cells. -/
theorem link_cells {fuel : Nat} {cs : List Value} {x : DataW H × List MemPlace} (h : DataW.trod enc Tryd.prog w 0 (fun _ => true) true fuel 58 cs = some x) (hl : cs.length = 5) : ∃ l : Link, cs = l.vals := by
 obtain ⟨f0, f1, f2, f3, f4, hu, hone, t0, t1, t2, t3, t4, z0, z1, z2, z3, z4⟩ := linkUnd
 obtain ⟨xs, n, _, _, _, hlen, hg⟩ := DataW.trod_struct hu h
 match cs, hl, xs, hlen with
 | [c0, c1, c2, c3, c4], _, [y0, y1, y2, y3, y4], _ =>
  have h0 : DataW.trod enc Tryd.prog w 0 (fun _ => true) true n 3 [c0] = some y0 := by simpa [t0, z0, cellsInt1] using hg 0 f0 rfl
  have h1 : DataW.trod enc Tryd.prog w 0 (fun _ => true) true n 3 [c1] = some y1 := by simpa [t1, z1, cellsInt1] using hg 1 f1 rfl
  have h2 : DataW.trod enc Tryd.prog w 0 (fun _ => true) true n 3 [c2] = some y2 := by simpa [t2, z2, cellsInt1] using hg 2 f2 rfl
  have h3 : DataW.trod enc Tryd.prog w 0 (fun _ => true) true n 3 [c3] = some y3 := by simpa [t3, z3, cellsInt1] using hg 3 f3 rfl
  have h4 : DataW.trod enc Tryd.prog w 0 (fun _ => true) true n 3 [c4] = some y4 := by simpa [t4, z4, cellsInt1] using hg 4 f4 rfl
  obtain ⟨n0, e0, _, _⟩ := DataW.trod_int Tryd.underlying3 h0
  obtain ⟨n1, e1, _, _⟩ := DataW.trod_int Tryd.underlying3 h1
  obtain ⟨n2, e2, _, _⟩ := DataW.trod_int Tryd.underlying3 h2
  obtain ⟨n3, e3, _, _⟩ := DataW.trod_int Tryd.underlying3 h3
  obtain ⟨n4, e4, _, _⟩ := DataW.trod_int Tryd.underlying3 h4
  simp only [List.cons.injEq, and_true] at e0 e1 e2 e3 e4
  subst e0 e1 e2 e3 e4
  exact ⟨⟨n0, n1, n2, n3, n4⟩, rfl⟩

/-- A list of links. -/
theorem links_open {v : Value} {fuel : Nat} {x : DataW H × List MemPlace} (h : DataW.trod enc Tryd.prog w 0 (fun _ => true) true fuel 23 [v] = some x) :
  ∃ A n c l, v = .slice A n c ∧ n ≤ c ∧ n ≤ maxLen ∧ c ≤ maxLen ∧ LinksAt w w.heap.size A n l := by
 rcases open_slice Tryd.underlying23 h with ⟨e, _⟩ | ⟨a, len, cap, m, k, D, Pl, e, _, hl, hm, hmm, _, hx⟩
 ·simp only [List.cons.injEq, and_true] at e
  exact ⟨none, 0, 0, [], e, Nat.le_refl _, Nat.zero_le _, Nat.zero_le _, Reads.none_⟩
 ·simp only [List.cons.injEq, and_true] at e
  have hmc : m = cap := by simpa using hmm
  subst hmc
  have hn : ∀ i, i < m → ∃ z : Link, ∀ j, j < 5 → w.cell? (a.add (i * 5 + j)) = z.vals[j]? := fun i hi => by
   obtain ⟨cs', h1, h2⟩ := hx i hi
   rw [cellsLink] at h1
   obtain ⟨_, hcl, hat⟩ := World.cells?_some h1
   obtain ⟨z, rfl⟩ := link_cells h2 hcl
   exact ⟨z, fun j hj => by rw [← Go.Deep.add_add, hat j hj]⟩
  letI : Inhabited Link := ⟨⟨0, 0, 0, 0, 0⟩⟩
  obtain ⟨Z, hZ⟩ := choose_lt hn
  refine ⟨some a, len, m, (List.range len).map Z, e, hl, by omega, hm, by rw [flat_len]; simp, fun h0 => ⟨a, rfl, ?_, fun j u hu => ?_⟩⟩
  ·have := World.block_lt_of_cell? w _ (hZ 0 (by omega) 0 (by omega))
   rwa [block_of_add] at this
  ·have hj : j < len * 5 := by
    rcases Nat.lt_or_ge j (len * 5) with h' | h'
    ·exact h'
    ·rw [List.getElem?_eq_none (by rw [flat_len]; simpa using h')] at hu; cases hu
   have hz := hZ (j / 5) (by omega) (j % 5) (by omega)
   have ha : ((List.range len).map Z)[j / 5]? = some (Z (j / 5)) := by rw [List.getElem?_map, List.getElem?_range (by omega)]; rfl
   have hf := flat_at ha (show j % 5 < 5 by omega)
   rw [show j / 5 * 5 + j % 5 = j by omega] at hf hz
   rw [hz, ← hf, hu]

/-- A town, by value. -/
theorem town_open {r : Reach} {b0 : Nat} {v : Value} {d : DataW H} {p : List MemPlace} (hv : Value.okWide Tryd.prog w r b0 25 v) (h : DataW.Trod enc Tryd.prog w 0 (fun _ => true) true 25 v d p) :
  ∃ A n c A' m d' t, v = .agg #[.slice A n c, .slice A' m d'] ∧ n ≤ maxLen ∧ m ≤ maxLen ∧ n ≤ c ∧ m ≤ d' ∧ TownAt w w.heap.size A n A' m t := by
 obtain ⟨v0, v1, y0, y1, k, rfl, _, _, h0, h1⟩ := open_agg2 Tryd.underlying25 (by kernel_rfl) cellsTown2 hv h
 obtain ⟨A, n, c, l, rfl, hn, hx, _, hr⟩ := ints_open h0
 obtain ⟨A', m, d', l', rfl, hm, hx', _, hr'⟩ := links_open h1
 exact ⟨A, n, c, A', m, d', ⟨l, l'⟩, rfl, hx, hx', hn, hm, ⟨hr, hr'⟩⟩
end

end Go.Proofs.YtjdgdeiedkickaaDoor
/- The laws' arguments, opened: skins and gaits. What every row's proof wants. -/
namespace Go.Proofs.YtjdgdeiedkickaaDoor
open Go.ChangeShapes Go.WideShapes Go.RowKit Go.Deep Go.Joins
set_option maxRecDepth 100000
theorem ownT' : ownKnob Tryd.prog.godebug = none := by kernel_rfl
theorem laidOutT' : laidOutB Tryd.prog = true := by kernel_rfl
section
variable {H : Type} {enc : TypeId × Value → H} {w : World}
theorem spanUnd : ∃ f0 f1, Tryd.prog.underlying 27 = some (.struct #[f0, f1]) ∧ f0.type = 3 ∧ f1.type = 3 ∧ f0.offset = 0 ∧ f1.offset = 1 := ⟨_, _, Tryd.underlying27, rfl, rfl, rfl, rfl⟩
theorem skinUnd : ∃ f0 f1 f2, Tryd.prog.underlying 29 = some (.struct #[f0, f1, f2]) ∧ f0.type = 3 ∧ f1.type = 27 ∧ f2.type = 27 ∧ f0.offset = 0 ∧ f1.offset = 1 ∧ f2.offset = 3 := ⟨_, _, _, Tryd.underlying29, rfl, rfl, rfl, rfl, rfl, rfl⟩
theorem cellsSpan : Tryd.prog.cellsOf 27 = 2 := by kernel_rfl
theorem cellsSkin : Tryd.prog.cellsOf 29 = 5 := by kernel_rfl
theorem span_cells {fuel : Nat} {cs : List Value} {x : DataW H × List MemPlace} (h : DataW.trod enc Tryd.prog w 0 (fun _ => true) true fuel 27 cs = some x) (hl : cs.length = 2) : ∃ s : Span, cs = s.vals := by
 obtain ⟨f0, f1, hu, t0, t1, z0, z1⟩ := spanUnd
 obtain ⟨xs, n, _, _, _, hlen, hg⟩ := DataW.trod_struct hu h
 match cs, hl, xs, hlen with
 | [c0, c1], _, [y0, y1], _ =>
  have h0 : DataW.trod enc Tryd.prog w 0 (fun _ => true) true n 3 [c0] = some y0 := by simpa [t0, z0, cellsInt1] using hg 0 f0 rfl
  have h1 : DataW.trod enc Tryd.prog w 0 (fun _ => true) true n 3 [c1] = some y1 := by simpa [t1, z1, cellsInt1] using hg 1 f1 rfl
  obtain ⟨n0, e0, _, _⟩ := DataW.trod_int Tryd.underlying3 h0
  obtain ⟨n1, e1, _, _⟩ := DataW.trod_int Tryd.underlying3 h1
  simp only [List.cons.injEq, and_true] at e0 e1
  subst e0 e1
  exact ⟨⟨n0, n1⟩, rfl⟩
theorem skinArg_open {r : Reach} {b0 : Nat} {v : Value} {d : DataW H} {p : List MemPlace} (hv : Value.okWide Tryd.prog w r b0 29 v) (h : DataW.Trod enc Tryd.prog w 0 (fun _ => true) true 29 v d p) :
  ∃ s : Skin, v = .agg #[.int .i64 s.drops, .int .i64 s.pace.lo, .int .i64 s.pace.hi, .int .i64 s.step.lo, .int .i64 s.step.hi] := by
 obtain ⟨f0, f1, f2, hu, t0, t1, t2, z0, z1, z2⟩ := skinUnd
 obtain ⟨cs, rfl, hsz⟩ := okWide_struct hu hv
 obtain ⟨fuel, hf⟩ := h
 obtain ⟨l⟩ := cs
 obtain ⟨xs, n, _, _, _, hlen, hg⟩ := DataW.trod_struct hu hf
 rw [cellsSkin] at hsz
 match l, hsz, xs, hlen with
 | [c0, c1, c2, c3, c4], _, [y0, y1, y2], _ =>
  have h0 : DataW.trod enc Tryd.prog w 0 (fun _ => true) true n 3 [c0] = some y0 := by simpa [t0, z0, cellsInt1, Value.cells] using hg 0 f0 rfl
  have h1 : DataW.trod enc Tryd.prog w 0 (fun _ => true) true n 27 [c1, c2] = some y1 := by simpa [t1, z1, cellsSpan, Value.cells] using hg 1 f1 rfl
  have h2 : DataW.trod enc Tryd.prog w 0 (fun _ => true) true n 27 [c3, c4] = some y2 := by simpa [t2, z2, cellsSpan, Value.cells] using hg 2 f2 rfl
  obtain ⟨n0, e0, _, _⟩ := DataW.trod_int Tryd.underlying3 h0
  obtain ⟨s1, e1⟩ := span_cells h1 rfl
  obtain ⟨s2, e2⟩ := span_cells h2 rfl
  simp only [Span.vals, List.cons.injEq, and_true] at e0 e1 e2
  obtain ⟨rfl, rfl⟩ := e1
  obtain ⟨rfl, rfl⟩ := e2
  subst e0
  exact ⟨⟨n0, s1, s2⟩, rfl⟩
end
end Go.Proofs.YtjdgdeiedkickaaDoor
/- A law's arguments opened: bytes, and lists of bytes. -/
namespace Go.Proofs.YtjdgdeiedkickaaDoor
open Go.ChangeShapes Go.WideShapes Go.RowKit Go.Deep Go.Joins
set_option maxRecDepth 100000
section
variable {H : Type} {enc : TypeId × Value → H} {w : World}
theorem u8_wf {z : Int} (h : (Lit.int .u8 z).wf = true) : 0 ≤ z ∧ z ≤ 255 := by
 simp [Lit.wf] at h
 have h1 : IntKind.u8.min = 0 := rfl
 have h2 : IntKind.u8.max = 255 := rfl
 omega
theorem u8_open {v : Value} {d : DataW H} {p : List MemPlace} (h : DataW.Trod enc Tryd.prog w 0 (fun _ => true) true 5 v d p) (hv : ∃ z : Int, v = .int .u8 z) : ∃ x : Nat, v = .int .u8 (x : Nat) ∧ x ≤ 255 := by
 obtain ⟨z, rfl⟩ := hv
 obtain ⟨fuel, hf⟩ := h
 obtain ⟨n, e, _, hw⟩ := DataW.trod_int Tryd.underlying5 hf
 have e' : n = z := by simpa [Value.cells] using e.symm
 subst e'
 have hb := u8_wf hw
 obtain ⟨k, rfl⟩ := Int.eq_ofNat_of_zero_le hb.1
 exact ⟨k, rfl, by omega⟩
theorem cellsU81 : Tryd.prog.cellsOf 5 = 1 := by kernel_rfl
theorem bytes_open {v : Value} {fuel : Nat} {x : DataW H × List MemPlace} (h : DataW.trod enc Tryd.prog w 0 (fun _ => true) true fuel 30 [v] = some x) :
  ∃ A n c l, v = .slice A n c ∧ n ≤ c ∧ n ≤ maxLen ∧ c ≤ maxLen ∧ BytesAt w w.heap.size A n l := by
 rcases open_slice1 Tryd.underlying30 cellsU81 h with ⟨e, _⟩ | ⟨a, len, cap, m, k, V, D, Pl, e, _, hl, hm, hmm, _, hx⟩
 ·simp only [List.cons.injEq, and_true] at e
  exact ⟨none, 0, 0, [], e, Nat.le_refl _, Nat.zero_le _, Nat.zero_le _, Reads.none_, by simp⟩
 ·simp only [List.cons.injEq, and_true] at e
  have hmc : m = cap := by simpa using hmm
  subst hmc
  have hn : ∀ i, i < m → ∃ z : Nat, V i = .int .u8 (z : Nat) ∧ z ≤ 255 := fun i hi => by
   obtain ⟨z, f0, _, hw⟩ := DataW.trod_int Tryd.underlying5 (hx i hi).2
   simp only [List.cons.injEq, and_true] at f0
   have hb := u8_wf hw
   obtain ⟨k, rfl⟩ := Int.eq_ofNat_of_zero_le hb.1
   exact ⟨k, f0, by omega⟩
  obtain ⟨Z, hZ⟩ := choose_lt hn
  refine ⟨some a, len, m, (List.range len).map Z, e, hl, by omega, hm, ⟨by simp, fun h0 => ⟨a, rfl, ?_, fun j u hu => ?_⟩⟩, fun b hb => ?_⟩
  ·have := World.block_lt_of_cell? w _ (hx 0 (by omega)).1
   rwa [block_of_add] at this
  ·simp only [List.getElem?_map, Option.map_map] at hu
   have hj : j < len := by
    rcases Nat.lt_or_ge j len with h' | h'
    ·exact h'
    ·rw [List.getElem?_eq_none (by simpa using h')] at hu; cases hu
   rw [List.getElem?_range hj] at hu
   simp only [Option.map_some, Option.some.injEq, Function.comp] at hu
   rw [(hx j (by omega)).1, (hZ j (by omega)).1, ← hu]
  ·obtain ⟨j, hj, rfl⟩ := List.mem_map.1 hb
   exact (hZ j (by have := List.mem_range.1 hj; omega)).2
end
end Go.Proofs.YtjdgdeiedkickaaDoor
/- TopWet: whatever the arguments, the law answers true. The row, and the card. -/
namespace Go.Proofs.YtjdgdeiedkickaaDoor
open Go.ChangeShapes Go.WideShapes Go.ChangeAt Go.RowKit Go.Joins

set_option maxRecDepth 100000 in
theorem topWet_lifted (os : Os) (started : os.Started) (H : Type) (enc : TypeId × Value → H) :
  ReturnsInHanded {} Tryd.checked os 3 .any (fun w args => (Rows.topWetSpec.pre enc Tryd.prog Tryd.f3 [] false w args ∧ laidMetH Tryd.prog laidL w) ∧ sizedMet enc Tryd.prog Tryd.f3 (OpenSpec.ofChange Rows.topWetSpec) false w args)
   (Rows.topWetSpec.post enc Tryd.prog Tryd.f3 false true false false) := by
 refine returnsInHanded_of_change_and (C := Tryd.checked) (X := fun w _ => laidMetH Tryd.prog laidL w) (fun _ _ _ hh h => h.of_heap hh) ownT' started (by kernel_rfl) Tryd.func3
  (ChangeSpec.witness_shaped (enc := enc) (C := Tryd.checked) (os := os) (X := fun w _ => laidMetH Tryd.prog laidL w) false (World.doorLaid Tryd.prog 800 os) #[.agg #[.slice none 0 0, .slice none 0 0], .agg #[.int .i64 0, .int .i64 0, .int .i64 0, .int .i64 0, .int .i64 0], .int .u8 0, .slice none 0 0, .int .u8 0, .int .u8 0] 8 rfl (World.shaped_of_RefB (by kernel_rfl) (by kernel_rfl)) (by kernel_rfl) (by kernel_rfl) (by kernel_rfl) (door_met os _)) ?_
 intro W base args ds gs before hval0 hW _ _ hL _
 have hval : ∀ (j : Nat) t v, Tryd.f3.params[j]? = some t → args[j]? = some v → Value.okWide Tryd.prog W .any base t v := hval0
 have hW' := hW
 obtain ⟨p, q, hA0, hV, rfl, hfz, hnd⟩ := hW
 have hA : DataW.TrodAll enc Tryd.prog W 0 (fun _ => true) true Tryd.f3.params.toList args.toList ds p := hA0
 rw [Tryd.params3] at hA hval
 obtain ⟨v0, vs0, d0, ds0, p0, q0, hargs, rfl, rfl, h0, r0⟩ := trodAll_cons hA
 obtain ⟨v1, vs1, d1, ds1, p1, q1, rfl, rfl, rfl, h1, r1⟩ := trodAll_cons r0
 obtain ⟨v2, vs2, d2, ds2, p2, q2, rfl, rfl, rfl, h2, r2⟩ := trodAll_cons r1
 obtain ⟨v3, vs3, d3, ds3, p3, q3, rfl, rfl, rfl, h3, r3⟩ := trodAll_cons r2
 obtain ⟨v4, vs4, d4, ds4, p4, q4, rfl, rfl, rfl, h4, r4⟩ := trodAll_cons r3
 obtain ⟨v5, vs5, d5, ds5, p5, q5, rfl, rfl, rfl, h5, r5⟩ := trodAll_cons r4
 obtain ⟨rfl, rfl, rfl⟩ := trodAll_nil r5
 obtain rfl : args = #[v0, v1, v2, v3, v4, v5] := by cases args; simp_all
 obtain ⟨rfl, rfl⟩ := trodVars_none hV
 have lt0 : ∀ x ∈ p0, x.block < W.heap.size := by obtain ⟨m, hm⟩ := h0; exact DataW.trod_lt m _ _ _ hm
 have lt1 : ∀ x ∈ p1, x.block < W.heap.size := by obtain ⟨m, hm⟩ := h1; exact DataW.trod_lt m _ _ _ hm
 have lt2 : ∀ x ∈ p2, x.block < W.heap.size := by obtain ⟨m, hm⟩ := h2; exact DataW.trod_lt m _ _ _ hm
 have lt3 : ∀ x ∈ p3, x.block < W.heap.size := by obtain ⟨m, hm⟩ := h3; exact DataW.trod_lt m _ _ _ hm
 have lt4 : ∀ x ∈ p4, x.block < W.heap.size := by obtain ⟨m, hm⟩ := h4; exact DataW.trod_lt m _ _ _ hm
 have lt5 : ∀ x ∈ p5, x.block < W.heap.size := by obtain ⟨m, hm⟩ := h5; exact DataW.trod_lt m _ _ _ hm
 have hl := of_laid hL
 obtain ⟨A, n, c, A', m, d, t, e0, hn, hm, hnc, hmd, ht⟩ := town_open (hval 0 25 v0 rfl rfl) h0
 obtain ⟨s1, e1⟩ := skinArg_open (hval 1 29 v1 rfl rfl) h1
 obtain ⟨s2, e2, hb2⟩ := u8_open h2 (okWide_int Tryd.underlying5 (hval 2 5 v2 rfl rfl))
 obtain ⟨A2x3, k2x3, c2x3, e3⟩ := okWide_slice Tryd.underlying30 (hval 3 30 v3 rfl rfl)
 have hh3 := h3
 obtain ⟨fu3, hf3⟩ := hh3
 rw [e3, show (Value.slice A2x3 k2x3 c2x3).cells = #[.slice A2x3 k2x3 c2x3] from rfl] at hf3
 obtain ⟨B3, j3, b3, l3, e3', hcc3, hk3, _, hr3⟩ := bytes_open hf3
 rw [← e3] at e3'
 clear e3 hf3
 obtain ⟨s4, e4, hb4⟩ := u8_open h4 (okWide_int Tryd.underlying5 (hval 4 5 v4 rfl rfl))
 obtain ⟨s5, e5, hb5⟩ := u8_open h5 (okWide_int Tryd.underlying5 (hval 5 5 v5 rfl rfl))
 clear hA0 hval0 hval
 subst e0 e1 e2 e3' e4 e5
 refine (topWet_walk A n c A' m d t s1 s2 B3 j3 b3 l3 s4 s5 W hb2 hb4 hb5 hk3 ht hr3 hl).mono fun e W' ⟨he, bel⟩ => ?_
 subst he
 exact ⟨_, rfl, _, _, _, [], _, [], hW', trodAll_mk1 (shut_bool Tryd.underlying4 _), (trodAll_cons_mk (Below.trod laidOutT' (by kernel_rfl) (of_decide_eq_true (by kernel_rfl)) h0 bel lt0) (trodAll_cons_mk (Below.trod laidOutT' (by kernel_rfl) (of_decide_eq_true (by kernel_rfl)) h1 bel lt1) (trodAll_cons_mk (Below.trod laidOutT' (by kernel_rfl) (of_decide_eq_true (by kernel_rfl)) h2 bel lt2) (trodAll_cons_mk (Below.trod laidOutT' (by kernel_rfl) (of_decide_eq_true (by kernel_rfl)) h3 bel lt3) (trodAll_cons_mk (Below.trod laidOutT' (by kernel_rfl) (of_decide_eq_true (by kernel_rfl)) h4 bel lt4) (trodAll_cons_mk (Below.trod laidOutT' (by kernel_rfl) (of_decide_eq_true (by kernel_rfl)) h5 bel lt5) trodAll_mk0)))))), rfl, bel.frame _, fun h => by cases h⟩

theorem topWet_holds : Rows.TopWetSaid :=
 OpenClaim.holds_of_wide 3 Tryd.f3 rfl rfl rfl rfl rfl rfl rfl ⟨rfl, rfl, rfl, rfl, rfl⟩ rfl rfl rfl rfl rfl (by kernel_rfl) Tryd.func3 (by kernel_rfl)
  (of_decide_eq_true (by kernel_rfl)) (by unfold Func.isWrapper; first | (rw [if_pos (by decide +kernel)]; kernel_rfl) | (rw [if_neg (by decide +kernel)]; exact ⟨rfl, rfl⟩))
  (fun os started H enc _ => topWet_lifted os started H enc)

theorem topWet_card : Rows.TopWetCardSaid :=
 Claim7.holds_tied_plain_at .later [] [.funcs] true (true, "eaf7db457487fb1e267765823c70781e76770ccfb846c64bbb3989069861e2cc") false
  topWet_holds (fun _ h => by cases h) (by kernel_rfl) (fun _ h => by cases h) topWet_row_tie rfl ⟨rfl, rfl⟩ (by kernel_rfl) rfl
  (fun f fn hf hfn => by
   obtain rfl : f = 3 := Option.some.inj ((show Tryd.prog.funcNamed "aguador/aguadortop.TopWet" = some 3 by kernel_rfl).symm.trans hf) |>.symm
   obtain rfl : fn = Tryd.f3 := (Option.some.inj (Tryd.func3.symm.trans hfn)).symm
   exact ⟨by kernel_rfl, fun j t ht => by
    rw [Tryd.params3] at ht
    have hm : t ∈ [25, 29, 5, 30, 5, 5] := by simpa using Array.mem_of_getElem? ht
    have hall : ([25, 29, 5, 30, 5, 5].all fun u => !Tryd.prog.wantsStandIn u) = true := by kernel_rfl
    exact (show Tryd.prog.wantsStandIn t = false by simpa using List.all_eq_true.1 hall t hm)⟩)
  (by kernel_rfl)
#print axioms topWet_card
end Go.Proofs.YtjdgdeiedkickaaDoor
