/- Part 8 of the texts of this claim, joined. -/
import Derived.Sort.CutIn
import Derived.IntWalk
import Derived.ChangeKeysEq
import Derived.Test.YthofngceiecniaaMxW7
set_option linter.unusedVariables false
/- The answer's goes: where two drops can be after an act. -/
namespace Go.Proofs.Ythofngceiecniaa
section
open Go.RowKit Go.Shelf
attribute [local go_sem] Oper.semAt_some
structure Er5 {α : Type} (P : α → Prop) : Prop where
 ex : ∃ a, P a
def prC (q : Int × Int) : List Value := [.int .i64 q.1, .int .i64 q.2]
theorem info_pr : (Try.prog.info? 129).map (fun i => (i.zero, i.size, i.bytes)) = some (some (.agg #[.int .i64 0, .int .i64 0]), 2, 16) := by kernel_rfl
theorem elem_pr : ElemAt Try.prog 134 129 (.agg #[.int .i64 0, .int .i64 0]) 2 16 := by
 obtain ⟨i0, hi, hz0, hz1, hz2⟩ := info_parts info_pr
 exact ⟨i0, Try.underlying134, hi, hz0, hz1, hz2, rfl, by decide⟩
theorem w_b1 (b : Bool) : wrap64 (b1 b + 1) = b1 b + 1 := by cases b <;> (unfold b1 wrap64; simp)
theorem pr_one (a b : Int) : ∀ u ∈ [Value.int .i64 a, Value.int .i64 b], u.oneCell' = true := by
 intro u hu
 simp only [List.mem_cons, List.not_mem_nil, or_false] at hu
 rcases hu with rfl | rfl <;> rfl
theorem own_new (w : World) (t : TypeId) {xs : List Value} {n size : Nat} (hn : xs.length = n * size) (hm : n ≤ maxLen) : Own (w.alloc (.cells xs.toArray t)) w.heap.size t size (some ⟨w.heap.size, 0, none⟩) n n xs :=
 ⟨hn, .inr ⟨w.heap.size, n, xs.toArray, rfl, Nat.le_refl _, Blk.new w t _, Nat.le_refl _, hm, by simpa using hn, by rw [← hn]; simp⟩⟩
theorem lay_three {w W : World} {b0 b1 b2 b3 : Nat × TypeId × Array Value} (h : Lay w W [b0, b1, b2, b3]) : Lay w W [b0, b1, b2] :=
 ⟨h.1, fun b hb => h.2 b (by simp only [List.mem_cons, List.not_mem_nil, or_false] at hb ⊢; rcases hb with rfl | rfl | rfl <;> simp)⟩
theorem lay_last {w W : World} {t0 t1 t2 t3 : TypeId} {c0 c1 c2 c3 : Array Value} {g : Nat} (h : Lay w W [(w.heap.size, t0, c0), (w.heap.size + 1, t1, c1), (w.heap.size + 1 + 1, t2, c2), (g, t3, c3)]) (hg : w.heap.size + 1 + 1 < g) (i : Nat) (v : Value) :
  Lay w (W.setCell ⟨g, i, none⟩ v) [(w.heap.size, t0, c0), (w.heap.size + 1, t1, c1), (w.heap.size + 1 + 1, t2, c2), (g, t3, c3.setIfInBounds i v)] := by
 refine ⟨h.1.setCell (p := ⟨g, i, none⟩) (h.ge 3 rfl) _, fun b hb => ?_⟩
 simp only [List.mem_cons, List.not_mem_nil, or_false] at hb
 rcases hb with rfl | rfl | rfl | rfl
 ·exact ⟨h.ge 0 rfl, (h.blk 0 rfl).far (p := ⟨g, i, none⟩) (by dsimp only; omega) _⟩
 ·exact ⟨h.ge 1 rfl, (h.blk 1 rfl).far (p := ⟨g, i, none⟩) (by dsimp only; omega) _⟩
 ·exact ⟨h.ge 2 rfl, (h.blk 2 rfl).far (p := ⟨g, i, none⟩) (by dsimp only; omega) _⟩
 ·exact ⟨h.ge 3 rfl, (h.blk 3 rfl).set_ i v⟩
theorem lay_last0 {w W : World} {t0 t1 t2 t3 : TypeId} {c0 c1 c2 : Array Value} {x y : Value} {g : Nat} (h : Lay w W [(w.heap.size, t0, c0), (w.heap.size + 1, t1, c1), (w.heap.size + 1 + 1, t2, c2), (g, t3, #[x, y])]) (hg : w.heap.size + 1 + 1 < g) (v : Value) :
  Lay w (W.setCell ⟨g, 0, none⟩ v) [(w.heap.size, t0, c0), (w.heap.size + 1, t1, c1), (w.heap.size + 1 + 1, t2, c2), (g, t3, #[v, y])] := lay_last h hg 0 v
theorem lay_last1 {w W : World} {t0 t1 t2 t3 : TypeId} {c0 c1 c2 : Array Value} {x y : Value} {g : Nat} (h : Lay w W [(w.heap.size, t0, c0), (w.heap.size + 1, t1, c1), (w.heap.size + 1 + 1, t2, c2), (g, t3, #[x, y])]) (hg : w.heap.size + 1 + 1 < g) (v : Value) :
  Lay w (W.setCell ⟨g, 1, none⟩ v) [(w.heap.size, t0, c0), (w.heap.size + 1, t1, c1), (w.heap.size + 1 + 1, t2, c2), (g, t3, #[x, v])] := lay_last h hg 1 v
theorem own_off4 {W : World} {base g n cap size : Nat} {e : TypeId} {A : Option Addr} {xs : List Value} (h : Own W base e size A n cap xs) (hne : ∀ r, A.map (·.block) = some r → r ≠ g) (i : Nat) (v : Value) : Own (W.setCell ⟨g, i, none⟩ v) base e size A n cap xs :=
 h.grown (grown_setCell (row := some g) (grown_refl W _) (p := ⟨g, i, none⟩) (.inl rfl) v) (fun a ha e => hne a.block (by rw [ha]; rfl) (by first | exact Option.some.inj e | exact (Option.some.inj e).symm))
def GoesSet (fr to n al a b : Int) (s : Nat) (q : Int × Int) : Prop :=
 ∃ g0 g1 : Bool, b1 g0 + 2 * b1 g1 < (s : Int) ∧ (g0 = true → a = fr) ∧ (g1 = true → b = fr) ∧ q = (dropR to a g0, dropR to b g1) ∧ b1 g0 + b1 g1 ≤ n ∧ b1 (!g0 && decide (a = fr)) + b1 (!g1 && decide (b = fr)) ≤ al - n
section
variable {fr to n al a b : Int} {s : Nat} {g0 g1 : Bool}
theorem goes_zero (q : Int × Int) : ¬ GoesSet fr to n al a b 0 q := by
 rintro ⟨g0, g1, h, _⟩
 cases g0 <;> cases g1 <;> simp [b1] at h
theorem num_inj {g0 g1 k0 k1 : Bool} (h : b1 g0 + 2 * b1 g1 = b1 k0 + 2 * b1 k1) : g0 = k0 ∧ g1 = k1 := by
 cases g0 <;> cases g1 <;> cases k0 <;> cases k1 <;> simp [b1] at h ⊢
theorem goes_step (hs : b1 g0 + 2 * b1 g1 = (s : Int)) (q : Int × Int) : GoesSet fr to n al a b (s + 1) q ↔ GoesSet fr to n al a b s q ∨
  ((g0 = true → a = fr) ∧ (g1 = true → b = fr) ∧ q = (dropR to a g0, dropR to b g1) ∧ b1 g0 + b1 g1 ≤ n ∧ b1 (!g0 && decide (a = fr)) + b1 (!g1 && decide (b = fr)) ≤ al - n) := by
 constructor
 ·rintro ⟨k0, k1, h1, h2⟩
  by_cases e : b1 k0 + 2 * b1 k1 = (s : Int)
  ·obtain ⟨rfl, rfl⟩ := num_inj (e.trans hs.symm)
   exact .inr h2
  ·exact .inl ⟨k0, k1, by omega, h2⟩
 ·rintro (⟨k0, k1, h1, h2⟩ | h)
  ·exact ⟨k0, k1, by omega, h2⟩
  ·exact ⟨g0, g1, by omega, h⟩
theorem goes_skip (hs : b1 g0 + 2 * b1 g1 = (s : Int)) (h : true = ((g0 && decide (a ≠ fr)) || (g1 && decide (b ≠ fr)))) {q : Int × Int} : GoesSet fr to n al a b (s + 1) q ↔ GoesSet fr to n al a b s q := by
 rw [goes_step hs]
 refine ⟨fun k => k.resolve_right fun k => ?_, .inl⟩
 have h' := h.symm
 rw [Bool.or_eq_true, Bool.and_eq_true, Bool.and_eq_true, decide_eq_true_eq, decide_eq_true_eq] at h'
 rcases h' with ⟨h1, h2⟩ | ⟨h1, h2⟩
 ·exact h2 (k.1 h1)
 ·exact h2 (k.2.1 h1)
theorem skip_no (h : false = ((g0 && decide (a ≠ fr)) || (g1 && decide (b ≠ fr)))) : (g0 = true → a = fr) ∧ (g1 = true → b = fr) := by
 have h' := h.symm
 rw [Bool.or_eq_false_iff] at h'
 refine ⟨fun e => ?_, fun e => ?_⟩
 ·have := h'.1; rw [e] at this; simpa using this
 ·have := h'.2; rw [e] at this; simpa using this
theorem goes_less (hs : b1 g0 + 2 * b1 g1 = (s : Int)) (h : ¬ (b1 g0 + b1 g1 ≤ n ∧ b1 (!g0 && decide (a = fr)) + b1 (!g1 && decide (b = fr)) ≤ al - n)) {q : Int × Int} : GoesSet fr to n al a b (s + 1) q ↔ GoesSet fr to n al a b s q := by
 rw [goes_step hs]
 exact ⟨fun k => k.resolve_right fun k => h k.2.2.2, .inl⟩
theorem goes_more (hs : b1 g0 + 2 * b1 g1 = (s : Int)) (hg : (g0 = true → a = fr) ∧ (g1 = true → b = fr)) (h : b1 g0 + b1 g1 ≤ n ∧ b1 (!g0 && decide (a = fr)) + b1 (!g1 && decide (b = fr)) ≤ al - n) {q : Int × Int} :
  GoesSet fr to n al a b (s + 1) q ↔ GoesSet fr to n al a b s q ∨ q = (dropR to a g0, dropR to b g1) := by
 rw [goes_step hs]
 exact ⟨fun k => k.imp id fun k => k.2.2.1, fun k => k.imp id fun k => ⟨hg.1, hg.2, k, h⟩⟩
theorem goes_all (hf : 0 ≤ fr) (ht : -1 ≤ to) {q : Int × Int} : GoesSet fr to n al a b 4 q ↔ StepR fr to n al (a, b) q := by
 unfold StepR
 rw [if_neg (by omega)]
 have e : (if to < 0 then -1 else to) = to := by split <;> omega
 rw [e]
 exact ⟨fun ⟨g0, g1, _, h⟩ => ⟨g0, g1, h⟩, fun ⟨g0, g1, h⟩ => ⟨g0, g1, by cases g0 <;> cases g1 <;> decide, h⟩⟩
theorem bits_g0 (h : s < 4) : (bits BinOp.and IntKind.i64 (s : Int) 1 == 1) = s.testBit 0 := by
 match s, h with
 | 0, _ => decide
 | 1, _ => decide
 | 2, _ => decide
 | 3, _ => decide
theorem bits_g1 (h : s < 4) : (bits BinOp.and IntKind.i64 (s : Int) 2 == 2) = s.testBit 1 := by
 match s, h with
 | 0, _ => decide
 | 1, _ => decide
 | 2, _ => decide
 | 3, _ => decide
theorem bits_num (h : s < 4) : b1 (s.testBit 0) + 2 * b1 (s.testBit 1) = (s : Int) := by
 match s, h with
 | 0, _ => decide
 | 1, _ => decide
 | 2, _ => decide
 | 3, _ => decide
end
inductive FrGo (v3 v4 v5 v6 v7 v11 v12 v13 v14 v15 : Value) : Act → Prop
 | mk (u0 u1 u2 u8 u9 u10 u16 u17 u18 u19 u20 u21 u22 u23 u24 u25 u26 u27 u28 u29 u30 u31 u32 u33 u34 u35 u36 u37 u38 u39 u40 u41 u42 u43 u44 u45 u46 u47 u48 u49 u50 u51 u52 u53 u54 u55 u56 u57 u58 u59 u60 u61 u62 u63 u64 u65 u66 u67 u68 u69 u70 u71 u72 u73 u74 u75 u76 u77 u78 u79 u80 u81 u82 u83 u84 u85 u86 u87 u88 u89 u90 u91 u92 u93 u94 u95 u96 u97 u98 u99 u100 u101 u102 u103 u104 u105 u106 u107 u108 u109 u110 u111 u112 u113 u114 u115 u116 u117 u118 u119 u120 : Value) : FrGo v3 v4 v5 v6 v7 v11 v12 v13 v14 v15 { tmps := #[u0, u1, u2, v3, v4, v5, v6, v7, u8, u9, u10, v11, v12, v13, v14, v15, u16, u17, u18, u19, u20, u21, u22, u23, u24, u25, u26, u27, u28, u29, u30, u31, u32, u33, u34, u35, u36, u37, u38, u39, u40, u41, u42, u43, u44, u45, u46, u47, u48, u49, u50, u51, u52, u53, u54, u55, u56, u57, u58, u59, u60, u61, u62, u63, u64, u65, u66, u67, u68, u69, u70, u71, u72, u73, u74, u75, u76, u77, u78, u79, u80, u81, u82, u83, u84, u85, u86, u87, u88, u89, u90, u91, u92, u93, u94, u95, u96, u97, u98, u99, u100, u101, u102, u103, u104, u105, u106, u107, u108, u109, u110, u111, u112, u113, u114, u115, u116, u117, u118, u119, u120], defers := [] }
def GoesOut (w : World) (m : Mix) (all : Held) (x : MAct) (a b : Int) (e : Ending) (w' : World) : Prop :=
 ∃ (A : Option Addr) (n c : Nat) (rs : List (Int × Int)), e = .returned (.slice A n c) ∧ rs.length = n ∧ n ≤ 4 ∧ (∀ q, q ∈ rs ↔ StepR (fromI m x) (toI m x) (sizeA m all x) (heldAt all (fromI m x)) (a, b) q) ∧ Own w' w.heap.size 129 2 A n c (rs.flatMap prC) ∧ Below w.heap.size w w'
set_option maxRecDepth 100000 in
set_option maxHeartbeats 16000000 in
theorem rgoes_in (Av : Option Addr) (nv cv : Nat) (Aa : Option Addr) (na ca : Nat) (At : Option Addr) (nt ct : Nat) (m : Mix) (x : MAct) (all : Held) (a b : Int) (w : World) (h : MixS w Av nv Aa na At nt m) (hx : ActOk m all x) (hv4 : m.vessels.length ≤ 4) (hr : ∀ q : Nat, 0 ≤ heldAt all q ∧ heldAt all q ≤ 12) :
  CallsIn Fence.wide 9 Try.prog 64 #[.agg #[.int .i64 m.fountains, .slice Av nv cv, .slice Aa na ca, .slice At nt ct], .agg #[.int .i64 (heldAt all 0), .int .i64 (heldAt all 1), .int .i64 (heldAt all 2), .int .i64 (heldAt all 3)], .agg #[.int .i64 x.kind, .int .i64 x.fr, .int .i64 x.to, .int .i64 x.drops], .int .i64 a, .int .i64 b] w (GoesOut w m all x a b) := by
 have HM := lh h
 have HX := lh hx
 have HV4 := lh hv4
 have HR := lh hr
 have hk := hx.kind
 have hk4 : x.kind = 1 ∨ ¬ x.kind = 1 := by omega
 clear h hx hv4 hr
 refine callsIn_of_wp Try.func64 rfl trivial ?_ rfl
 simp only [Try.ntmps64, List.size_toArray, List.length_cons, List.length_nil, Nat.reduceAdd, Nat.reduceSub, Array.replicate_succ, Array.replicate_zero, List.push_toArray, List.append_toArray, List.nil_append, List.cons_append]
 gi_upto_region 1 with fail
 have Ly := lh (Lay.three w 26 #[.int .i64 m.fountains, .slice Av nv cv, .slice Aa na ca, .slice At nt ct] 110 #[.int .i64 (heldAt all 0), .int .i64 (heldAt all 1), .int .i64 (heldAt all 2), .int .i64 (heldAt all 3)] 67 #[.int .i64 x.kind, .int .i64 x.fr, .int .i64 x.to, .int .i64 x.drops])
 generalize (((w.alloc (.cells #[.int .i64 m.fountains, .slice Av nv cv, .slice Aa na ca, .slice At nt ct] 26)).alloc (.cells #[.int .i64 (heldAt all 0), .int .i64 (heldAt all 1), .int .i64 (heldAt all 2), .int .i64 (heldAt all 3)] 110)).alloc (.cells #[.int .i64 x.kind, .int .i64 x.fr, .int .i64 x.to, .int .i64 x.drops] 67)) = w0 at *
 obtain ⟨fr, hfr⟩ : ∃ fr, idxV m.vessels x.fr = fr := ⟨_, rfl⟩
 obtain ⟨x0_0, x0_1, x0_2, x0_3⟩ := lyc4 Ly 0 rfl
 have l0_ := Ly.out.lt 0 rfl
 obtain ⟨x2_0, x2_1, x2_2, x2_3⟩ := lyc4 Ly 2 rfl
 have l2_ := Ly.out.lt 2 rfl
 gi_wp2
 clear x0_0 x0_1 x0_2 x0_3 l0_ x2_0 x2_1 x2_2 x2_3 l2_
 refine ⟨trivial, (callsIn_wide.2 (rindex_any Av nv cv Aa na ca At nt ct m x.fr w0 (HM.out.up Ly.out.1))).mono ?_⟩
 rintro e W1 ⟨rfl, hb⟩
 replace Ly := lyb Ly hb
 clear hb
 rw [hfr]
 have HFR := lh hfr
 clear hfr
 rcases hk4 with hk1 | hk1
 ·
  have h1b : (x.kind == 1) = true := by rw [hk1]; rfl
  have HK := lh hk1
  clear hk1 hk
  obtain ⟨x2_0, x2_1, x2_2, x2_3⟩ := lyc4 Ly 2 rfl
  have l2_ := Ly.out.lt 2 rfl
  gi_wp2
  clear x2_0 x2_1 x2_2 x2_3 l2_
  refine bodyPost_ret (v := .slice (some ⟨W1.heap.size, 0, none⟩) 1 1) (by simp [results, Try.results64, go_sem]) rfl ?_
  refine ⟨_, 1, 1, [(a, b)], rfl, rfl, by omega, fun q => ?_, (own_new W1 129 (xs := [.int .i64 a, .int .i64 b]) (n := 1) (size := 2) rfl (by decide)).mono Ly.out.1.size, Ly.out.1.alloc Ly.out.1.size _⟩
  rw [List.mem_singleton]
  unfold StepR
  rw [if_pos (by unfold fromI; rw [if_pos HK.out]; decide)]
 ·
  have h1b : (x.kind == 1) = false := by simpa using hk1
  have HK1 := lh hk1
  have hfr0 : 0 ≤ fr := by rw [← HFR.out]; exact HX.out.from_ hk1
  have hfr4 : fr < 4 := by rw [← HFR.out]; exact idxV_small HV4.out
  obtain ⟨qf, rfl⟩ : ∃ q : Nat, fr = (q : Int) := ⟨fr.toNat, by omega⟩
  have hq4 : qf < 4 := by omega
  have HFI : Hid (fromI m x = (qf : Int)) := lh (by unfold fromI; rw [if_neg HK1.out]; exact HFR.out)
  have HAC : Hid ((#[.int .i64 (heldAt all 0), .int .i64 (heldAt all 1), .int .i64 (heldAt all 2), .int .i64 (heldAt all 3)] : Array Value)[qf]? = some (.int .i64 (heldAt all (qf : Int)))) := lh (by
   match qf, hq4 with
   | 0, _ => rfl
   | 1, _ => rfl
   | 2, _ => rfl
   | 3, _ => rfl)
  have HKD := lh hk
  clear hk1 hk
  obtain ⟨x2_0, x2_1, x2_2, x2_3⟩ := lyc4 Ly 2 rfl
  have l2_ := Ly.out.lt 2 rfl
  gi_upto_if 34 with fail
  clear x2_0 x2_1 x2_2 x2_3 l2_
  gi_cut [12] from 28 (fun v12 wx => ∃ to, v12 = .int .i64 to ∧ Hid (to = toI m x ∧ Lay w wx [(w.heap.size, 26, #[.int .i64 m.fountains, .slice Av nv cv, .slice Aa na ca, .slice At nt ct]), (w.heap.size + 1, 110, #[.int .i64 (heldAt all 0), .int .i64 (heldAt all 1), .int .i64 (heldAt all 2), .int .i64 (heldAt all 3)]), (w.heap.size + 1 + 1, 67, #[.int .i64 x.kind, .int .i64 x.fr, .int .i64 x.to, .int .i64 x.drops])]))
  case first =>
   by_cases hk2 : x.kind = 2
   ·
    have h2b : (x.kind == 2) = true := by rw [hk2]; rfl
    have HK2 := lh hk2
    clear hk2
    obtain ⟨x0_0, x0_1, x0_2, x0_3⟩ := lyc4 Ly 0 rfl
    have l0_ := Ly.out.lt 0 rfl
    obtain ⟨x2_0, x2_1, x2_2, x2_3⟩ := lyc4 Ly 2 rfl
    have l2_ := Ly.out.lt 2 rfl
    gi_wp2
    clear x0_0 x0_1 x0_2 x0_3 l0_ x2_0 x2_1 x2_2 x2_3 l2_
    refine ⟨trivial, (callsIn_wide.2 (rindex_any Av nv cv Aa na ca At nt ct m x.to W1 (HM.out.up Ly.out.1))).mono ?_⟩
    rintro e W2 ⟨rfl, hb⟩
    replace Ly := lyb Ly hb
    clear hb
    gi_wp2
    gi_meet
    exact ⟨_, rfl, lh ⟨by unfold toI; rw [if_pos (.inr HK2.out)], Ly.out⟩⟩
   ·
    have h2b : (x.kind == 2) = false := by simpa using hk2
    have HK2 := lh hk2
    clear hk2
    gi_wp2
    gi_meet
    exact ⟨_, rfl, lh ⟨by unfold toI; rw [if_neg (by have := HK1.out; have := HK2.out; omega)], Ly.out⟩⟩
  case rest =>
   obtain ⟨to, rfl, hc⟩ := hcut
   rename World => C1
   have HTO := lh hc.out.1
   have Ly := lh hc.out.2
   clear hc
   obtain ⟨x2_0, x2_1, x2_2, x2_3⟩ := lyc4 Ly 2 rfl
   have l2_ := Ly.out.lt 2 rfl
   gi_upto_if 43 with fail
   clear x2_0 x2_1 x2_2 x2_3 l2_
   gi_cut [13] from 28 (fun v13 wx => ∃ dr, v13 = .int .i64 dr ∧ Hid (dr = sizeA m all x ∧ Lay w wx [(w.heap.size, 26, #[.int .i64 m.fountains, .slice Av nv cv, .slice Aa na ca, .slice At nt ct]), (w.heap.size + 1, 110, #[.int .i64 (heldAt all 0), .int .i64 (heldAt all 1), .int .i64 (heldAt all 2), .int .i64 (heldAt all 3)]), (w.heap.size + 1 + 1, 67, #[.int .i64 x.kind, .int .i64 x.fr, .int .i64 x.to, .int .i64 x.drops])]))
   case first =>
    by_cases hk2 : x.kind = 4
    ·
     have h4b : (x.kind == 4) = true := by rw [hk2]; rfl
     have HK2 := lh hk2
     clear hk2
     have ca := (Ly.out.blk 1 rfl).cell qf
     rw [HAC.out] at ca
     have cl := Ly.out.lt 1 rfl
     gi_wp2
     gi_meet
     exact ⟨_, rfl, lh ⟨by unfold sizeA; rw [if_pos HK2.out, HFI.out], Ly.out⟩⟩
    ·
     have h4b : (x.kind == 4) = false := by simpa using hk2
     have HK2 := lh hk2
     clear hk2
     gi_wp2
     gi_meet
     exact ⟨_, rfl, lh ⟨by unfold sizeA; rw [if_neg HK2.out], Ly.out⟩⟩
   case rest =>
    obtain ⟨dr, rfl, hc⟩ := hcut
    rename World => C2
    have HDR := lh hc.out.1
    have Ly := lh hc.out.2
    clear hc
    obtain ⟨al, hal⟩ : ∃ al, heldAt all (qf : Int) = al := ⟨_, rfl⟩
    have HAL := lh hal
    rw [hal] at HAC
    have halr : 0 ≤ al ∧ al ≤ 12 := by rw [← hal]; exact HR.out qf
    have hdrr : -100 ≤ dr ∧ dr ≤ 100 := by
     rw [HDR.out]
     have h1 := HX.out.size
     have h2 := HX.out.kind
     rw [HFR.out, hal] at h1
     unfold sizeA
     split
     ·rw [HFI.out, hal]; omega
     ·have := HK1.out; omega
    clear hal
    gi_wp2
    refine wpIn_loop (fun ac W => ∃ (s : Nat) (oA : Option Addr) (on oc : Nat), Hid (Er5 fun (rs : List (Int × Int)) => s ≤ 4 ∧ rs.length = on ∧ on ≤ s ∧ (∀ q, q ∈ rs ↔ GoesSet (qf : Int) to dr al a b s q) ∧ Own W (w.heap.size + 3) 129 2 oA on oc (rs.flatMap prC) ∧ Below w.heap.size w W ∧ Lay w W [(w.heap.size, 26, #[.int .i64 m.fountains, .slice Av nv cv, .slice Aa na ca, .slice At nt ct]), (w.heap.size + 1, 110, #[.int .i64 (heldAt all 0), .int .i64 (heldAt all 1), .int .i64 (heldAt all 2), .int .i64 (heldAt all 3)]), (w.heap.size + 1 + 1, 67, #[.int .i64 x.kind, .int .i64 x.fr, .int .i64 x.to, .int .i64 x.drops])]) ∧ FrGo (.int .i64 a) (.int .i64 b) (.pointer (some ⟨w.heap.size, 0, none⟩)) (.pointer (some ⟨w.heap.size + 1, 0, none⟩)) (.pointer (some ⟨w.heap.size + 1 + 1, 0, none⟩)) (.int .i64 (qf : Int)) (.int .i64 to) (.int .i64 dr) (.slice oA on oc) (.int .i64 (s : Int)) ac) (fun ac _ => 4 - (intOf (ac.tmps.getD 15 undef)).toNat) ?_ ?_
    ·exact ⟨0, none, 0, 0, lh ⟨[], by omega, rfl, by omega, fun q => ⟨(fun h => by cases h), (fun h => absurd h (goes_zero _))⟩, Own.none_ _ _ _ _, Ly.out.1, Ly.out⟩, by constructor⟩
    rintro ac W ⟨s, oA, on, oc, HS, ha⟩
    cases ha
    obtain ⟨rs, hs9⟩ := HS.out
    replace HS := lh hs9
    clear hs9 Ly
    have Ly := lh HS.out.2.2.2.2.2.2
    by_cases hs4 : s < 4
    ·
     have hbt0 := bits_g0 hs4
     have hbt1 := bits_g1 hs4
     obtain ⟨g0, hg0⟩ : ∃ g, s.testBit 0 = g := ⟨_, rfl⟩
     obtain ⟨g1, hg1⟩ : ∃ g, s.testBit 1 = g := ⟨_, rfl⟩
     rw [hg0] at hbt0
     rw [hg1] at hbt1
     have hs4d : decide ((s : Int) < 4) = true := decide_eq_true (by omega)
     have HGS : Hid (b1 g0 + 2 * b1 g1 = (s : Int)) := lh (by rw [← hg0, ← hg1]; exact bits_num hs4)
     clear hg0 hg1
     gi_upto_region 14 with fail
     gi_cut [70] from 71 (fun v70 wx => ∃ sk : Bool, v70 = .bool sk ∧ Hid (sk = ((g0 && decide (a ≠ (qf : Int))) || (g1 && decide (b ≠ (qf : Int)))) ∧ W = wx))
     case first =>
      have ea : (a != (qf : Int)) = decide (a ≠ (qf : Int)) := by by_cases e : a = (qf : Int) <;> simp [e]
      have eb : (b != (qf : Int)) = decide (b ≠ (qf : Int)) := by by_cases e : b = (qf : Int) <;> simp [e]
      obtain ⟨ea1, he1⟩ : ∃ e : Bool, decide (a ≠ (qf : Int)) = e := ⟨_, rfl⟩
      obtain ⟨eb1, he2⟩ : ∃ e : Bool, decide (b ≠ (qf : Int)) = e := ⟨_, rfl⟩
      rw [he1] at ea
      rw [he2] at eb
      have HE1 := lh he1
      have HE2 := lh he2
      clear he1 he2
      cases g0 <;> cases g1 <;> cases ea1 <;> cases eb1
      all_goals
       gi_wp2
       gi_meet
       exact ⟨_, rfl, lh ⟨by rw [HE1.out, HE2.out]; rfl, rfl⟩⟩
     case rest =>
      obtain ⟨sk, rfl, hc⟩ := hcut
      have HSK := lh hc.out.1
      obtain rfl := hc.out.2
      clear hc
      cases sk with
      | true =>
       gi_wp2
       refine ⟨⟨s + 1, oA, on, oc, lh ⟨rs, by omega, HS.out.2.1, by have := HS.out.2.2.1; omega, fun q => ?_, HS.out.2.2.2.2.1, HS.out.2.2.2.2.2.1, HS.out.2.2.2.2.2.2⟩, by rw [show ((s + 1 : Nat) : Int) = (s : Int) + 1 from by omega]; constructor⟩, ?_⟩
       ·rw [goes_skip HGS.out HSK.out]; exact HS.out.2.2.2.1 q
       ·simp [intOf] <;> omega
      | false =>
       gi_upto_region 17 with fail
       have HOW := lh HS.out.2.2.2.2.1
       have HOR := lh (own_row HS.out.2.2.2.2.1)
       have hgl := Ly.out.lt 2 rfl
       obtain ⟨V3, hV⟩ : ∃ V, (W.alloc (.cells #[.int .i64 a, .int .i64 b] 129)) = V := ⟨_, rfl⟩
       rw [hV]
       have hb := fbox_bel hV
       have hnew := fbox_blk hV
       have hge := Ly.out.bel.size
       replace Ly := lyb Ly hb
       replace HOW := lh (HOW.out.below hb (Nat.le_refl _))
       replace Ly := lh (Ly.out.add hge hnew)
       clear hnew hge hb hV
       obtain ⟨G4, hG⟩ : ∃ g, W.heap.size = g := ⟨_, rfl⟩
       rw [hG] at Ly ⊢
       have HG_ := lh hG
       clear hG
       have HGB : Hid (w.heap.size + 1 + 1 < G4) := lh (by rw [← HG_.out]; exact hgl)
       have HOA : Hid (∀ r, oA.map (·.block) = some r → r ≠ G4) := lh (fun r hr e => by have h1 := (HOR.out r hr).2; have h2 := HG_.out; omega)
       clear HOR hgl
       have HSKA : Hid ((g0 = true → a = (qf : Int)) ∧ (g1 = true → b = (qf : Int))) := lh (skip_no HSK.out)
       gi_upto_region 17 with fail
       obtain ⟨e0, he0⟩ : ∃ e : Bool, decide (a = (qf : Int)) = e := ⟨_, rfl⟩
       have HE0 := lh he0
       have hee0 : (a == (qf : Int)) = e0 := by rw [← he0]; rfl
       clear he0
       gi_cut [79] from 74 (fun vx wx => vx = .bool (e0 && g0) ∧ Hid (V3 = wx))
       case first =>
        cases e0 <;> gi_wp2 <;> gi_meet <;> exact ⟨by first | rfl | (cases g0 <;> rfl), lh rfl⟩
       case rest =>
        obtain ⟨rfl, hc⟩ := hcut
        obtain rfl := hc.out
        clear hc
        gi_upto_if 79 with fail
        gi_cut [18, 19] from 74 (fun v18 v19 wx => v18 = .int .i64 (b1 g0) ∧ v19 = .int .i64 (b1 (!g0 && e0)) ∧ Hid (Lay w wx [(w.heap.size, 26, #[.int .i64 m.fountains, .slice Av nv cv, .slice Aa na ca, .slice At nt ct]), (w.heap.size + 1, 110, #[.int .i64 (heldAt all 0), .int .i64 (heldAt all 1), .int .i64 (heldAt all 2), .int .i64 (heldAt all 3)]), (w.heap.size + 1 + 1, 67, #[.int .i64 x.kind, .int .i64 x.fr, .int .i64 x.to, .int .i64 x.drops]), (G4, 129, #[.int .i64 (dropR to a g0), .int .i64 b])] ∧ Own wx (w.heap.size + 3) 129 2 oA on oc (rs.flatMap prC)))
        case first =>
         cases g0 with
         | true =>
          obtain rfl : e0 = true := by rw [← HE0.out]; exact decide_eq_true (HSKA.out.1 (by first | rfl | trivial))
          have c0 := lyc Ly 3 rfl 0
          have c1 := lyc Ly 3 rfl 1
          have z0 := lyf Ly 3 rfl 0
          have zl := Ly.out.lt 3 rfl
          gi_wp2
          gi_meet
          refine ⟨?_, ?_, lh ⟨?_, ?_⟩⟩
          ·first | rfl | simp [b1]
          ·first | rfl | simp [b1]
          ·exact lay_last0 Ly.out HGB.out _
          ·exact own_off4 HOW.out HOA.out 0 _
         | false =>
          cases e0 with
          | true =>
           gi_wp2
           gi_meet
           exact ⟨by first | rfl | simp [b1], by first | rfl | exact congrArg (Value.int .i64) hwB | simp [b1], lh ⟨by simpa [dropR] using Ly.out, HOW.out⟩⟩
          | false =>
           gi_wp2
           gi_meet
           exact ⟨by first | rfl | simp [b1], by first | rfl | simp [b1], lh ⟨by simpa [dropR] using Ly.out, HOW.out⟩⟩
        case rest =>
         obtain ⟨rfl, rfl, hc⟩ := hcut
         rename World => D0
         have Ly := lh hc.out.1
         have HOW := lh hc.out.2
         clear hc
         gi_upto_region 22 with fail
         obtain ⟨e1, he1⟩ : ∃ e : Bool, decide (b = (qf : Int)) = e := ⟨_, rfl⟩
         have HE1 := lh he1
         have hee1 : (b == (qf : Int)) = e1 := by rw [← he1]; rfl
         clear he1
         gi_cut [94] from 74 (fun vx wx => vx = .bool (e1 && g1) ∧ Hid (D0 = wx))
         case first =>
          cases e1 <;> gi_wp2 <;> gi_meet <;> exact ⟨by first | rfl | (cases g1 <;> rfl), lh rfl⟩
         case rest =>
          obtain ⟨rfl, hc⟩ := hcut
          obtain rfl := hc.out
          clear hc
          gi_upto_if 94 with fail
          gi_cut [18, 19] from 74 (fun v18 v19 wx => v18 = .int .i64 (b1 g0 + b1 g1) ∧ v19 = .int .i64 (b1 (!g0 && e0) + b1 (!g1 && e1)) ∧ Hid (Lay w wx [(w.heap.size, 26, #[.int .i64 m.fountains, .slice Av nv cv, .slice Aa na ca, .slice At nt ct]), (w.heap.size + 1, 110, #[.int .i64 (heldAt all 0), .int .i64 (heldAt all 1), .int .i64 (heldAt all 2), .int .i64 (heldAt all 3)]), (w.heap.size + 1 + 1, 67, #[.int .i64 x.kind, .int .i64 x.fr, .int .i64 x.to, .int .i64 x.drops]), (G4, 129, #[.int .i64 (dropR to a g0), .int .i64 (dropR to b g1)])] ∧ Own wx (w.heap.size + 3) 129 2 oA on oc (rs.flatMap prC)))
          case first =>
           cases g1 with
           | true =>
            obtain rfl : e1 = true := by rw [← HE1.out]; exact decide_eq_true (HSKA.out.2 (by first | rfl | trivial))
            have c0 := lyc Ly 3 rfl 0
            have c1 := lyc Ly 3 rfl 1
            have z0 := lyf Ly 3 rfl 1
            have zl := Ly.out.lt 3 rfl
            have hwA := w_b1 g0
            have hwB := w_b1 (!g0 && e0)
            gi_wp2
            gi_meet
            refine ⟨?_, ?_, lh ⟨?_, ?_⟩⟩
            ·first | rfl | simp [b1]
            ·first | rfl | simp [b1]
            ·exact lay_last1 Ly.out HGB.out _
            ·exact own_off4 HOW.out HOA.out 1 _
           | false =>
            have hwA := w_b1 g0
            have hwB := w_b1 (!g0 && e0)
            cases e1 with
            | true =>
             gi_wp2
             gi_meet
             exact ⟨by first | rfl | simp [b1], by first | rfl | exact congrArg (Value.int .i64) hwB | simp [b1], lh ⟨by simpa [dropR] using Ly.out, HOW.out⟩⟩
            | false =>
             gi_wp2
             gi_meet
             exact ⟨by first | rfl | simp [b1], by first | rfl | simp [b1], lh ⟨by simpa [dropR] using Ly.out, HOW.out⟩⟩
          case rest =>
           obtain ⟨rfl, rfl, hc⟩ := hcut
           rename World => D1
           have Ly := lh hc.out.1
           have HOW := lh hc.out.2
           clear hc
           obtain ⟨mv, hmv⟩ : ∃ mv, b1 g0 + b1 g1 = mv := ⟨_, rfl⟩
           obtain ⟨sv, hsv⟩ : ∃ sv, b1 (!g0 && e0) + b1 (!g1 && e1) = sv := ⟨_, rfl⟩
           rw [hmv, hsv]
           have HMV := lh hmv
           have HSV : Hid (b1 (!g0 && decide (a = (qf : Int))) + b1 (!g1 && decide (b = (qf : Int))) = sv) := lh (by rw [HE0.out, HE1.out]; exact hsv)
           clear hmv hsv
           have ca := (Ly.out.blk 1 rfl).cell qf
           rw [HAC.out] at ca
           have cl := Ly.out.lt 1 rfl
           gi_upto_region 27 with fail
           gi_cut [115] from 116 (fun v115 wx => ∃ y : Bool, v115 = .bool y ∧ Hid ((y = true ↔ mv ≤ dr ∧ sv ≤ al - dr) ∧ D1 = wx))
           case first =>
            by_cases hm : mv ≤ dr
            ·by_cases hs : sv ≤ al - dr
             ·gi_wp2
              gi_meet
              exact ⟨true, rfl, lh ⟨⟨fun _ => ⟨hm, hs⟩, fun _ => rfl⟩, rfl⟩⟩
             ·gi_wp2
              gi_meet
              exact ⟨false, rfl, lh ⟨⟨(fun h => by cases h), (fun h => absurd h.2 (by omega))⟩, rfl⟩⟩
            ·gi_wp2
             gi_meet
             exact ⟨false, rfl, lh ⟨⟨(fun h => by cases h), (fun h => absurd h.1 (by omega))⟩, rfl⟩⟩
           case rest =>
            obtain ⟨y, rfl, hc⟩ := hcut
            have HY := lh hc.out.1
            obtain rfl := hc.out.2
            clear hc ca cl
            have HL3 : Hid (Lay w D1 [(w.heap.size, 26, #[.int .i64 m.fountains, .slice Av nv cv, .slice Aa na ca, .slice At nt ct]), (w.heap.size + 1, 110, #[.int .i64 (heldAt all 0), .int .i64 (heldAt all 1), .int .i64 (heldAt all 2), .int .i64 (heldAt all 3)]), (w.heap.size + 1 + 1, 67, #[.int .i64 x.kind, .int .i64 x.fr, .int .i64 x.to, .int .i64 x.drops])]) := lh (lay_three Ly.out)
            cases y with
            | false =>
             gi_wp2
             refine ⟨⟨s + 1, oA, on, oc, lh ⟨rs, by omega, HS.out.2.1, by have := HS.out.2.2.1; omega, fun q => ?_, HOW.out, HL3.out.1, HL3.out⟩, by rw [show ((s + 1 : Nat) : Int) = (s : Int) + 1 from by omega]; constructor⟩, ?_⟩
             ·rw [goes_less HGS.out (fun h => by rw [HMV.out, HSV.out] at h; exact absurd (HY.out.2 h) (by decide))]; exact HS.out.2.2.2.1 q
             ·simp [intOf] <;> omega
            | true =>
             have c0 := lyc Ly 3 rfl 0
             have c1 := lyc Ly 3 rfl 1
             have zl := Ly.out.lt 3 rfl
             obtain rfl := HS.out.2.1
             have hrl : rs.length ≤ 4 := by have := HS.out.2.2.1; omega
             gi_wp2_with (first | (gi_at_builtin; refine wpListIn_append_any rfl (.tmp 116) (.tmp 118) (by rfl) elem_pr rfl (HOW.out.alloc _) rfl (reads_new D1 129 (k := 2) (n := 1) [.int .i64 (dropR to a g0), .int .i64 (dropR to b g1)] rfl) (pr_one _ _) (by unfold maxLen; omega) (by omega) (by have := Ly.out.lt 2 rfl; simp; omega) ?_) | fail)
             rintro A9 c9 V9 hown hg hA
             have hb9 : Below D1.heap.size D1 (D1.alloc (.cells #[.int .i64 (dropR to a g0), .int .i64 (dropR to b g1)] 129)) := (Below.refl _ _).alloc (Nat.le_refl _) _
             have HL9 := lh (lay3_row (HL3.out.below hb9) hg (fun r hr => (own_row HOW.out r hr).1))
             have HO9 := lh hown
             clear hown hg hA hb9 c0 c1 zl
             gi_wp2
             refine ⟨⟨s + 1, A9, rs.length + 1, c9, lh ⟨rs ++ [(dropR to a g0, dropR to b g1)], by omega, by simp, by have := HS.out.2.2.1; omega, fun q => ?_, by rw [List.flatMap_append]; exact HO9.out, HL9.out.1, HL9.out⟩, by rw [show ((s + 1 : Nat) : Int) = (s : Int) + 1 from by omega]; constructor⟩, ?_⟩
             ·rw [goes_more HGS.out HSKA.out ⟨by rw [HMV.out]; exact (HY.out.1 (by first | rfl | trivial)).1, by rw [HSV.out]; exact (HY.out.1 (by first | rfl | trivial)).2⟩, List.mem_append, List.mem_singleton, HS.out.2.2.2.1 q]
             ·simp [intOf] <;> omega
    ·obtain rfl : s = 4 := by have := HS.out.1; omega
     gi_wp2
     refine bodyPost_ret (v := .slice oA on oc) (by simp [results, Try.results64, go_sem]) rfl ?_
     refine ⟨oA, on, oc, rs, rfl, HS.out.2.1, HS.out.2.2.1, fun q => ?_, HS.out.2.2.2.2.1.mono (by omega), HS.out.2.2.2.2.2.1⟩
     rw [HS.out.2.2.2.1 q, HFI.out, HAL.out, ← HTO.out, ← HDR.out]
     exact goes_all (Int.natCast_nonneg _) (by rw [HTO.out]; exact toI_ge1)
end
section
open Go.RowKit Go.Shelf
attribute [local go_sem] Oper.semAt_some
theorem eqi_pr (d : Nat) (a b : Int) (w : World) : (Op.equalIn (d+1) 3 (.int .i64 a) (.int .i64 b)).run Try.prog w = .ok (a == b) w := by
 simp [Op.equalIn, run_underlying Try.underlying3]
theorem eq_pr_run (a b c d : Int) (w : World) : (Op.equalIn 10000 129 (.agg #[.int .i64 a, .int .i64 b]) (.agg #[.int .i64 c, .int .i64 d])).run Try.prog w = .ok (a == c && b == d) w := by
 obtain ⟨i0, hi, _⟩ := info_parts info_int
 rw [run_equalIn_array w 9999 _ _ Try.underlying129 hi]
 have hc : Try.prog.cellsOf 3 = 1 := by kernel_rfl
 rw [hc]
 have hp : ∀ (xs : Array Value) (i : Nat) (v : Value) (w : World), xs[i]? = some v → (part 3 xs i).run Try.prog w = .ok v w := by
  intro xs i v w hv
  simp [part, isAgg, run_underlying Try.underlying3, hv]
 have l2 : List.range 2 = [0, 1] := rfl
 rw [l2]
 simp only [Op.eqItems, Sem.run_bind, Nat.zero_mul, Nat.one_mul, hp #[.int .i64 a, .int .i64 b] 0 _ _ rfl, hp #[.int .i64 c, .int .i64 d] 0 _ _ rfl, Result.andThen_ok]
 cases hac : (a == c) <;> cases hbd : (b == d) <;> simp [hp #[.int .i64 a, .int .i64 b] 1 _ _ rfl, hp #[.int .i64 c, .int .i64 d] 1 _ _ rfl, eqi_pr, hbd] <;> simpa using hac
theorem prC_k (q : Int × Int) : (prC q).length = 2 := rfl
inductive FrDsO (v3 v9 v10 v11 : Value) : Act → Prop
 | mk (u0 u1 u2 u4 u5 u6 u7 u8 u12 u13 u14 u15 u16 u17 u18 u19 u20 u21 u22 u23 u24 u25 u26 u27 u28 u29 u30 u31 u32 u33 u34 u35 : Value) : FrDsO v3 v9 v10 v11 { tmps := #[u0, u1, u2, v3, u4, u5, u6, u7, u8, v9, v10, v11, u12, u13, u14, u15, u16, u17, u18, u19, u20, u21, u22, u23, u24, u25, u26, u27, u28, u29, u30, u31, u32, u33, u34, u35], defers := [] }
inductive FrDsI (v3 v5 v6 v9 v10 v11 v15 v16 v17 : Value) : Act → Prop
 | mk (u0 u1 u2 u4 u7 u8 u12 u13 u14 u18 u19 u20 u21 u22 u23 u24 u25 u26 u27 u28 u29 u30 u31 u32 u33 u34 u35 : Value) : FrDsI v3 v5 v6 v9 v10 v11 v15 v16 v17 { tmps := #[u0, u1, u2, v3, u4, v5, v6, u7, u8, v9, v10, v11, u12, u13, u14, v15, v16, v17, u18, u19, u20, u21, u22, u23, u24, u25, u26, u27, u28, u29, u30, u31, u32, u33, u34, u35], defers := [] }
def DistOut (w : World) (n : Nat) (l : List (Int × Int)) (e : Ending) (w' : World) : Prop :=
 ∃ (A : Option Addr) (k c : Nat) (rs : List (Int × Int)), e = .returned (.slice A k c) ∧ rs.length = k ∧ k ≤ n ∧ (∀ q, q ∈ rs ↔ q ∈ l) ∧ Own w' w.heap.size 129 2 A k c (rs.flatMap prC) ∧ Below w.heap.size w w'
set_option maxRecDepth 100000 in
set_option maxHeartbeats 16000000 in
theorem rdistinct_in (A : Option Addr) (n c : Nat) (l : List (Int × Int)) (w : World) (h : Reads w w.heap.size 2 A n (l.flatMap prC)) (hn : n ≤ 1000000000) :
  CallsIn Fence.wide 9 Try.prog 65 #[.slice A n c] w (DistOut w n l) := by
 have heq := eq_pr_run
 have HR := lh h
 have HN := lh hn
 clear h
 refine callsIn_of_wp Try.func65 rfl trivial ?_ rfl
 simp only [Try.ntmps65, List.size_toArray, List.length_cons, List.length_nil, Nat.reduceAdd, Nat.reduceSub, Array.replicate_succ, Array.replicate_zero, List.push_toArray, List.append_toArray, List.nil_append, List.cons_append]
 gi_wp2
 gi_wp2
 refine wpIn_loop (fun ac W => ∃ (j : Nat) (oA : Option Addr) (on oc : Nat), Hid (Er5 fun (rs : List (Int × Int)) => j ≤ n ∧ rs.length = on ∧ on ≤ j ∧ (∀ q, q ∈ rs ↔ q ∈ l.take j) ∧ Own W w.heap.size 129 2 oA on oc (rs.flatMap prC) ∧ Below w.heap.size w W) ∧ FrDsO (.slice oA on oc) (.slice A n c) (.int .i64 (n : Int)) (.int .i64 (j : Int)) ac) (fun ac _ => n - (intOf (ac.tmps.getD 11 undef)).toNat) ?_ ?_
 ·exact ⟨0, none, 0, 0, lh ⟨[], Nat.zero_le _, rfl, Nat.le_refl _, fun q => by simp, Own.none_ _ _ _ _, Below.refl _ _⟩, by constructor⟩
 rintro ac W ⟨j, oA, on, oc, HS, ha⟩
 cases ha
 obtain ⟨rs, hs9⟩ := HS.out
 replace HS := lh hs9
 clear hs9
 have hjs := HS.out.2.2.1
 by_cases hjn : j < n
 ·
  obtain ⟨bl, ol, x, hAL, hbl, hx, hcl⟩ := recs_cell prC_k (by omega) (HR.out.below HS.out.2.2.2.2.2) hjn
  obtain ⟨a, b⟩ := x
  have c0 : W.cell? ⟨bl, ol + j * 2, none⟩ = some (.int .i64 a) := hcl 0 _ rfl
  have c1 : W.cell? ⟨bl, ol + j * 2 + 1, none⟩ = some (.int .i64 b) := hcl 1 _ rfl
  have HX := lh hx
  have HAL := lh hAL
  have hblW : bl < W.heap.size := Nat.lt_of_lt_of_le hbl HS.out.2.2.2.2.2.size
  have HTK : Hid (l.take (j + 1) = l.take j ++ [(a, b)]) := lh (by rw [List.take_add_one, hx]; rfl)
  clear hx hbl hcl
  rw [hAL]
  gi_upto_region 5 with fail
  rw [← HAL.out]
  clear hAL c0 c1 hblW
  have HB5 := lh (Blk.new W 129 #[.int .i64 a, .int .i64 b])
  have HBV := lh (show Below W.heap.size W (W.alloc (.cells #[.int .i64 a, .int .i64 b] 129)) from (Below.refl _ _).alloc (Nat.le_refl _) _)
  have HWS := lh (show w.heap.size ≤ W.heap.size from HS.out.2.2.2.2.2.size)
  have HOW := lh (HS.out.2.2.2.2.1.below HBV.out (Nat.le_refl _))
  have HBE := lh (HS.out.2.2.2.2.2.trans (HBV.out.mono HWS.out))
  generalize (W.alloc (.cells #[.int .i64 a, .int .i64 b] 129)) = V at *
  obtain ⟨g, hg⟩ : ∃ g, W.heap.size = g := ⟨_, rfl⟩
  rw [hg] at HB5 HWS ⊢
  clear hg HBV
  gi_wp2
  refine wpIn_loop (fun ac U => ∃ (i : Nat), Hid (i ≤ on ∧ Below V.heap.size V U) ∧ FrDsI (.slice oA on oc) (.pointer (some ⟨g, 0, none⟩)) (.bool (decide ((a, b) ∈ rs.take i))) (.slice A n c) (.int .i64 (n : Int)) (.int .i64 (j : Int)) (.slice oA on oc) (.int .i64 (on : Int)) (.int .i64 (i : Int)) ac) (fun ac _ => on - (intOf (ac.tmps.getD 17 undef)).toNat) ?_ ?_
  ·exact ⟨0, lh ⟨Nat.zero_le _, Below.refl _ _⟩, by constructor⟩
  rintro ac U ⟨i, HI, ha⟩
  cases ha
  by_cases hin : i < on
  ·
   obtain ⟨bl2, ol2, y, hAL2, hbl2, hy, hcl2⟩ := recs_cell prC_k (by omega) ((HOW.out.below HI.out.2 (Nat.le_refl _)).reads (Nat.le_refl _)) hin
   obtain ⟨c', d⟩ := y
   have c0 : U.cell? ⟨bl2, ol2 + i * 2, none⟩ = some (.int .i64 c') := hcl2 0 _ rfl
   have c1 : U.cell? ⟨bl2, ol2 + i * 2 + 1, none⟩ = some (.int .i64 d) := hcl2 1 _ rfl
   have HAL2 := lh hAL2
   obtain ⟨hb1, hhb⟩ : ∃ hb1, decide ((a, b) ∈ rs.take i) = hb1 := ⟨_, rfl⟩
   have HST : Hid (decide ((a, b) ∈ rs.take (i + 1)) = (hb1 || decide ((a, b) = (c', d)))) := lh (by
    rw [← hhb, List.take_add_one, hy]
    simp)
   rw [hhb, hAL2]
   clear hy hcl2 hAL2 hhb
   gi_upto_region 9 with fail
   rw [← HAL2.out]
   clear c0 c1 hbl2
   have HB8 := lh (Blk.new U 129 #[.int .i64 c', .int .i64 d])
   have HBU := lh (show Below V.heap.size V (U.alloc (.cells #[.int .i64 c', .int .i64 d] 129)) from HI.out.2.alloc HI.out.2.size _)
   have HB5U := lh (HB5.out.below HBU.out HB5.out.lt)
   generalize (U.alloc (.cells #[.int .i64 c', .int .i64 d] 129)) = U2 at *
   obtain ⟨g8, hg8⟩ : ∃ g, U.heap.size = g := ⟨_, rfl⟩
   rw [hg8] at HB8 ⊢
   clear hg8
   have x0 := HB5U.out.cell 0
   have x1 := HB5U.out.cell 1
   have xl := HB5U.out.lt
   have y0 := HB8.out.cell 0
   have y1 := HB8.out.cell 1
   have yl := HB8.out.lt
   cases hb1 with
   | true =>
    gi_wp2
    refine ⟨⟨i + 1, lh ⟨hin, HBU.out⟩, ?_⟩, ?_⟩
    ·rw [HST.out, show ((i + 1 : Nat) : Int) = (i : Int) + 1 from by omega]
     rw [Bool.true_or]
     first | constructor | (rw [HAL2.out]; constructor)
    ·simp [intOf] <;> omega
   | false =>
    by_cases hac : a = c'
    ·
     by_cases hbd : b = d
     ·
      have HE : Hid (decide ((a, b) = (c', d)) = true) := lh (decide_eq_true (by rw [hac, hbd]))
      subst hac
      subst hbd
      gi_wp2
      refine ⟨⟨i + 1, lh ⟨hin, HBU.out⟩, ?_⟩, ?_⟩
      ·rw [HST.out, show ((i + 1 : Nat) : Int) = (i : Int) + 1 from by omega]
       rw [HE.out]
       simp only [Bool.false_or]
       first | constructor | (rw [HAL2.out]; constructor)
      ·simp [intOf] <;> omega
     ·
      have HE : Hid (decide ((a, b) = (c', d)) = false) := lh (decide_eq_false (fun e => hbd (congrArg Prod.snd e)))
      have hbd2 : (b == d) = false := by simpa using hbd
      gi_wp2
      refine ⟨⟨i + 1, lh ⟨hin, HBU.out⟩, ?_⟩, ?_⟩
      ·rw [HST.out, show ((i + 1 : Nat) : Int) = (i : Int) + 1 from by omega]
       rw [HE.out]
       simp only [Bool.false_or]
       first | constructor | (rw [HAL2.out]; constructor)
      ·simp [intOf] <;> omega
    ·
     have HE : Hid (decide ((a, b) = (c', d)) = false) := lh (decide_eq_false (fun e => hac (congrArg Prod.fst e)))
     have hac2 : (a == c') = false := by simpa using hac
     gi_wp2
     refine ⟨⟨i + 1, lh ⟨hin, HBU.out⟩, ?_⟩, ?_⟩
     ·rw [HST.out, show ((i + 1 : Nat) : Int) = (i : Int) + 1 from by omega]
      rw [HE.out]
      simp only [Bool.false_or]
      first | constructor | (rw [HAL2.out]; constructor)
     ·simp [intOf] <;> omega
  ·
   obtain rfl : on = i := by have := HI.out.1; omega
   have HBU := lh HI.out.2
   have hle := HS.out.2.1
   rw [List.take_of_length_le (by omega)]
   have HOU := lh (HOW.out.below HBU.out (Nat.le_refl _))
   have HB5U := lh (HB5.out.below HBU.out HB5.out.lt)
   have HBE2 := lh (HBE.out.trans (HBU.out.mono HBE.out.size))
   have x0 := HB5U.out.cell 0
   have x1 := HB5U.out.cell 1
   have xl := HB5U.out.lt
   clear hin
   by_cases hm : (a, b) ∈ rs
   ·
    have HMM := lh hm
    rw [decide_eq_true hm]
    clear hm
    gi_wp2
    refine ⟨⟨j + 1, oA, on, oc, lh ⟨rs, by omega, by first | omega | simp, by omega, fun q => ?_, HOU.out, HBE2.out⟩, by rw [show ((j + 1 : Nat) : Int) = (j : Int) + 1 from by omega]; first | constructor | (rw [HAL.out]; constructor)⟩, ?_⟩
    ·rw [HTK.out, List.mem_append, List.mem_singleton]
     exact ⟨fun h => .inl ((HS.out.2.2.2.1 q).1 h), fun h => h.elim (fun h => (HS.out.2.2.2.1 q).2 h) (fun h => by rw [h]; exact HMM.out)⟩
    ·simp [intOf] <;> omega
   ·
    rw [decide_eq_false hm]
    clear hm
    obtain rfl := HS.out.2.1
    have hsz := HBE2.out.size
    gi_wp2_with (first | (gi_at_builtin; refine wpListIn_append_any rfl (.tmp 30) (.tmp 32) (by rfl) elem_pr rfl (HOU.out.alloc _) rfl (reads_new U 129 (k := 2) (n := 1) [.int .i64 a, .int .i64 b] rfl) (pr_one _ _) (by unfold maxLen; omega) (by omega) (by simp; omega) ?_) | fail)
    rintro A9 c9 V9 hown hg hA
    have HB9 := lh (show Below w.heap.size w V9 from (HBE2.out.alloc hsz _).grown hg (by simp; omega) (fun k e => (own_row HOU.out k e).1))
    have HO9 := lh hown
    clear hown hg hA x0 x1 xl
    gi_wp2
    refine ⟨⟨j + 1, A9, rs.length + 1, c9, lh ⟨rs ++ [(a, b)], by omega, by first | omega | simp, by omega, fun q => ?_, by rw [List.flatMap_append]; exact HO9.out, HB9.out⟩, by rw [show ((j + 1 : Nat) : Int) = (j : Int) + 1 from by omega]; first | constructor | (rw [HAL.out]; constructor)⟩, ?_⟩
    ·rw [HTK.out, List.mem_append, List.mem_singleton]
     rw [List.mem_append, List.mem_singleton, HS.out.2.2.2.1 q]
    ·simp [intOf] <;> omega
 ·
  obtain rfl : n = j := by have := HS.out.1; omega
  have hl := recs_n prC_k (by omega) HR.out
  gi_wp2
  refine bodyPost_ret (v := .slice oA on oc) (by simp [results, Try.results65, go_sem]) rfl ?_
  exact ⟨oA, on, oc, rs, rfl, HS.out.2.1, HS.out.2.2.1, fun q => by rw [HS.out.2.2.2.1 q, List.take_of_length_le (by omega)], HS.out.2.2.2.2.1, HS.out.2.2.2.2.2⟩
end
end Go.Proofs.Ythofngceiecniaa
