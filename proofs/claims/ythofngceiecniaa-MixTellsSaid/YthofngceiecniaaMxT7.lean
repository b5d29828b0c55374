/- Part 7 of the texts of this claim, joined. -/
import Derived.Sort.CutIn
import Derived.Laws.StructEq
import Derived.Test.YthofngceiecniaaMxT6
set_option linter.unusedVariables false
/- How much a vessel can hold: mix.truths.of. -/
namespace Go.Proofs.Ythofngceiecniaa
open Go.RowKit
attribute [local go_sem] Oper.semAt_some

def OfQ (Pm : Held → Prop) (q : Nat) (n : Int) : Prop := ∃ x : D4, Pm x.toH ∧ heldAt x.toH q = n
inductive FrOf (v0 v1 v2 v13 : Value) : Act → Prop
 | mk (u3 u4 u5 u6 u7 u8 u9 u10 u11 u12 u14 u15 u16 u17 u18 u19 u20 u21 u22 u23 u24 : Value) : FrOf v0 v1 v2 v13 { tmps := #[v0, v1, v2, u3, u4, u5, u6, u7, u8, u9, u10, u11, u12, v13, u14, u15, u16, u17, u18, u19, u20, u21, u22, u23, u24], defers := [] }

set_option maxRecDepth 100000 in
set_option maxHeartbeats 8000000 in
theorem of1_own (n : Nat) (hn : 2 ≤ n) (gU : Nat) (T : Tb) (f : Int) (A : Option Addr) (nt c : Nat) (rs : List Nat) (ms : List (List (D4 × Bool))) (g1 g2 q k rk : Nat) (mk : List (D4 × Bool)) (Pm : Held → Prop) (w : World) (hT : TrAt w gU T f A nt c rs ms) (h1 : Blk w g1 86 #[.pointer (some ⟨gU, 0, none⟩)]) (h2 : Blk w g2 118 #[.int .i64 (q : Int), .int .i64 (k : Int)])
  (hrk : rs[k]? = some rk) (hmk : ms[k]? = some mk) (hm : CanIs mk Pm) (hq4 : q < 4) :
  SeqOwn Fence.wide n Try.prog 95 #[.pointer (some ⟨g1, 0, none⟩), .pointer (some ⟨g2, 0, none⟩)] (encI (P := OfQ Pm q)) (KeepB w.heap.size) PAll mk.length w := by
 intro l J w0 hW hJ hY h0
 have HJ := Lib.hid hJ
 have HY := Lib.hid hY
 have H0 := Lib.hid h0
 have HT := Lib.hid hT
 have H1 := Lib.hid h1
 have H2 := Lib.hid h2
 have HM := Lib.hid hm
 have HRK := Lib.hid hrk
 have HMK := Lib.hid hmk
 have HQ4 := Lib.hid hq4
 have HW := Lib.hid hW
 have hrd := (hT.below hW).rd
 obtain ⟨g, off, hA, hgl, hrd2⟩ := Reads.plain hrd (by have := (List.getElem?_eq_some_iff.1 hrk).1; simp; omega)
 have q9 := hrd2 k (canV rk) (by rw [List.getElem?_map, hrk]; rfl)
 unfold canV at q9
 subst hA
 have hkn : k < nt := by have := hT.rd.1; have := (List.getElem?_eq_some_iff.1 hrk).1; simp at *; omega
 obtain ⟨w1, hr1, hi1, hg1, hs1⟩ := MapIs.range (P := Try.prog) (t := 92) Try.underlying92 (show CanMap w0.drew rk mk from (hT.below hW).maps k rk mk hrk hmk)
 have q0 := (hT.below hW).blk.cell 2
 have q1 := (h1.below hW h1.lt).cell 0
 have q2 := (h2.below hW h2.lt).cell 1
 have l0 := (hT.below hW).blk.lt
 have l1 := (h1.below hW h1.lt).lt
 have l2 := (h2.below hW h2.lt).lt
 unfold trC at q0
 clear hJ hY h0 hT h1 h2 hm hrk hmk hq4 hW hrd hrd2
 refine callsIn_of_wp Try.func95 rfl trivial ?_ rfl
 simp only [Try.ntmps95, List.size_toArray, List.length_cons, List.length_nil, Nat.reduceAdd, Nat.reduceSub, Array.replicate_succ, Array.replicate_zero, List.push_toArray, List.append_toArray, List.nil_append, List.cons_append]
 gi_wp2
 gi_region
 clear q0 q1 q2 q9 l0 l1 l2 hr1 hgl
 have hb1 : Below w0.heap.size w0 w1 := (below_drewN (Below.refl w0.heap.size w0) 1).grown hg1 (Nat.le_refl _) (fun k e => by cases e)
 replace hi1 : IterIs D4.key Value.bool okD w1 w0.heap.size rk mk mk := hi1
 have hj1 : J [] w1 := HJ.out [] w0 w1 none H0.out (grown_of_below hb1 none) (fun r e => by cases e)
 have HB1 := Lib.hid (HW.out.trans (hb1.mono HW.out.size))
 have HI1 := Lib.hid hi1
 have HJ1 := Lib.hid hj1
 clear hg1 hs1 hi1 hj1 hb1
 gi_wp2
 refine wpIn_loop (fun a W => ∃ (left : List (D4 × Bool)) (pre : List (Pn (OfQ Pm q))), Hid (IterIs D4.key Value.bool okD W w0.heap.size rk mk left ∧ J pre W ∧ Below w.heap.size w W ∧ pre.length + left.length = mk.length ∧ (∀ p ∈ mk, p ∈ left ∨ ∃ y ∈ pre, y.1 = heldAt p.1.toH q)) ∧ FrOf (.func (.yield l) #[] #[]) (.pointer (some ⟨g1, 0, none⟩)) (.pointer (some ⟨g2, 0, none⟩)) (.pointer (some ⟨w0.heap.size, 0, none⟩)) a)
  (fun _ W => iterLeft W w0.heap.size) ?_ ?_
 ·exact ⟨mk, [], Lib.hid ⟨HI1.out, HJ1.out, HB1.out, by simp, fun p hp => .inl hp⟩, by constructor⟩
 clear HB1 HI1 HJ1
 rintro a W ⟨left, pre, HS, ha⟩
 cases ha
 rcases HS.out.1.next (P := Try.prog) 0 with ⟨hl, hr⟩ | ⟨i, ⟨y, v⟩, w2, hp, hr, hi2, hg2, hs2, he2⟩
 ·gi_wp2
  go_end0
  subst hl
  exact ⟨⟨_, rfl⟩, pre, fun n ⟨x, hx, e⟩ => by
   obtain ⟨v, hv⟩ := (HM.out.keys x).2 hx
   rcases HS.out.2.2.2.2 _ hv with h | ⟨y, hy, e2⟩
   ·cases h
   ·exact ⟨y, hy, e2.trans e⟩, HS.out.2.1⟩
 obtain ⟨v', hym⟩ := HS.out.1.sub (List.mem_of_getElem? hp)
 have hyP : Pm y.toH := (HM.out.keys y).1 ⟨v', hym⟩
 obtain ⟨x1, x2, x3, x4, ho⟩ := IterIs.obj HS.out.1
 have hj2 : J pre w2 := HJ.out pre W w2 _ HS.out.2.1 hg2 (fun r e => by cases e; exact ⟨Nat.le_refl _, _, ho, rfl⟩)
 have hb2 : Below w.heap.size w w2 := HS.out.2.2.1.grown hg2 HS.out.2.2.1.size (fun k e => by cases e; exact HW.out.size)
 obtain ⟨s, hs⟩ : ∃ s, y.toH = s := ⟨_, rfl⟩
 replace hr : (Instr.next (.pointer (some ⟨w0.heap.size, 0, none⟩)) false 0).run Try.prog W = .ok (.tuple #[.bool true, .agg #[.int .i64 (heldAt s 0), .int .i64 (heldAt s 1), .int .i64 (heldAt s 2), .int .i64 (heldAt s 3)], .bool v]) w2 := by rw [← hs]; exact hr
 replace he2 : (Instr.entry (.pointer (some ⟨w0.heap.size, 0, none⟩))).run Try.prog w2 = .ok (.tuple #[.agg #[.int .i64 (heldAt s 0), .int .i64 (heldAt s 1), .int .i64 (heldAt s 2), .int .i64 (heldAt s 3)], .bool v]) w2 := by rw [← hs]; exact he2
 rw [hs] at hyP
 have HYP := Lib.hid hyP
 have HSY := Lib.hid hs
 have HI2 := Lib.hid hi2
 have HJ2 := Lib.hid hj2
 have HB2 := Lib.hid hb2
 have HP := Lib.hid hp
 clear hyP hs hi2 hj2 hb2 hp hg2 hs2 ho hym
 gi_upto_region 3 with fail
 clear hr he2
 have hb3 : Below w2.heap.size w2 (w2.alloc (.cells #[.int .i64 (heldAt s 0), .int .i64 (heldAt s 1), .int .i64 (heldAt s 2), .int .i64 (heldAt s 3)] 97)) := (Below.refl _ _).alloc (Nat.le_refl _) _
 have hX := Blk.new w2 97 #[.int .i64 (heldAt s 0), .int .i64 (heldAt s 1), .int .i64 (heldAt s 2), .int .i64 (heldAt s 3)]
 have hj3 : J pre (w2.alloc (.cells #[.int .i64 (heldAt s 0), .int .i64 (heldAt s 1), .int .i64 (heldAt s 2), .int .i64 (heldAt s 3)] 97)) := HJ.out pre w2 _ none HJ2.out (grown_of_below hb3 none) (fun r e => by cases e)
 have hI3 := HI2.out.below hb3 HI2.out.map.lt HI2.out.lt
 have hB3 := HB2.out.trans (hb3.mono HB2.out.size)
 obtain ⟨Bx, hBx⟩ : ∃ b, w2.heap.size = b := ⟨_, rfl⟩
 generalize (w2.alloc (.cells #[.int .i64 (heldAt s 0), .int .i64 (heldAt s 1), .int .i64 (heldAt s 2), .int .i64 (heldAt s 3)] 97)) = w3 at *
 rw [hBx] at hX ⊢
 obtain ⟨fn, tmps, assign, body, hy, hR⟩ := HY.out pre ⟨heldAt s q, y, by rw [HSY.out]; exact ⟨HYP.out, rfl⟩⟩ w3 hj3 (by
  have h1 := HS.out.2.2.2.1
  have h2 := (List.getElem?_eq_some_iff.1 HP.out).1
  omega)
 unfold encI at hy
 dsimp only at hy
 have HR := Lib.hid hR
 have HI3 := Lib.hid hI3
 have HB3 := Lib.hid hB3
 have c0 := (H2.out.below hB3 H2.out.lt).cell 0
 have c1 := (hX.cell q).trans (held_at s HQ4.out)
 have cl := hX.lt
 have cl2 := (H2.out.below hB3 H2.out.lt).lt
 have hq4 := HQ4.out
 clear hR hj3 hI3 hB3 hb3 hBx hX
 gi_wp2
 refine ⟨fun _ => by omega, HR.out.mono ?_⟩
 rintro e W3 ⟨rfl, hJ3, hk3, _⟩
 have HJ3 := Lib.hid hJ3
 have HI4 := Lib.hid (HI3.out.walks hk3.2.1)
 have HB4 := Lib.hid (HB3.out.trans hk3.1)
 clear hJ3 hk3 hy c0 c1 cl cl2
 gi_wp2
 refine ⟨⟨left.eraseIdx i, _, Lib.hid ⟨HI4.out, HJ3.out, HB4.out, ?_, fun p hp => ?_⟩, by constructor⟩, ?_⟩
 ·have h1 := HS.out.2.2.2.1
  have h2 := (List.getElem?_eq_some_iff.1 HP.out).1
  rw [List.length_append, List.length_eraseIdx_of_lt h2, List.length_singleton]
  omega
 ·rcases HS.out.2.2.2.2 p hp with h | ⟨z, hz, e⟩
  ·rcases List.mem_cons.1 ((perm_erase HP.out).mem_iff.2 h) with rfl | h
   ·exact .inr ⟨_, List.mem_append_right _ (List.mem_singleton_self _), by dsimp only; rw [HSY.out]⟩
   ·exact .inl h
  ·exact .inr ⟨z, List.mem_append_left _ hz, e⟩
 ·have h2 := (List.getElem?_eq_some_iff.1 HP.out).1
  rw [HI4.out.left_eq, HS.out.1.left_eq, List.length_eraseIdx_of_lt h2]
  omega

theorem enters_of1 (args : Array Value) (W : World) : (callFunc 95 args).run Try.prog W = .ok (.enter 95 args) W := by
 simp [go_sem]

set_option maxRecDepth 100000 in
set_option maxHeartbeats 8000000 in
theorem of_in (gU : Nat) (T : Tb) (f : Int) (A : Option Addr) (nt c : Nat) (rs : List Nat) (ms : List (List (D4 × Bool))) (q k rk : Nat) (mk : List (D4 × Bool)) (Pm : Held → Prop) (w : World) (hT : TrAt w gU T f A nt c rs ms)
  (hrk : rs[k]? = some rk) (hmk : ms[k]? = some mk) (hm : CanIs mk Pm) (hml : mk.length ≤ 1000000) (hq4 : q < 4) (hP : ∃ n, OfQ Pm q n) :
  CallsIn Fence.wide 9 Try.prog 60 #[.pointer (some ⟨gU, 0, none⟩), .agg #[.int .i64 (q : Int), .int .i64 (k : Int)]] w (SpanOut w (OfQ Pm q)) := by
 have hmf : ∀ (fn : Fn) (first cap : Array Value) (w : World), (Instr.makeFunc fn first cap).run Try.prog w = .ok (.func fn first cap) w := fun _ _ _ _ => rfl
 have HT := Lib.hid hT
 have HM := Lib.hid hm
 have HML := Lib.hid hml
 have HP := Lib.hid hP
 have HRK := Lib.hid hrk
 have HMK := Lib.hid hmk
 clear hT hm hml hP hrk hmk
 refine callsIn_of_wp Try.func60 rfl trivial ?_ rfl
 simp only [Try.ntmps60, List.size_toArray, List.length_cons, List.length_nil, Nat.reduceAdd, Nat.reduceSub, Array.replicate_succ, Array.replicate_zero, List.push_toArray, List.append_toArray, List.nil_append, List.cons_append]
 gi_upto_region 1 with fail
 have HLay := Lib.hid (Lay.three w 86 #[.pointer (some ⟨gU, 0, none⟩)] 118 #[.int .i64 (q : Int), .int .i64 (k : Int)] 30 #[.int .i64 0, .int .i64 0])
 generalize (((w.alloc (.cells #[.pointer (some ⟨gU, 0, none⟩)] 86)).alloc (.cells #[.int .i64 (q : Int), .int .i64 (k : Int)] 118)).alloc (.cells #[.int .i64 0, .int .i64 0] 30)) = w0 at *
 gi_wp2
 refine ⟨trivial, (callsIn_wide.2 (between_any 95 #[.pointer (some ⟨w.heap.size, 0, none⟩), .pointer (some ⟨w.heap.size + 1, 0, none⟩)] mk.length w0 HML.out enters_of1 HP.out (fun w1 hw1 n hn => of1_own n (by omega) gU T f A nt c rs ms w.heap.size (w.heap.size + 1) q k rk mk Pm w1 (HT.out.below (HLay.out.1.trans (hw1.mono HLay.out.1.size))) ((HLay.out.below hw1).blk 0 rfl) ((HLay.out.below hw1).blk 1 rfl) HRK.out HMK.out HM.out hq4))).mono ?_⟩
 rintro e W1 ⟨lo, hi, rfl, hsp, hb⟩
 have HSP := Lib.hid hsp
 clear hsp
 replace HLay := Lib.hid (HLay.out.below hb)
 clear hb
 have x2_0 := (HLay.out.blk 2 rfl).cell 0
 have z2_0 := (HLay.out.blk 2 rfl).frozen 0
 have x2_1 := (HLay.out.blk 2 rfl).cell 1
 have z2_1 := (HLay.out.blk 2 rfl).frozen 1
 have l2_ := HLay.out.lt 2 rfl
 gi_wp2
 have R2 := ret2' (HLay.out.blk 2 rfl) HLay.out.1 (HLay.out.ge 2 rfl) (.int .i64 lo) (.int .i64 hi)
 have v0 := R2.1.cell 0
 have v1 := R2.1.cell 1
 refine bodyPost_ret (v := .agg #[.int .i64 lo, .int .i64 hi]) (by simp [results, Try.results60, go_sem, v0, v1]) rfl ?_
 exact ⟨lo, hi, rfl, HSP.out, R2.2.1⟩

end Go.Proofs.Ythofngceiecniaa
/- mix.placed. -/
namespace Go.Proofs.Ythofngceiecniaa
open Go.RowKit
/-- What placed tells. -/
def PlacedOut (MA : World → Nat → Prop) (w : World) (m : Mix) (vessel after : Int) (fs : List Int) (e : Ending) (w' : World) : Prop :=
 ∃ p s1 s2, e = .returned (.tuple #[.pointer p, .agg #[.int .i64 s1, .int .i64 s2], .int .i64 (askM m vessel after fs)]) ∧ Below w.heap.size w w' ∧ (askM m vessel after fs = 0 → okMix m = true ∧ s1 = idxV m.vessels vessel ∧ s2 = after ∧ 0 ≤ s1 ∧ (0 ≤ after ∧ after ≤ m.acts.length) ∧
  ∃ T : Tb, p = some ⟨T.g, 0, none⟩ ∧ T.m = m ∧ allM m m.acts = some T.L ∧ w.heap.size ≤ T.g ∧ TbOwn w' w.heap.size T ∧ ∀ W B, MA W B → MixAt W B T.Av T.nv T.Aa T.na T.At T.nt T.m)
section
variable {MA : World → Nat → Prop} {w w' : World} {m : Mix} {vessel after a b : Int} {fs : List Int}
theorem PlacedOut.bad {p : Option Addr} (h : askM m vessel after fs ≠ 0) (hb : Below w.heap.size w w') : PlacedOut MA w m vessel after fs (.returned (.tuple #[.pointer p, .agg #[.int .i64 a, .int .i64 b], .int .i64 (askM m vessel after fs)])) w' :=
 ⟨_, _, _, rfl, hb, fun h' => absurd h' h⟩
theorem PlacedOut.good (T : Tb) (h : askM m vessel after fs = 0) (hk : okMix m = true) (hm : T.m = m) (hL : allM m m.acts = some T.L) (hi : idxV m.vessels vessel = a) (h0 : 0 ≤ a) (hr : 0 ≤ after ∧ after ≤ m.acts.length) (hb : Below w.heap.size w w') (hg : w.heap.size ≤ T.g) (hT : TbOwn w' w.heap.size T) (hMA : ∀ W B, MA W B → MixAt W B T.Av T.nv T.Aa T.na T.At T.nt T.m) :
  PlacedOut MA w m vessel after fs (.returned (.tuple #[.pointer (some ⟨T.g, 0, none⟩), .agg #[.int .i64 a, .int .i64 after], .int .i64 (askM m vessel after fs)])) w' :=
 ⟨_, _, _, rfl, hb, fun _ => ⟨hk, hi.symm, rfl, h0, hr, T, rfl, hm, hL, hg, hT, hMA⟩⟩
theorem inB_all {lo hi : Int} {l : List Int} (h : ∀ f ∈ l, lo ≤ f ∧ f ≤ hi) : inB lo hi l = true := by
 unfold inB
 rw [Bool.not_eq_true', List.any_eq_false]
 intro x hx
 have := h x hx
 simp
 omega
theorem all_inB {lo hi : Int} {l : List Int} (h : inB lo hi l = true) : ∀ f ∈ l, lo ≤ f ∧ f ≤ hi := by
 unfold inB at h
 rw [Bool.not_eq_true', List.any_eq_false] at h
 intro x hx
 have := h x hx
 simp at this
 omega
end
theorem TbOwn.off {W W' : World} {T : Tb} {B B1 g0 : Nat} (hT : TbOwn W B1 T) (hg : W.grownBy W' (some g0)) (hg0 : g0 < B1) (hB : B ≤ B1) (hm : MixAt W' B T.Av T.nv T.Aa T.na T.At T.nt T.m) : TbOwn W' B T :=
 ⟨hT.blk.grown hg (fun e => by have := hT.le.2; cases e; omega), hm, (hT.own.grown hg (fun a ha e => by have := (hT.own.lt ha).1; have := Option.some.inj e; omega)).mono hB, hT.ne, ⟨Nat.le_trans hB (Nat.le_trans hT.le.1 hg.size), Nat.le_trans hB hT.le.2⟩, hT.small⟩

set_option maxRecDepth 100000 in
set_option maxHeartbeats 8000000 in
theorem placed_in (Av : Option Addr) (nv cv : Nat) (Aa : Option Addr) (na ca : Nat) (At : Option Addr) (nt ct : Nat) (m : Mix) (vessel after : Int) (Af : Option Addr) (nf cf : Nat) (fs : List Int) (w : World) (h : MixS w Av nv Aa na At nt m) (hf : IntsAt w w.heap.size Af nf fs) (hnf : nf ≤ maxLen) :
  CallsIn Fence.wide 9 Try.prog 56 #[.agg #[.int .i64 m.fountains, .slice Av nv cv, .slice Aa na ca, .slice At nt ct], .int .i64 vessel, .int .i64 after, .slice Af nf cf] w (PlacedOut (fun W B => MixAt W B Av nv Aa na At nt m) w m vessel after fs) := by
 have HM := Lib.hid h
 have HLA := Lib.hid h.at_.lenA
 have HFS := Lib.hid hf
 clear h hf
 refine callsIn_of_wp Try.func56 rfl trivial ?_ rfl
 simp only [Try.ntmps56, List.size_toArray, List.length_cons, List.length_nil, Nat.reduceAdd, Nat.reduceSub, Array.replicate_succ, Array.replicate_zero, List.push_toArray, List.append_toArray, List.nil_append, List.cons_append]
 gi_upto_region 1 with fail
 have HLay := Lib.hid (Lay.two w 26 #[.int .i64 m.fountains, .slice Av nv cv, .slice Aa na ca, .slice At nt ct] 118 #[.int .i64 0, .int .i64 0])
 generalize ((w.alloc (.cells #[.int .i64 m.fountains, .slice Av nv cv, .slice Aa na ca, .slice At nt ct] 26)).alloc (.cells #[.int .i64 0, .int .i64 0] 118)) = w0 at *
 have HG0 := Lib.hid (HLay.out.lt 1 rfl)
 have HB0 := Lib.hid HLay.out.1.size
 have x0_0 := (HLay.out.blk 0 rfl).cell 0
 have x0_1 := (HLay.out.blk 0 rfl).cell 1
 have x0_2 := (HLay.out.blk 0 rfl).cell 2
 have x0_3 := (HLay.out.blk 0 rfl).cell 3
 have l0_ := HLay.out.lt 0 rfl
 gi_wp2
 clear x0_0 x0_1 x0_2 x0_3 l0_
 refine ⟨trivial, (callsIn_wide.2 (MixS.laid (HM.out.up HLay.out.1))).mono ?_⟩
 rintro e W1 ⟨p, rfl, hb, hp⟩
 have HP := Lib.hid hp
 clear hp
 replace HLay := Lib.hid (HLay.out.below hb)
 clear hb
 cases hk : okMix m with
 | false =>
  have HA : Hid (askM m vessel after fs = 40) := Lib.hid (by unfold askM; rw [hk]; rfl)
  clear hk
  have x1_0 := (HLay.out.blk 1 rfl).cell 0
  have z1_0 := (HLay.out.blk 1 rfl).frozen 0
  have x1_1 := (HLay.out.blk 1 rfl).cell 1
  have z1_1 := (HLay.out.blk 1 rfl).frozen 1
  have l1_ := HLay.out.lt 1 rfl
  gi_wp2
  have R2 := ret2' (HLay.out.blk 1 rfl) HLay.out.1 (HLay.out.ge 1 rfl) (.int .i64 (0)) (.int .i64 (0))
  have v0 := R2.1.cell 0
  have v1 := R2.1.cell 1
  refine bodyPost_ret (v := .tuple #[.pointer none, .agg #[.int .i64 (0), .int .i64 (0)], .int .i64 (40)]) (by simp [results, Try.results56, go_sem, v0, v1]) rfl ?_
  rw [← HA.out]
  exact PlacedOut.bad (by rw [HA.out]; decide) R2.2.1
 | true =>
  obtain ⟨g, AA, nl, cl, L, rfl, hg, hL, hT⟩ := HP.out hk
  obtain ⟨T, hTT⟩ : ∃ T : Tb, T = ⟨g, Av, nv, cv, Aa, na, ca, At, nt, ct, AA, nl, cl, m, L⟩ := ⟨_, rfl⟩
  have hTg : g = T.g := by rw [hTT]
  have hTm : T.m = m := by rw [hTT]
  have HMX : Hid (∀ W B, MixAt W B Av nv Aa na At nt m → MixAt W B T.Av T.nv T.Aa T.na T.At T.nt T.m) := Lib.hid (by rw [hTT]; exact fun _ _ h => h)
  have HTL : Hid (allM m m.acts = some T.L) := Lib.hid (by rw [hTT]; exact hL)
  rw [← hTT] at hT
  subst hTg
  have HK := Lib.hid hk
  have HT := Lib.hid hT
  have HG := Lib.hid hg
  have HTM := Lib.hid hTm
  clear HP hTT hL hg hT hk hTm
  have x0_0 := (HLay.out.blk 0 rfl).cell 0
  have x0_1 := (HLay.out.blk 0 rfl).cell 1
  have x0_2 := (HLay.out.blk 0 rfl).cell 2
  have x0_3 := (HLay.out.blk 0 rfl).cell 3
  have l0_ := HLay.out.lt 0 rfl
  gi_wp2
  clear x0_0 x0_1 x0_2 x0_3 l0_
  refine ⟨trivial, (callsIn_wide.2 (vessel_any T vessel W1 HT.out.at_)).mono ?_⟩
  rintro e W2 ⟨rfl, hb⟩
  replace HLay := Lib.hid (HLay.out.below hb)
  replace HT := Lib.hid (HT.out.below hb)
  clear hb
  rw [HTM.out]
  obtain ⟨ix, hix⟩ : ∃ ix, idxV m.vessels vessel = ix := ⟨_, rfl⟩
  rw [hix]
  have HIX := Lib.hid hix
  clear hix
  have x0_0 := (HLay.out.blk 0 rfl).cell 0
  have x0_1 := (HLay.out.blk 0 rfl).cell 1
  have x0_2 := (HLay.out.blk 0 rfl).cell 2
  have x0_3 := (HLay.out.blk 0 rfl).cell 3
  have l0_ := HLay.out.lt 0 rfl
  gi_upto_region 5 with fail
  clear x0_0 x0_1 x0_2 x0_3 l0_
  obtain ⟨V3, hV⟩ : ∃ V, (W2.alloc (.cells #[.int .i64 ix, .int .i64 after] 118)) = V := ⟨_, rfl⟩
  rw [hV]
  have hb := fbox_bel hV
  have hnew := fbox_blk hV
  have hge := HLay.out.bel.size
  replace HLay := Lib.hid (HLay.out.below hb)
  replace HT := Lib.hid (HT.out.below hb)
  replace HLay := Lib.hid (HLay.out.add hge hnew)
  clear hnew hge hb hV
  obtain ⟨G4, hG⟩ : ∃ g, W2.heap.size = g := ⟨_, rfl⟩
  rw [hG] at HLay ⊢
  clear hG
  by_cases h6 : ix < 0
  ·
   have HA : Hid (askM m vessel after fs = 6) := Lib.hid (by unfold askM; rw [if_pos HK.out, HIX.out, if_pos h6])
   have x1_0 := (HLay.out.blk 1 rfl).cell 0
   have z1_0 := (HLay.out.blk 1 rfl).frozen 0
   have x1_1 := (HLay.out.blk 1 rfl).cell 1
   have z1_1 := (HLay.out.blk 1 rfl).frozen 1
   have l1_ := HLay.out.lt 1 rfl
   have x2_0 := (HLay.out.blk 2 rfl).cell 0
   have x2_1 := (HLay.out.blk 2 rfl).cell 1
   have l2_ := HLay.out.lt 2 rfl
   gi_wp2
   gi_region
   all_goals gi_wp2
   all_goals
    have R2 := ret2' (HLay.out.blk 1 rfl) HLay.out.1 (HLay.out.ge 1 rfl) (.int .i64 (ix)) (.int .i64 (after))
    have v0 := R2.1.cell 0
    have v1 := R2.1.cell 1
    refine bodyPost_ret (v := .tuple #[.pointer none, .agg #[.int .i64 (ix), .int .i64 (after)], .int .i64 (6)]) (by simp [results, Try.results56, go_sem, v0, v1]) rfl ?_
    rw [← HA.out]
    exact PlacedOut.bad (by rw [HA.out]; decide) (below_drewN R2.2.1 1)
  ·
   have H6 := Lib.hid h6
   have x0_0 := (HLay.out.blk 0 rfl).cell 0
   have x0_1 := (HLay.out.blk 0 rfl).cell 1
   have x0_2 := (HLay.out.blk 0 rfl).cell 2
   have x0_3 := (HLay.out.blk 0 rfl).cell 3
   have l0_ := HLay.out.lt 0 rfl
   have x2_0 := (HLay.out.blk 2 rfl).cell 0
   have x2_1 := (HLay.out.blk 2 rfl).cell 1
   have l2_ := HLay.out.lt 2 rfl
   gi_wp2
   clear x0_0 x0_1 x0_2 x0_3 l0_ x2_0 x2_1 l2_
   have Y := IntsAt.new V3 3 [after] (V3.heap.size + 1) (by omega)
   have hb1 : Below V3.heap.size V3 (V3.alloc (.cells #[.int .i64 after] 3)) := (Below.refl _ _).alloc (Nat.le_refl _) _
   have hc := in_any 0 na (some ⟨V3.heap.size, 0, none⟩) 1 1 [after] _ (Y.more (by simp)) (by decide)
   refine ⟨trivial, (callsIn_wide.2 hc).mono ?_⟩
   clear hc Y
   rintro e W8 ⟨rfl, hb⟩
   have hbb := hb1.trans (hb.mono hb1.size)
   clear hb hb1 h6
   replace HLay := Lib.hid (HLay.out.below hbb)
   replace HT := Lib.hid (HT.out.below hbb)
   clear hbb
   by_cases hr : 0 ≤ after ∧ after ≤ na
   ·
    have hi : inB 0 na [after] = true := by rw [inB_one]; exact decide_eq_true hr
    rw [hi]
    have HR := Lib.hid hr
    clear hr hi
    have x0_0 := (HLay.out.blk 0 rfl).cell 0
    have x0_1 := (HLay.out.blk 0 rfl).cell 1
    have x0_2 := (HLay.out.blk 0 rfl).cell 2
    have x0_3 := (HLay.out.blk 0 rfl).cell 3
    have l0_ := HLay.out.lt 0 rfl
    gi_wp2
    clear x0_0 x0_1 x0_2 x0_3 l0_
    refine ⟨trivial, (callsIn_wide.2 (in_any 1 m.fountains Af nf cf fs W8 (ints_up HFS.out HLay.out.1) hnf)).mono ?_⟩
    rintro e W5 ⟨rfl, hb⟩
    replace HLay := Lib.hid (HLay.out.below hb)
    replace HT := Lib.hid (HT.out.below hb)
    clear hb
    cases hq : inB 1 m.fountains fs with
    | false =>
     have HA : Hid (askM m vessel after fs = 2) := Lib.hid (by unfold askM; rw [if_pos HK.out, HIX.out, if_neg (by have := H6.out; omega), if_neg (fun h => by rw [inB_all h.2] at hq; cases hq)])
     clear hq
     have x1_0 := (HLay.out.blk 1 rfl).cell 0
     have z1_0 := (HLay.out.blk 1 rfl).frozen 0
     have x1_1 := (HLay.out.blk 1 rfl).cell 1
     have z1_1 := (HLay.out.blk 1 rfl).frozen 1
     have l1_ := HLay.out.lt 1 rfl
     have x2_0 := (HLay.out.blk 2 rfl).cell 0
     have x2_1 := (HLay.out.blk 2 rfl).cell 1
     have l2_ := HLay.out.lt 2 rfl
     gi_wp2
     gi_region
     all_goals gi_wp2
     all_goals
      have R2 := ret2' (HLay.out.blk 1 rfl) HLay.out.1 (HLay.out.ge 1 rfl) (.int .i64 (ix)) (.int .i64 (after))
      have v0 := R2.1.cell 0
      have v1 := R2.1.cell 1
      refine bodyPost_ret (v := .tuple #[.pointer none, .agg #[.int .i64 (ix), .int .i64 (after)], .int .i64 (2)]) (by simp [results, Try.results56, go_sem, v0, v1]) rfl ?_
      rw [← HA.out]
      exact PlacedOut.bad (by rw [HA.out]; decide) (below_drewN R2.2.1 1)
    | true =>
     have HA : Hid (askM m vessel after fs = 0) := Lib.hid (by unfold askM; rw [if_pos HK.out, HIX.out, if_neg (by have := H6.out; omega), if_pos ⟨by rw [HLA.out]; exact HR.out, all_inB hq⟩])
     clear hq
     have x1_0 := (HLay.out.blk 1 rfl).cell 0
     have z1_0 := (HLay.out.blk 1 rfl).frozen 0
     have x1_1 := (HLay.out.blk 1 rfl).cell 1
     have z1_1 := (HLay.out.blk 1 rfl).frozen 1
     have l1_ := HLay.out.lt 1 rfl
     have x2_0 := (HLay.out.blk 2 rfl).cell 0
     have x2_1 := (HLay.out.blk 2 rfl).cell 1
     have l2_ := HLay.out.lt 2 rfl
     gi_wp2
     gi_region
     all_goals gi_wp2
     all_goals
      have R2 := ret2' (HLay.out.blk 1 rfl) HLay.out.1 (HLay.out.ge 1 rfl) (.int .i64 (ix)) (.int .i64 (after))
      have v0 := R2.1.cell 0
      have v1 := R2.1.cell 1
      refine bodyPost_ret (v := .tuple #[.pointer (some ⟨T.g, 0, none⟩), .agg #[.int .i64 (ix), .int .i64 (after)], .int .i64 (0)]) (by simp [results, Try.results56, go_sem, v0, v1]) rfl ?_
      rw [← HA.out]
      exact PlacedOut.good T HA.out HK.out HTM.out HTL.out HIX.out (by have := H6.out; omega) (by rw [HLA.out]; exact HR.out) (below_drewN R2.2.1 1) (Nat.le_trans HB0.out HG.out) ((HT.out.off R2.2.2 HG0.out HB0.out (HMX.out _ _ (HM.out.at_.below R2.2.1))).below (below_drewN (Below.refl _ _) 1)) HMX.out
   ·
    have hi : inB 0 na [after] = false := by rw [inB_one]; exact decide_eq_false hr
    rw [hi]
    have HA : Hid (askM m vessel after fs = 2) := Lib.hid (by unfold askM; rw [if_pos HK.out, HIX.out, if_neg (by have := H6.out; omega), if_neg (fun h => hr (by rw [HLA.out] at h; exact h.1))])
    clear hr hi
    have x0_0 := (HLay.out.blk 0 rfl).cell 0
    have x0_1 := (HLay.out.blk 0 rfl).cell 1
    have x0_2 := (HLay.out.blk 0 rfl).cell 2
    have x0_3 := (HLay.out.blk 0 rfl).cell 3
    have l0_ := HLay.out.lt 0 rfl
    gi_wp2
    refine ⟨trivial, ?_⟩
    clear x0_0 x0_1 x0_2 x0_3 l0_
    have x1_0 := (HLay.out.blk 1 rfl).cell 0
    have z1_0 := (HLay.out.blk 1 rfl).frozen 0
    have x1_1 := (HLay.out.blk 1 rfl).cell 1
    have z1_1 := (HLay.out.blk 1 rfl).frozen 1
    have l1_ := HLay.out.lt 1 rfl
    have x2_0 := (HLay.out.blk 2 rfl).cell 0
    have x2_1 := (HLay.out.blk 2 rfl).cell 1
    have l2_ := HLay.out.lt 2 rfl
    gi_wp2
    gi_region
    all_goals gi_wp2
    all_goals
     have R2 := ret2' (HLay.out.blk 1 rfl) HLay.out.1 (HLay.out.ge 1 rfl) (.int .i64 (ix)) (.int .i64 (after))
     have v0 := R2.1.cell 0
     have v1 := R2.1.cell 1
     refine bodyPost_ret (v := .tuple #[.pointer none, .agg #[.int .i64 (ix), .int .i64 (after)], .int .i64 (2)]) (by simp [results, Try.results56, go_sem, v0, v1]) rfl ?_
     rw [← HA.out]
     exact PlacedOut.bad (by rw [HA.out]; decide) (below_drewN R2.2.1 1)

end Go.Proofs.Ythofngceiecniaa
/- mix.asked. -/
namespace Go.Proofs.Ythofngceiecniaa
open Go.RowKit

/-- What asked tells. -/
def AskedOut (w : World) (m : Mix) (vessel after fountain : Int) (e : Ending) (w' : World) : Prop :=
 ∃ p s1 s2 ee, e = .returned (.tuple #[.pointer p, .agg #[.int .i64 s1, .int .i64 s2], .int .i64 ee]) ∧ Below w.heap.size w w' ∧ ((askM m vessel after [fountain] ≠ 0 ∧ ee = askM m vessel after [fountain]) ∨ (askM m vessel after [fountain] = 0 ∧ ∃ T : Tb, T.m = m ∧ TbOk T ∧
  ((ee = 8 ∧ ¬ Truth m fountain T.L 0 zeroH) ∨ (ee = 0 ∧ Truth m fountain T.L 0 zeroH ∧ ∃ gU A n c rs ms, ∃ q k : Nat, p = some ⟨gU, 0, none⟩ ∧ s1 = (q : Int) ∧ s2 = (k : Int) ∧ q < 4 ∧ (q : Int) = idxV m.vessels vessel ∧ (k : Int) = after ∧ k ≤ m.acts.length ∧ TrAt w' gU T fountain A n c rs ms ∧ n = m.acts.length + 1 ∧ ∀ (i : Nat) (mi : List (D4 × Bool)), ms[i]? = some mi → CanIs mi (Truth m fountain T.L i)))))

set_option maxRecDepth 100000 in
set_option maxHeartbeats 8000000 in
theorem asked_in (Av : Option Addr) (nv cv : Nat) (Aa : Option Addr) (na ca : Nat) (At : Option Addr) (nt ct : Nat) (m : Mix) (vessel after fountain : Int) (w : World) (h : MixS w Av nv Aa na At nt m) :
  CallsIn Fence.wide 9 Try.prog 59 #[.agg #[.int .i64 m.fountains, .slice Av nv cv, .slice Aa na ca, .slice At nt ct], .int .i64 vessel, .int .i64 after, .int .i64 fountain] w (AskedOut w m vessel after fountain) := by
 have HM := Lib.hid h
 clear h
 refine callsIn_of_wp Try.func59 rfl trivial ?_ rfl
 simp only [Try.ntmps59, List.size_toArray, List.length_cons, List.length_nil, Nat.reduceAdd, Nat.reduceSub, Array.replicate_succ, Array.replicate_zero, List.push_toArray, List.append_toArray, List.nil_append, List.cons_append]
 gi_upto_region 1 with fail
 have HLay := Lib.hid (Lay.two w 26 #[.int .i64 m.fountains, .slice Av nv cv, .slice Aa na ca, .slice At nt ct] 118 #[.int .i64 0, .int .i64 0])
 generalize ((w.alloc (.cells #[.int .i64 m.fountains, .slice Av nv cv, .slice Aa na ca, .slice At nt ct] 26)).alloc (.cells #[.int .i64 0, .int .i64 0] 118)) = w0 at *
 have HG0 := Lib.hid (HLay.out.lt 1 rfl)
 have HB0 := Lib.hid HLay.out.1.size
 have x0_0 := (HLay.out.blk 0 rfl).cell 0
 have x0_1 := (HLay.out.blk 0 rfl).cell 1
 have x0_2 := (HLay.out.blk 0 rfl).cell 2
 have x0_3 := (HLay.out.blk 0 rfl).cell 3
 have l0_ := HLay.out.lt 0 rfl
 gi_wp2
 clear x0_0 x0_1 x0_2 x0_3 l0_
 have Y := IntsAt.new w0 3 [fountain] (w0.heap.size + 1) (by omega)
 have hb1 : Below w0.heap.size w0 (w0.alloc (.cells #[.int .i64 fountain] 3)) := (Below.refl _ _).alloc (Nat.le_refl _) _
 have hc := placed_in Av nv cv Aa na ca At nt ct m vessel after (some ⟨w0.heap.size, 0, none⟩) 1 1 [fountain] _ (HM.out.up (HLay.out.1.trans (hb1.mono HLay.out.1.size))) (Y.more (by simp)) (by decide)
 have hz1 : w0.heap.size ≤ (w0.alloc (.cells #[.int .i64 fountain] 3)).heap.size := by simp
 have HZ1 := Lib.hid hz1
 refine ⟨trivial, (callsIn_wide.2 (callsIn_wide.1 hc)).mono ?_⟩
 clear hc Y hz1
 generalize (w0.alloc (.cells #[.int .i64 fountain] 3)) = W00 at *
 rintro e W8 ⟨pp, s1, s2, rfl, hb, hp⟩
 have HP := Lib.hid hp
 have hbb := hb1.trans (hb.mono hb1.size)
 clear hb hb1 hp
 replace HLay := Lib.hid (HLay.out.below hbb)
 clear hbb
 obtain ⟨ee, hee⟩ : ∃ ee, askM m vessel after [fountain] = ee := ⟨_, rfl⟩
 rw [hee] at HP ⊢
 have HEE := Lib.hid hee
 clear hee
 by_cases h0 : ee = 0
 ·
  obtain ⟨hk, h1, h2, h3, h4, T, rfl, hTm, hTL, hTg, hT, hMX⟩ := HP.out h0
  have HMX := Lib.hid hMX
  subst h0
  subst h2
  obtain ⟨q, hq⟩ : ∃ q : Nat, s1 = q := ⟨s1.toNat, by omega⟩
  subst hq
  obtain ⟨k, hkk⟩ : ∃ k : Nat, s2 = k := ⟨s2.toNat, by omega⟩
  subst hkk
  have hv4 := (okMix_vess hk).1
  have HQ : Hid (q < 4 ∧ (q : Int) = idxV m.vessels vessel ∧ k ≤ m.acts.length) := Lib.hid ⟨by have := idxV_lt (l := m.vessels) (id := vessel) (by omega); omega, h1, by omega⟩
  have HOK : Hid (TbOk T) := Lib.hid ⟨by rw [hTm]; exact hk, by rw [hTm]; exact hTL⟩
  have HTM := Lib.hid hTm
  have HT := Lib.hid hT
  clear HP hk h1 h3 h4 hTm hTL hTg hT hv4 hMX
  gi_upto_region 2 with fail
  obtain ⟨V1, hV⟩ : ∃ V, (W8.alloc (.cells #[.int .i64 (q : Int), .int .i64 (k : Int)] 118)) = V := ⟨_, rfl⟩
  rw [hV]
  have hb := fbox_bel hV
  have hnew := fbox_blk hV
  have hge := HLay.out.bel.size
  replace HLay := Lib.hid (HLay.out.below hb)
  replace HT := Lib.hid (HT.out.below hb)
  replace HLay := Lib.hid (HLay.out.add hge hnew)
  clear hnew hge hb hV
  obtain ⟨G2, hG⟩ : ∃ g, W8.heap.size = g := ⟨_, rfl⟩
  rw [hG] at HLay ⊢
  clear hG
  replace HLay := Lib.hid (show Lay w V1 [(w.heap.size, 26, #[.int .i64 m.fountains, .slice Av nv cv, .slice Aa na ca, .slice At nt ct]), (w.heap.size + 1, 118, #[.int .i64 0, .int .i64 0]), (G2, 118, #[.int .i64 (q : Int), .int .i64 (k : Int)])] from HLay.out)
  gi_wp2
  have HTW := Lib.hid HT.out
  have HTD := Lib.hid HT.out.at_
  refine ⟨trivial, (callsIn_wide.2 (callsIn_wide.1 (told_in T fountain V1 HTD.out HOK.out))).mono ?_⟩
  rintro e W3 ⟨gU, b, A, n, c, rs, ms, rfl, hb, htr, hn, hcan, hb0⟩
  have HTR := Lib.hid htr
  have HN := Lib.hid hn
  have HCN := Lib.hid hcan
  have HBB := Lib.hid hb0
  clear htr hn hcan hb0
  replace HLay := Lib.hid (HLay.out.below hb)
  replace HT := Lib.hid (HT.out.below hb)
  clear hb
  cases b with
  | false =>
   have x1_0 := (HLay.out.blk 1 rfl).cell 0
   have z1_0 := (HLay.out.blk 1 rfl).frozen 0
   have x1_1 := (HLay.out.blk 1 rfl).cell 1
   have z1_1 := (HLay.out.blk 1 rfl).frozen 1
   have l1_ := HLay.out.lt 1 rfl
   have x2_0 := (HLay.out.blk 2 rfl).cell 0
   have x2_1 := (HLay.out.blk 2 rfl).cell 1
   have l2_ := HLay.out.lt 2 rfl
   gi_wp2
   gi_region
   all_goals gi_wp2
   all_goals
    have R2 := ret2' (HLay.out.blk 1 rfl) HLay.out.1 (HLay.out.ge 1 rfl) (.int .i64 ((q : Int))) (.int .i64 ((k : Int)))
    have v0 := R2.1.cell 0
    have v1 := R2.1.cell 1
    refine bodyPost_ret (v := .tuple #[.pointer none, .agg #[.int .i64 ((q : Int)), .int .i64 ((k : Int))], .int .i64 (8)]) (by simp [results, Try.results59, go_sem, v0, v1]) rfl ?_
    exact ⟨_, _, _, _, rfl, below_drewN R2.2.1 1, .inr ⟨HEE.out, T, HTM.out, HOK.out, .inl ⟨rfl, fun h => by have := HBB.out; rw [HTM.out] at this; have := this.2 h; cases this⟩⟩⟩
  | true =>
   have hg1 : w.heap.size + 1 < V1.heap.size := by have := HLay.out.lt 1 rfl; have := HG0.out; have := HTW.out.le.1; have := HZ1.out; omega
   have HG1 := Lib.hid hg1
   clear hg1
   have x1_0 := (HLay.out.blk 1 rfl).cell 0
   have z1_0 := (HLay.out.blk 1 rfl).frozen 0
   have x1_1 := (HLay.out.blk 1 rfl).cell 1
   have z1_1 := (HLay.out.blk 1 rfl).frozen 1
   have l1_ := HLay.out.lt 1 rfl
   have x2_0 := (HLay.out.blk 2 rfl).cell 0
   have x2_1 := (HLay.out.blk 2 rfl).cell 1
   have l2_ := HLay.out.lt 2 rfl
   gi_wp2
   gi_region
   all_goals gi_wp2
   all_goals
    have R2 := ret2' (HLay.out.blk 1 rfl) HLay.out.1 (HLay.out.ge 1 rfl) (.int .i64 ((q : Int))) (.int .i64 ((k : Int)))
    have v0 := R2.1.cell 0
    have v1 := R2.1.cell 1
    refine bodyPost_ret (v := .tuple #[.pointer (some ⟨gU, 0, none⟩), .agg #[.int .i64 ((q : Int)), .int .i64 ((k : Int))], .int .i64 (0)]) (by simp [results, Try.results59, go_sem, v0, v1]) rfl ?_
    have hTb := HT.out.off R2.2.2 (Nat.lt_of_lt_of_le HG0.out HZ1.out) (Nat.le_trans HB0.out HZ1.out) (HMX.out _ _ (HM.out.at_.below R2.2.1))
    have hTr := ((HTR.out.off R2.2.2 HG1.out (HLay.out.blk 1 rfl)).at_ hTb.at_).below (below_drewN (Below.refl _ _) 1)
    refine ⟨_, _, _, _, rfl, below_drewN R2.2.1 1, .inr ⟨HEE.out, T, HTM.out, HOK.out, .inr ⟨rfl, by have := HBB.out; rw [HTM.out] at this; simpa using this, gU, A, n, c, rs, ms, q, k, rfl, rfl, rfl, HQ.out.1, HQ.out.2.1, rfl, HQ.out.2.2, hTr, by rw [← HTM.out]; exact HN.out, fun i mi hi => by rw [← HTM.out]; exact HCN.out i mi hi⟩⟩⟩
 ·
  have h0b : (ee == 0) = false := by simpa using h0
  have h0c : (ee != 0) = true := by simpa using h0
  have HE0 := Lib.hid h0
  clear h0 HP
  gi_upto_region 2 with fail
  obtain ⟨V4, hV⟩ : ∃ V, (W8.alloc (.cells #[.int .i64 s1, .int .i64 s2] 118)) = V := ⟨_, rfl⟩
  rw [hV]
  have hb := fbox_bel hV
  have hnew := fbox_blk hV
  have hge := HLay.out.bel.size
  replace HLay := Lib.hid (HLay.out.below hb)
  replace HLay := Lib.hid (HLay.out.add hge hnew)
  clear hnew hge hb hV
  obtain ⟨G5, hG⟩ : ∃ g, W8.heap.size = g := ⟨_, rfl⟩
  rw [hG] at HLay ⊢
  clear hG
  replace HLay := Lib.hid (show Lay w V4 [(w.heap.size, 26, #[.int .i64 m.fountains, .slice Av nv cv, .slice Aa na ca, .slice At nt ct]), (w.heap.size + 1, 118, #[.int .i64 0, .int .i64 0]), (G5, 118, #[.int .i64 s1, .int .i64 s2])] from HLay.out)
  have x1_0 := (HLay.out.blk 1 rfl).cell 0
  have z1_0 := (HLay.out.blk 1 rfl).frozen 0
  have x1_1 := (HLay.out.blk 1 rfl).cell 1
  have z1_1 := (HLay.out.blk 1 rfl).frozen 1
  have l1_ := HLay.out.lt 1 rfl
  have x2_0 := (HLay.out.blk 2 rfl).cell 0
  have x2_1 := (HLay.out.blk 2 rfl).cell 1
  have l2_ := HLay.out.lt 2 rfl
  gi_wp2
  gi_region
  all_goals gi_wp2
  all_goals
   have R2 := ret2' (HLay.out.blk 1 rfl) HLay.out.1 (HLay.out.ge 1 rfl) (.int .i64 (s1)) (.int .i64 (s2))
   have v0 := R2.1.cell 0
   have v1 := R2.1.cell 1
   refine bodyPost_ret (v := .tuple #[.pointer none, .agg #[.int .i64 (s1), .int .i64 (s2)], .int .i64 (ee)]) (by simp [results, Try.results59, go_sem, v0, v1]) rfl ?_
   exact ⟨_, _, _, _, rfl, below_drewN R2.2.1 1, .inl ⟨by rw [HEE.out]; exact HE0.out, HEE.out.symm⟩⟩

end Go.Proofs.Ythofngceiecniaa
/- mix.Of, mix.Known, mix.Pure. -/
namespace Go.Proofs.Ythofngceiecniaa
open Go.RowKit
theorem nodup_leN : ∀ {a b : List Nat}, a.Nodup → (∀ x ∈ a, x ∈ b) → a.length ≤ b.length
 | [], _, _, _ => by simp
 | x :: a, b, h, hs => by
  rw [List.nodup_cons] at h
  have hb : x ∈ b := hs x (by simp)
  have := nodup_leN (a := a) (b := b.erase x) h.2 (fun y hy => (List.mem_erase_of_ne (fun e => h.1 (by rw [← e]; exact hy))).2 (hs y (by simp [hy])))
  rw [List.length_erase_of_mem hb] at this
  have h0 : 0 < b.length := List.length_pos_of_mem hb
  simp; omega
def D4.num (x : D4) : Nat := x.a.toNat + 13 * x.b.toNat + 169 * x.c.toNat + 2197 * x.d.toNat
theorem can_len {m : List (D4 × Bool)} (hn : (m.map Prod.fst).Nodup) (h : ∀ p ∈ m, (0 ≤ p.1.a ∧ p.1.a ≤ 12) ∧ (0 ≤ p.1.b ∧ p.1.b ≤ 12) ∧ (0 ≤ p.1.c ∧ p.1.c ≤ 12) ∧ (0 ≤ p.1.d ∧ p.1.d ≤ 12)) : m.length ≤ 28561 := by
 have h1 : (m.map fun p => p.1.num).Nodup := by
  rw [List.Nodup, List.pairwise_map] at hn ⊢
  refine hn.imp_of_mem fun {p q} hp hq hne e => hne ?_
  have a := h p hp
  have b := h q hq
  obtain ⟨⟨x1, x2, x3, x4⟩, _⟩ := p
  obtain ⟨⟨y1, y2, y3, y4⟩, _⟩ := q
  unfold D4.num at e
  dsimp only at a b e ⊢
  congr 1 <;> omega
 have h2 := nodup_leN (b := List.range 28561) h1 (fun x hx => by
  obtain ⟨p, hp, rfl⟩ := List.mem_map.1 hx
  have a := h p hp
  unfold D4.num
  rw [List.mem_range]
  omega)
 simpa using h2
theorem can_small {m : Mix} {f : Int} {T : Tb} {k r : Nat} {W : World} {mk : List (D4 × Bool)} (hTm : T.m = m) (hok : TbOk T) (hk : k ≤ m.acts.length) (hm : CanMap W r mk) (hc : CanIs mk (Truth m f T.L k)) : mk.length ≤ 1000000 := by
 subst hTm
 have hL : k < T.L.length := by have := hok.long; omega
 have hr := allM_range hok.all hok.vess (okMix_ves hok.ok) (List.getElem?_eq_getElem hL)
 have := can_len (MapIs.nodup canTy hm) (fun p hp => by
  have h1 := (hc.keys p.1).1 ⟨p.2, hp⟩
  have h2 := h1.fits hok.all hok.vess (List.getElem?_eq_getElem hL)
  have a0 := h2.le 0 (by decide)
  have a1 := h2.le 1 (by decide)
  have a2 := h2.le 2 (by decide)
  have a3 := h2.le 3 (by decide)
  have b0 := hr.2 0
  have b1 := hr.2 1
  have b2 := hr.2 2
  have b3 := hr.2 3
  have e0 : heldAt p.1.toH (0 : Nat) = p.1.a := rfl
  have e1 : heldAt p.1.toH (1 : Nat) = p.1.b := rfl
  have e2 : heldAt p.1.toH (2 : Nat) = p.1.c := rfl
  have e3 : heldAt p.1.toH (3 : Nat) = p.1.d := rfl
  omega)
 omega
theorem ofq_ofp {m : Mix} {f vessel after : Int} {T : Tb} {q k : Nat} (hTm : T.m = m) (hok : TbOk T) (hqi : (q : Int) = idxV m.vessels vessel) (hka : (k : Int) = after) (hk : k ≤ m.acts.length) : ∀ n, OfQ (Truth m f T.L k) q n ↔ OfP m vessel after f T.L n := fun n => by
 subst hTm
 unfold OfQ OfP
 rw [← hqi, ← hka, Int.toNat_natCast]
 have hL : k < T.L.length := by have := hok.long; omega
 constructor
 ·rintro ⟨x, h1, h2⟩; exact ⟨_, h1, h2⟩
 ·rintro ⟨x, h1, h2⟩
  have e := toH_ofH (h1.fits hok.all hok.vess (List.getElem?_eq_getElem hL)).lh
  exact ⟨ofH x, by rw [e]; exact h1, by rw [e]; exact h2⟩
theorem ofq_some {m : Mix} {f : Int} {T : Tb} {q k : Nat} (hTm : T.m = m) (hok : TbOk T) (ht : Truth m f T.L 0 zeroH) (hk : k ≤ m.acts.length) : ∃ n, OfQ (Truth m f T.L k) q n := by
 subst hTm
 have hL : k < T.L.length := by have := hok.long; omega
 obtain ⟨s, hs⟩ := truth_all ht hk
 have e := toH_ofH (hs.fits hok.all hok.vess (List.getElem?_eq_getElem hL)).lh
 exact ⟨_, ofH s, by rw [e]; exact hs, rfl⟩
theorem ask_less {m : Mix} {vessel after : Int} {fs : List Int} (h : askM m vessel after fs = 0) : askM m vessel after [] = 0 := by
 unfold askM at h ⊢
 split at h
 ·rename_i h1
  rw [if_pos h1]
  split at h
  ·cases h
  ·rename_i h2
   rw [if_neg h2]
   split at h
   ·rename_i h3
    rw [if_pos ⟨h3.1, fun f hf => by cases hf⟩]
   ·cases h
 ·cases h
def AskAns (w' : World) (m : Mix) (vessel after fountain : Int) (p : Option Addr) (s1 s2 ee : Int) : Prop := (askM m vessel after [fountain] ≠ 0 ∧ ee = askM m vessel after [fountain]) ∨ (askM m vessel after [fountain] = 0 ∧ ∃ T : Tb, T.m = m ∧ TbOk T ∧
    ((ee = 8 ∧ ¬ Truth m fountain T.L 0 zeroH) ∨ (ee = 0 ∧ Truth m fountain T.L 0 zeroH ∧ ∃ gU A n c rs ms, ∃ q k : Nat, p = some ⟨gU, 0, none⟩ ∧ s1 = (q : Int) ∧ s2 = (k : Int) ∧ q < 4 ∧ (q : Int) = idxV m.vessels vessel ∧ (k : Int) = after ∧ k ≤ m.acts.length ∧ TrAt w' gU T fountain A n c rs ms ∧ n = m.acts.length + 1 ∧ ∀ (i : Nat) (mi : List (D4 × Bool)), ms[i]? = some mi → CanIs mi (Truth m fountain T.L i))))
theorem asked_ok {w' : World} {m : Mix} {vessel after fountain s1 s2 : Int} {p : Option Addr} (h : AskAns w' m vessel after fountain p s1 s2 0) : askM m vessel after [fountain] = 0 ∧ ∃ T : Tb, T.m = m ∧ TbOk T ∧ Truth m fountain T.L 0 zeroH ∧ ∃ gU A n c rs ms, ∃ q k : Nat, p = some ⟨gU, 0, none⟩ ∧ s1 = (q : Int) ∧ s2 = (k : Int) ∧ q < 4 ∧ (q : Int) = idxV m.vessels vessel ∧ (k : Int) = after ∧ k ≤ m.acts.length ∧ TrAt w' gU T fountain A n c rs ms ∧ n = m.acts.length + 1 ∧ ∀ (i : Nat) (mi : List (D4 × Bool)), ms[i]? = some mi → CanIs mi (Truth m fountain T.L i) := by
 rcases h with ⟨h0, h1⟩ | ⟨h0, T, h1, h2, ⟨h3, _⟩ | ⟨_, h4, h5⟩⟩
 ·exact absurd h1.symm h0
 ·cases h3
 ·exact ⟨h0, T, h1, h2, h4, h5⟩
theorem asked_bad {w' : World} {m : Mix} {vessel after fountain s1 s2 ee : Int} {p : Option Addr} (h : AskAns w' m vessel after fountain p s1 s2 ee) (he : ee ≠ 0) : OfIs m vessel after fountain (0, 0) ee := by
 rcases h with ⟨h0, h1⟩ | ⟨h0, T, h1, h2, ⟨h3, h4⟩ | ⟨h3, _⟩⟩
 ·exact .inl ⟨h0, rfl, h1⟩
 ·exact .inr ⟨h0, T.L, by rw [← h1]; exact h2.all, .inl ⟨h4, rfl, h3⟩⟩
 ·exact absurd h3 he
/-- What Of, Known and Pure hand back. -/
def OfOut (w : World) (m : Mix) (vessel after fountain : Int) (e : Ending) (w' : World) : Prop := ∃ lo hi ee : Int, e = .returned (.tuple #[.agg #[.int .i64 lo, .int .i64 hi], .int .i64 ee]) ∧ OfIs m vessel after fountain (lo, hi) ee ∧ Below w.heap.size w w'
def KnownOut (w : World) (m : Mix) (vessel after fountain : Int) (e : Ending) (w' : World) : Prop := ∃ lo hi ee : Int, e = .returned (.tuple #[.int .u8 (judgeI (decide (0 < lo)) (decide (0 < hi))), .int .i64 ee]) ∧ OfIs m vessel after fountain (lo, hi) ee ∧ Below w.heap.size w w'
def PureOut (w : World) (m : Mix) (vessel after fountain : Int) (e : Ending) (w' : World) : Prop := (∃ ee : Int, e = .returned (.tuple #[.int .u8 0, .int .i64 ee]) ∧ ee ≠ 0 ∧ OfIs m vessel after fountain (0, 0) ee ∧ Below w.heap.size w w') ∨
 ∃ lo hi n : Int, e = .returned (.tuple #[.int .u8 (judgeI (decide (lo = n)) (decide (hi = n))), .int .i64 0]) ∧ OfIs m vessel after fountain (lo, hi) 0 ∧ HoldsIs m vessel after n 0 ∧ Below w.heap.size w w'

set_option maxRecDepth 100000 in
set_option maxHeartbeats 8000000 in
theorem of_any (Av : Option Addr) (nv cv : Nat) (Aa : Option Addr) (na ca : Nat) (At : Option Addr) (nt ct : Nat) (m : Mix) (vessel after fountain : Int) (w : World) (h : MixS w Av nv Aa na At nt m) :
  CallsIn Fence.wide 9 Try.prog 16 #[.agg #[.int .i64 m.fountains, .slice Av nv cv, .slice Aa na ca, .slice At nt ct], .int .i64 vessel, .int .i64 after, .int .i64 fountain] w (OfOut w m vessel after fountain) := by
 have HM := Lib.hid h
 clear h
 refine callsIn_of_wp Try.func16 rfl trivial ?_ rfl
 simp only [Try.ntmps16, List.size_toArray, List.length_cons, List.length_nil, Nat.reduceAdd, Nat.reduceSub, Array.replicate_succ, Array.replicate_zero, List.push_toArray, List.append_toArray, List.nil_append, List.cons_append]
 gi_upto_region 1 with fail
 have HLay := Lib.hid (Lay.two w 26 #[.int .i64 m.fountains, .slice Av nv cv, .slice Aa na ca, .slice At nt ct] 30 #[.int .i64 0, .int .i64 0])
 generalize ((w.alloc (.cells #[.int .i64 m.fountains, .slice Av nv cv, .slice Aa na ca, .slice At nt ct] 26)).alloc (.cells #[.int .i64 0, .int .i64 0] 30)) = w0 at *
 have x0_0 := (HLay.out.blk 0 rfl).cell 0
 have x0_1 := (HLay.out.blk 0 rfl).cell 1
 have x0_2 := (HLay.out.blk 0 rfl).cell 2
 have x0_3 := (HLay.out.blk 0 rfl).cell 3
 have l0_ := HLay.out.lt 0 rfl
 gi_wp2
 clear x0_0 x0_1 x0_2 x0_3 l0_
 refine ⟨trivial, (callsIn_wide.2 (callsIn_wide.1 (asked_in Av nv cv Aa na ca At nt ct m vessel after fountain w0 (HM.out.up HLay.out.1)))).mono ?_⟩
 rintro e W1 ⟨pp, s1, s2, ee, rfl, hb, hc⟩
 have HC := Lib.hid hc
 clear hc
 replace HLay := Lib.hid (HLay.out.below hb)
 clear hb
 by_cases h0 : ee = 0
 ·
  subst h0
  obtain ⟨h1, T, hTm, hok, ht, gU, A, n, c, rs, ms, q, k, rfl, rfl, rfl, hq4, hqi, hka, hkl, htr, hn, hcan⟩ := asked_ok HC.out
  have HF : Hid (∀ lo hi : Int, IsSpan (OfQ (Truth m fountain T.L k) q) (lo, hi) → OfIs m vessel after fountain (lo, hi) 0) := Lib.hid fun lo hi hs => .inr ⟨h1, T.L, by rw [← hTm]; exact hok.all, .inr ⟨ht, rfl, hs.congr (ofq_ofp hTm hok hqi hka hkl)⟩⟩
  have hkr : k < rs.length := by have := htr.rd.1; simp at this; omega
  have hkm : k < ms.length := by have := htr.len; omega
  have HRK : Hid (rs[k]? = some rs[k]) := Lib.hid (List.getElem?_eq_getElem hkr)
  have HMK : Hid (ms[k]? = some ms[k]) := Lib.hid (List.getElem?_eq_getElem hkm)
  have HCM : Hid (CanIs ms[k] (Truth m fountain T.L k)) := Lib.hid (hcan k _ HMK.out)
  have HML : Hid (ms[k].length ≤ 1000000) := Lib.hid (can_small hTm hok hkl (htr.maps k _ _ HRK.out HMK.out) HCM.out)
  have HEX : Hid (∃ n, OfQ (Truth m fountain T.L k) q n) := Lib.hid (ofq_some hTm hok ht hkl)
  have HTR := Lib.hid htr
  have HQ4 := Lib.hid hq4
  clear HC h1 hTm hok ht hqi hka hkl htr hn hcan hq4
  gi_upto_region 2 with fail
  obtain ⟨V2, hV⟩ : ∃ V, (W1.alloc (.cells #[.int .i64 (q : Int), .int .i64 (k : Int)] 118)) = V := ⟨_, rfl⟩
  rw [hV]
  have hb := fbox_bel hV
  have hnew := fbox_blk hV
  have hge := HLay.out.bel.size
  replace HLay := Lib.hid (HLay.out.below hb)
  replace HTR := Lib.hid (HTR.out.below hb)
  replace HLay := Lib.hid (HLay.out.add hge hnew)
  clear hnew hge hb hV
  obtain ⟨G3, hG⟩ : ∃ g, W1.heap.size = g := ⟨_, rfl⟩
  rw [hG] at HLay ⊢
  clear hG
  replace HLay := Lib.hid (show Lay w V2 [(w.heap.size, 26, #[.int .i64 m.fountains, .slice Av nv cv, .slice Aa na ca, .slice At nt ct]), (w.heap.size + 1, 30, #[.int .i64 0, .int .i64 0]), (G3, 118, #[.int .i64 (q : Int), .int .i64 (k : Int)])] from HLay.out)
  have x2_0 := (HLay.out.blk 2 rfl).cell 0
  have x2_1 := (HLay.out.blk 2 rfl).cell 1
  have l2_ := HLay.out.lt 2 rfl
  gi_wp2
  clear x2_0 x2_1 l2_
  refine ⟨trivial, (callsIn_wide.2 (callsIn_wide.1 (of_in gU T fountain A n c rs ms q k rs[k] ms[k] (Truth m fountain T.L k) V2 HTR.out HRK.out HMK.out HCM.out HML.out HQ4.out HEX.out))).mono ?_⟩
  rintro e W4 ⟨lo, hi, rfl, hsp, hb⟩
  have HSP := Lib.hid (HF.out lo hi hsp)
  clear hsp
  replace HLay := Lib.hid (HLay.out.below hb)
  replace HTR := Lib.hid (HTR.out.below hb)
  clear hb
  have x1_0 := (HLay.out.blk 1 rfl).cell 0
  have z1_0 := (HLay.out.blk 1 rfl).frozen 0
  have x1_1 := (HLay.out.blk 1 rfl).cell 1
  have z1_1 := (HLay.out.blk 1 rfl).frozen 1
  have l1_ := HLay.out.lt 1 rfl
  gi_wp2
  have R2 := ret2' (HLay.out.blk 1 rfl) HLay.out.1 (HLay.out.ge 1 rfl) (.int .i64 (lo)) (.int .i64 (hi))
  have v0 := R2.1.cell 0
  have v1 := R2.1.cell 1
  refine bodyPost_ret (v := .tuple #[.agg #[.int .i64 (lo), .int .i64 (hi)], .int .i64 (0)]) (by simp [results, Try.results16, go_sem, v0, v1]) rfl ?_
  exact ⟨lo, hi, 0, rfl, HSP.out, R2.2.1⟩
 ·
  have h0b : (ee == 0) = false := by simpa using h0
  have h0c : (ee != 0) = true := by simpa using h0
  have HF : Hid (OfIs m vessel after fountain (0, 0) ee) := Lib.hid (asked_bad HC.out h0)
  clear h0 HC
  gi_upto_region 2 with fail
  obtain ⟨V5, hV⟩ : ∃ V, (W1.alloc (.cells #[.int .i64 s1, .int .i64 s2] 118)) = V := ⟨_, rfl⟩
  rw [hV]
  have hb := fbox_bel hV
  have hnew := fbox_blk hV
  have hge := HLay.out.bel.size
  replace HLay := Lib.hid (HLay.out.below hb)
  replace HLay := Lib.hid (HLay.out.add hge hnew)
  clear hnew hge hb hV
  obtain ⟨G6, hG⟩ : ∃ g, W1.heap.size = g := ⟨_, rfl⟩
  rw [hG] at HLay ⊢
  clear hG
  replace HLay := Lib.hid (show Lay w V5 [(w.heap.size, 26, #[.int .i64 m.fountains, .slice Av nv cv, .slice Aa na ca, .slice At nt ct]), (w.heap.size + 1, 30, #[.int .i64 0, .int .i64 0]), (G6, 118, #[.int .i64 s1, .int .i64 s2])] from HLay.out)
  have x1_0 := (HLay.out.blk 1 rfl).cell 0
  have z1_0 := (HLay.out.blk 1 rfl).frozen 0
  have x1_1 := (HLay.out.blk 1 rfl).cell 1
  have z1_1 := (HLay.out.blk 1 rfl).frozen 1
  have l1_ := HLay.out.lt 1 rfl
  have x2_0 := (HLay.out.blk 2 rfl).cell 0
  have x2_1 := (HLay.out.blk 2 rfl).cell 1
  have l2_ := HLay.out.lt 2 rfl
  gi_wp2
  have R2 := ret2' (HLay.out.blk 1 rfl) HLay.out.1 (HLay.out.ge 1 rfl) (.int .i64 (0)) (.int .i64 (0))
  have v0 := R2.1.cell 0
  have v1 := R2.1.cell 1
  refine bodyPost_ret (v := .tuple #[.agg #[.int .i64 (0), .int .i64 (0)], .int .i64 (ee)]) (by simp [results, Try.results16, go_sem, v0, v1]) rfl ?_
  exact ⟨0, 0, ee, rfl, HF.out, R2.2.1⟩

theorem judged_any (a b : Bool) (w : World) : Calls Try.prog 61 #[.bool a, .bool b] w fun e w' => e = .returned (.int .u8 (judgeI a b)) ∧ w = w' := by
 cases a <;> cases b <;>
 ·go_enter Try.func61, Try.ntmps61
  go_wp2
  go_ret
  exact ⟨rfl, rfl⟩

set_option maxRecDepth 100000 in
set_option maxHeartbeats 8000000 in
theorem known_any (Av : Option Addr) (nv cv : Nat) (Aa : Option Addr) (na ca : Nat) (At : Option Addr) (nt ct : Nat) (m : Mix) (vessel after fountain : Int) (w : World) (h : MixS w Av nv Aa na At nt m) :
  CallsIn Fence.wide 9 Try.prog 20 #[.agg #[.int .i64 m.fountains, .slice Av nv cv, .slice Aa na ca, .slice At nt ct], .int .i64 vessel, .int .i64 after, .int .i64 fountain] w (KnownOut w m vessel after fountain) := by
 have HM := Lib.hid h
 clear h
 refine callsIn_of_wp Try.func20 rfl trivial ?_ rfl
 simp only [Try.ntmps20, List.size_toArray, List.length_cons, List.length_nil, Nat.reduceAdd, Nat.reduceSub, Array.replicate_succ, Array.replicate_zero, List.push_toArray, List.append_toArray, List.nil_append, List.cons_append]
 gi_upto_region 1 with fail
 have HLay := Lib.hid (Lay.one w 26 #[.int .i64 m.fountains, .slice Av nv cv, .slice Aa na ca, .slice At nt ct])
 generalize (w.alloc (.cells #[.int .i64 m.fountains, .slice Av nv cv, .slice Aa na ca, .slice At nt ct] 26)) = w0 at *
 have x0_0 := (HLay.out.blk 0 rfl).cell 0
 have x0_1 := (HLay.out.blk 0 rfl).cell 1
 have x0_2 := (HLay.out.blk 0 rfl).cell 2
 have x0_3 := (HLay.out.blk 0 rfl).cell 3
 have l0_ := HLay.out.lt 0 rfl
 gi_wp2
 clear x0_0 x0_1 x0_2 x0_3 l0_
 refine ⟨trivial, (callsIn_wide.2 (callsIn_wide.1 (of_any Av nv cv Aa na ca At nt ct m vessel after fountain w0 (HM.out.up HLay.out.1)))).mono ?_⟩
 rintro e W1 ⟨lo, hi, ee, rfl, hof, hb⟩
 have HOF := Lib.hid hof
 clear hof
 replace HLay := Lib.hid (HLay.out.below hb)
 clear hb
 gi_upto_region 2 with fail
 obtain ⟨V2, hV⟩ : ∃ V, (W1.alloc (.cells #[.int .i64 lo, .int .i64 hi] 30)) = V := ⟨_, rfl⟩
 rw [hV]
 have hb := fbox_bel hV
 have hnew := fbox_blk hV
 have hge := HLay.out.bel.size
 replace HLay := Lib.hid (HLay.out.below hb)
 replace HLay := Lib.hid (HLay.out.add hge hnew)
 clear hnew hge hb hV
 obtain ⟨G3, hG⟩ : ∃ g, W1.heap.size = g := ⟨_, rfl⟩
 rw [hG] at HLay ⊢
 clear hG
 replace HLay := Lib.hid (show Lay w V2 [(w.heap.size, 26, #[.int .i64 m.fountains, .slice Av nv cv, .slice Aa na ca, .slice At nt ct]), (G3, 30, #[.int .i64 lo, .int .i64 hi])] from HLay.out)
 have x1_0 := (HLay.out.blk 1 rfl).cell 0
 have x1_1 := (HLay.out.blk 1 rfl).cell 1
 have l1_ := HLay.out.lt 1 rfl
 gi_wp2
 clear x1_0 x1_1 l1_
 refine ⟨trivial, (callsIn_wide.2 (judged_any (decide (0 < lo)) (decide (0 < hi)) V2)).mono ?_⟩
 rintro e W9 ⟨rfl, rfl⟩
 gi_wp2
 refine bodyPost_ret (v := .tuple #[.int .u8 (judgeI (decide (0 < lo)) (decide (0 < hi))), .int .i64 ee]) (by simp [results, Try.results20, go_sem]) rfl ?_
 exact ⟨lo, hi, ee, rfl, HOF.out, HLay.out.1⟩

set_option maxRecDepth 100000 in
set_option maxHeartbeats 8000000 in
theorem pure_any (Av : Option Addr) (nv cv : Nat) (Aa : Option Addr) (na ca : Nat) (At : Option Addr) (nt ct : Nat) (m : Mix) (vessel after fountain : Int) (w : World) (h : MixS w Av nv Aa na At nt m) :
  CallsIn Fence.wide 9 Try.prog 22 #[.agg #[.int .i64 m.fountains, .slice Av nv cv, .slice Aa na ca, .slice At nt ct], .int .i64 vessel, .int .i64 after, .int .i64 fountain] w (PureOut w m vessel after fountain) := by
 have HM := Lib.hid h
 clear h
 refine callsIn_of_wp Try.func22 rfl trivial ?_ rfl
 simp only [Try.ntmps22, List.size_toArray, List.length_cons, List.length_nil, Nat.reduceAdd, Nat.reduceSub, Array.replicate_succ, Array.replicate_zero, List.push_toArray, List.append_toArray, List.nil_append, List.cons_append]
 gi_upto_region 1 with fail
 have HLay := Lib.hid (Lay.one w 26 #[.int .i64 m.fountains, .slice Av nv cv, .slice Aa na ca, .slice At nt ct])
 generalize (w.alloc (.cells #[.int .i64 m.fountains, .slice Av nv cv, .slice Aa na ca, .slice At nt ct] 26)) = w0 at *
 have x0_0 := (HLay.out.blk 0 rfl).cell 0
 have x0_1 := (HLay.out.blk 0 rfl).cell 1
 have x0_2 := (HLay.out.blk 0 rfl).cell 2
 have x0_3 := (HLay.out.blk 0 rfl).cell 3
 have l0_ := HLay.out.lt 0 rfl
 gi_wp2
 clear x0_0 x0_1 x0_2 x0_3 l0_
 refine ⟨trivial, (callsIn_wide.2 (callsIn_wide.1 (asked_in Av nv cv Aa na ca At nt ct m vessel after fountain w0 (HM.out.up HLay.out.1)))).mono ?_⟩
 rintro e W1 ⟨pp, s1, s2, ee, rfl, hb, hc⟩
 have HC := Lib.hid hc
 clear hc
 replace HLay := Lib.hid (HLay.out.below hb)
 clear hb
 by_cases h0 : ee = 0
 ·
  subst h0
  obtain ⟨h1, T, hTm, hok, ht, gU, A, n, c, rs, ms, q, k, rfl, rfl, rfl, hq4, hqi, hka, hkl, htr, hn, hcan⟩ := asked_ok HC.out
  have hkL : k < T.L.length := by have := hok.long; rw [hTm] at this; omega
  obtain ⟨all, hall⟩ : ∃ all, T.L[k]? = some all := ⟨_, List.getElem?_eq_getElem hkL⟩
  have HF : Hid (∀ lo hi : Int, IsSpan (OfQ (Truth m fountain T.L k) q) (lo, hi) → OfIs m vessel after fountain (lo, hi) 0 ∧ HoldsIs m vessel after (heldAt all (q : Int)) 0) := Lib.hid fun lo hi hs => ⟨.inr ⟨h1, T.L, by rw [← hTm]; exact hok.all, .inr ⟨ht, rfl, hs.congr (ofq_ofp hTm hok hqi hka hkl)⟩⟩, .inr ⟨ask_less h1, rfl, T.L, all, by rw [← hTm]; exact hok.all, by rw [← hka]; exact hall, by rw [hqi]⟩⟩
  have hkr : k < rs.length := by have := htr.rd.1; simp at this; omega
  have hkm : k < ms.length := by have := htr.len; omega
  have HRK : Hid (rs[k]? = some rs[k]) := Lib.hid (List.getElem?_eq_getElem hkr)
  have HMK : Hid (ms[k]? = some ms[k]) := Lib.hid (List.getElem?_eq_getElem hkm)
  have HCM : Hid (CanIs ms[k] (Truth m fountain T.L k)) := Lib.hid (hcan k _ HMK.out)
  have HML : Hid (ms[k].length ≤ 1000000) := Lib.hid (can_small hTm hok hkl (htr.maps k _ _ HRK.out HMK.out) HCM.out)
  have HEX : Hid (∃ n, OfQ (Truth m fountain T.L k) q n) := Lib.hid (ofq_some hTm hok ht hkl)
  have hkl2 : k < T.nl := by have := recs_n heldC_k (by omega) htr.tb.all; omega
  obtain ⟨bl, ol, all', hAL, hbl, hall', hcl⟩ := recs_cell heldC_k (by omega) htr.tb.all hkl2
  rw [hall] at hall'
  obtain rfl : all = all' := Option.some.inj hall'
  have HTR := Lib.hid htr
  have HTR0 := Lib.hid htr
  have HQ4 := Lib.hid hq4
  have HAL := Lib.hid hAL
  have HBL := Lib.hid hbl
  have HCE := Lib.hid (hcl q _ (heldC_l all hq4))
  have HKL := Lib.hid hkl2
  clear HC h1 hTm hok ht hqi hka hkl htr hn hcan hq4 hkL hall hall' hAL hbl hcl hkl2
  have B00 := Lib.hid (Below.refl W1.heap.size W1)
  gi_upto_region 4 with fail
  obtain ⟨V2, hV⟩ : ∃ V, (W1.alloc (.cells #[.int .i64 (q : Int), .int .i64 (k : Int)] 118)) = V := ⟨_, rfl⟩
  rw [hV]
  have hb := fbox_bel hV
  have hnew := fbox_blk hV
  have hge := HLay.out.bel.size
  replace HLay := Lib.hid (HLay.out.below hb)
  replace HTR := Lib.hid (HTR.out.below hb)
  replace B00 := Lib.hid (B00.out.trans (hb.mono B00.out.size))
  replace HLay := Lib.hid (HLay.out.add hge hnew)
  clear hnew hge hb hV
  obtain ⟨G3, hG⟩ : ∃ g, W1.heap.size = g := ⟨_, rfl⟩
  rw [hG] at HLay ⊢
  clear hG
  replace HLay := Lib.hid (show Lay w V2 [(w.heap.size, 26, #[.int .i64 m.fountains, .slice Av nv cv, .slice Aa na ca, .slice At nt ct]), (G3, 118, #[.int .i64 (q : Int), .int .i64 (k : Int)])] from HLay.out)
  have HLay0 := Lib.hid HLay.out
  refine wpIn_flow_new [([true, true, true, true, true, true, true, true, true, true, true, true, true, true, true, true], 16)] [false, false, false, false, false, false, false, false, false, false, false, false, false, false, false, false, false, false, true] [false, false, false, false, false, false, false, false, false, false, false, false, false, false, false, false, false, false, false, true] 17 (fun b => .pointer (some ⟨b, 0, none⟩)) 30 #[.int .i64 0, .int .i64 0] (by kernel_rfl) (by kernel_rfl) (by kernel_rfl) (below_drewN (Below.refl _ _) 1) rfl rfl rfl (fun _ _ => rfl) (fun _ _ => rfl) ?_
  refine wpFlow_cons (A := ?AF1) rfl ?hq1 ?_
  case hq1 =>
   rintro σ hσ of hof hcl
   have HOF := Lib.hid hof
   have HCL := Lib.hid hcl
   clear hof hcl
   have c0_ : ∀ z, (of z).cell? ⟨G3, 0, none⟩ = some (.int .i64 (q : Int)) := fun z => ((HLay.out.below (HOF.out z)).blk 1 rfl).cell 0
   have c1_ : ∀ z, (of z).cell? ⟨G3, 1, none⟩ = some (.int .i64 (k : Int)) := fun z => ((HLay.out.below (HOF.out z)).blk 1 rfl).cell 1
   have hfw : ∀ f, Fence.wide.fn f := fun _ => trivial
   have u0 : ∀ z, (of z).cell? ⟨gU, 0, none⟩ = some (.pointer (some ⟨T.g, 0, none⟩)) := fun z => (HTR0.out.blk.below (B00.out.trans ((HOF.out z).mono B00.out.size)) HTR0.out.blk.lt).cell 0
   have t4 : ∀ z, (of z).cell? ⟨T.g, 4, none⟩ = some (.slice (some ⟨bl, ol, none⟩) T.nl T.cl) := fun z => by have := (HTR0.out.tb.below (B00.out.trans ((HOF.out z).mono B00.out.size))).blk.cell 4; rw [← HAL.out]; exact this
   have ch : ∀ z, (of z).cell? ⟨bl, ol + k * 4 + q, none⟩ = some (.int .i64 (heldAt all (q : Int))) := fun z => ((B00.out.trans ((HOF.out z).mono B00.out.size)).cell (p := ⟨bl, ol + k * 4 + q, none⟩) HBL.out).trans HCE.out
   have hkl := HKL.out
   have hq4 := HQ4.out
   simp only [pickB]
   repeat (gi_big_quiet_step (fail))
   refine wpQuietIn_nil ?_
   exact rfl
  intro W4 hW
  replace HLay := Lib.hid (HLay.out.below hW)
  replace HTR := Lib.hid (HTR.out.below hW)
  replace B00 := Lib.hid (B00.out.trans (hW.mono B00.out.size))
  clear hW
  gi_wp2
  refine ⟨trivial, (callsIn_wide.2 (callsIn_wide.1 (of_in gU T fountain A n c rs ms q k rs[k] ms[k] (Truth m fountain T.L k) W4 HTR.out HRK.out HMK.out HCM.out HML.out HQ4.out HEX.out))).mono ?_⟩
  rintro e W5 ⟨lo, hi, rfl, hsp, hb⟩
  have HSP := Lib.hid (HF.out lo hi hsp)
  clear hsp
  replace HLay := Lib.hid (HLay.out.below hb)
  replace HTR := Lib.hid (HTR.out.below hb)
  replace B00 := Lib.hid (B00.out.trans (hb.mono B00.out.size))
  gi_wp2
  refine ⟨trivial, hb, ?_⟩
  clear hb
  refine wpFlow_nil (A := ?AF2) ?hq2 ?_
  case hq2 =>
   rintro σ hσ of hof hcl
   have HOF := Lib.hid hof
   have HCL := Lib.hid hcl
   clear hof hcl
   have c0_ : ∀ z, (of z).cell? ⟨G3, 0, none⟩ = some (.int .i64 (q : Int)) := fun z => ((HLay.out.below (HOF.out z)).blk 1 rfl).cell 0
   have c1_ : ∀ z, (of z).cell? ⟨G3, 1, none⟩ = some (.int .i64 (k : Int)) := fun z => ((HLay.out.below (HOF.out z)).blk 1 rfl).cell 1
   have hfw : ∀ f, Fence.wide.fn f := fun _ => trivial
   have u0 : ∀ z, (of z).cell? ⟨gU, 0, none⟩ = some (.pointer (some ⟨T.g, 0, none⟩)) := fun z => (HTR0.out.blk.below (B00.out.trans ((HOF.out z).mono B00.out.size)) HTR0.out.blk.lt).cell 0
   have t4 : ∀ z, (of z).cell? ⟨T.g, 4, none⟩ = some (.slice (some ⟨bl, ol, none⟩) T.nl T.cl) := fun z => by have := (HTR0.out.tb.below (B00.out.trans ((HOF.out z).mono B00.out.size))).blk.cell 4; rw [← HAL.out]; exact this
   have ch : ∀ z, (of z).cell? ⟨bl, ol + k * 4 + q, none⟩ = some (.int .i64 (heldAt all (q : Int))) := fun z => ((B00.out.trans ((HOF.out z).mono B00.out.size)).cell (p := ⟨bl, ol + k * 4 + q, none⟩) HBL.out).trans HCE.out
   have hkl := HKL.out
   have hq4 := HQ4.out
   simp only [pickB]
   repeat (gi_big_quiet_step (fail))
   refine wpQuietIn_nil ?_
   exact rfl
  intro bN W6 hW hbg hbb hbi
  replace HLay := Lib.hid (HLay.out.below hW)
  replace HTR := Lib.hid (HTR.out.below hW)
  replace B00 := Lib.hid (B00.out.trans (hW.mono B00.out.size))
  have c0 := hbb.cell 0
  have z0 := hbb.frozen 0
  have c1 := hbb.cell 1
  have z1 := hbb.frozen 1
  have hbl := hbb.lt
  have hbw : w.heap.size ≤ bN := Nat.le_trans (HLay0.out.1.size) hbg
  simp only [pickB]
  refine wpT_cons ?_
  gi_wp2
  refine wpT_nil ?_
  have R3 := ret2' hbb (Below.refl bN W6) (Nat.le_refl _) (.int .i64 lo) (.int .i64 hi)
  have HLay9 := Lib.hid (Lay.add (w := w) (bs := [(w.heap.size, 26, #[.int .i64 m.fountains, .slice Av nv cv, .slice Aa na ca, .slice At nt ct]), (G3, 118, #[.int .i64 (q : Int), .int .i64 (k : Int)])]) ⟨HLay.out.1.trans (R3.2.1.mono hbw), fun p hp => ⟨(HLay.out.2 p hp).1, (HLay.out.2 p hp).2.below R3.2.1 (by have := (HLay0.out.2 p hp).2.lt; omega)⟩⟩ hbw R3.1)
  generalize ((W6.setCell ⟨bN, 0, none⟩ (.int .i64 lo)).setCell ⟨bN, 1, none⟩ (.int .i64 hi)) = W99 at *
  clear c0 z0 c1 z1 hbl hbb hW hbg R3
  replace HLay := HLay9
  have x2_0 := (HLay.out.blk 2 rfl).cell 0
  have x2_1 := (HLay.out.blk 2 rfl).cell 1
  have l2_ := HLay.out.lt 2 rfl
  gi_wp2
  clear x2_0 x2_1 l2_
  have e1 : (lo == heldAt all (q : Int)) = decide (lo = heldAt all (q : Int)) := by by_cases h : lo = heldAt all (q : Int) <;> simp [h]
  have e2 : (hi == heldAt all (q : Int)) = decide (hi = heldAt all (q : Int)) := by by_cases h : hi = heldAt all (q : Int) <;> simp [h]
  rw [e1, e2]
  refine ⟨trivial, (callsIn_wide.2 (judged_any (decide (lo = heldAt all (q : Int))) (decide (hi = heldAt all (q : Int))) W99)).mono ?_⟩
  rintro e W12 ⟨rfl, rfl⟩
  clear e1 e2
  gi_wp2
  refine bodyPost_ret (v := .tuple #[.int .u8 (judgeI (decide (lo = heldAt all (q : Int))) (decide (hi = heldAt all (q : Int)))), .int .i64 0]) (by simp [results, Try.results22, go_sem]) rfl ?_
  exact .inr ⟨lo, hi, heldAt all (q : Int), rfl, HSP.out.1, HSP.out.2, HLay.out.1⟩
 ·
  have h0b : (ee == 0) = false := by simpa using h0
  have h0c : (ee != 0) = true := by simpa using h0
  have HF : Hid (OfIs m vessel after fountain (0, 0) ee) := Lib.hid (asked_bad HC.out h0)
  have H0 := Lib.hid h0
  clear h0 HC
  gi_upto_region 2 with fail
  obtain ⟨V7, hV⟩ : ∃ V, (W1.alloc (.cells #[.int .i64 s1, .int .i64 s2] 118)) = V := ⟨_, rfl⟩
  rw [hV]
  have hb := fbox_bel hV
  have hnew := fbox_blk hV
  have hge := HLay.out.bel.size
  replace HLay := Lib.hid (HLay.out.below hb)
  replace HLay := Lib.hid (HLay.out.add hge hnew)
  clear hnew hge hb hV
  obtain ⟨G8, hG⟩ : ∃ g, W1.heap.size = g := ⟨_, rfl⟩
  rw [hG] at HLay ⊢
  clear hG
  replace HLay := Lib.hid (show Lay w V7 [(w.heap.size, 26, #[.int .i64 m.fountains, .slice Av nv cv, .slice Aa na ca, .slice At nt ct]), (G8, 118, #[.int .i64 s1, .int .i64 s2])] from HLay.out)
  gi_wp2
  refine bodyPost_ret (v := .tuple #[.int .u8 0, .int .i64 ee]) (by simp [results, Try.results22, go_sem]) rfl ?_
  exact .inl ⟨ee, rfl, H0.out, HF.out, HLay.out.1⟩

end Go.Proofs.Ythofngceiecniaa
/- mix.Holds. -/
namespace Go.Proofs.Ythofngceiecniaa
open Go.RowKit

/-- What Holds hands back. -/
def HoldsOut (w : World) (m : Mix) (vessel after : Int) (e : Ending) (w' : World) : Prop := ∃ n ee : Int, e = .returned (.tuple #[.int .i64 n, .int .i64 ee]) ∧ HoldsIs m vessel after n ee ∧ Below w.heap.size w w'

set_option maxRecDepth 100000 in
set_option maxHeartbeats 8000000 in
theorem holds_in (Av : Option Addr) (nv cv : Nat) (Aa : Option Addr) (na ca : Nat) (At : Option Addr) (nt ct : Nat) (m : Mix) (vessel after : Int) (w : World) (h : MixS w Av nv Aa na At nt m) :
  CallsIn Fence.wide 9 Try.prog 14 #[.agg #[.int .i64 m.fountains, .slice Av nv cv, .slice Aa na ca, .slice At nt ct], .int .i64 vessel, .int .i64 after] w (HoldsOut w m vessel after) := by
 have HM := Lib.hid h
 clear h
 refine callsIn_of_wp Try.func14 rfl trivial ?_ rfl
 simp only [Try.ntmps14, List.size_toArray, List.length_cons, List.length_nil, Nat.reduceAdd, Nat.reduceSub, Array.replicate_succ, Array.replicate_zero, List.push_toArray, List.append_toArray, List.nil_append, List.cons_append]
 gi_upto_region 1 with fail
 have HLay := Lib.hid (Lay.one w 26 #[.int .i64 m.fountains, .slice Av nv cv, .slice Aa na ca, .slice At nt ct])
 generalize (w.alloc (.cells #[.int .i64 m.fountains, .slice Av nv cv, .slice Aa na ca, .slice At nt ct] 26)) = w0 at *
 have x0_0 := (HLay.out.blk 0 rfl).cell 0
 have x0_1 := (HLay.out.blk 0 rfl).cell 1
 have x0_2 := (HLay.out.blk 0 rfl).cell 2
 have x0_3 := (HLay.out.blk 0 rfl).cell 3
 have l0_ := HLay.out.lt 0 rfl
 gi_wp2
 clear x0_0 x0_1 x0_2 x0_3 l0_
 refine ⟨trivial, (callsIn_wide.2 (callsIn_wide.1 (placed_in Av nv cv Aa na ca At nt ct m vessel after none 0 0 [] w0 (HM.out.up HLay.out.1) Reads.none_ (by unfold maxLen; omega)))).mono ?_⟩
 rintro e W1 ⟨pp, s1, s2, rfl, hb, hp⟩
 have HP := Lib.hid hp
 clear hp
 replace HLay := Lib.hid (HLay.out.below hb)
 clear hb
 obtain ⟨ee, hee⟩ : ∃ ee, askM m vessel after [] = ee := ⟨_, rfl⟩
 rw [hee] at HP ⊢
 have HEE := Lib.hid hee
 clear hee
 by_cases h0 : ee = 0
 ·
  obtain ⟨hk, h1, h2, h3, h4, T, rfl, hTm, hTL, hTg, hT, _⟩ := HP.out h0
  subst h0
  subst h2
  obtain ⟨q, hq⟩ : ∃ q : Nat, s1 = q := ⟨s1.toNat, by omega⟩
  subst hq
  obtain ⟨k, hkk⟩ : ∃ k : Nat, s2 = k := ⟨s2.toNat, by omega⟩
  subst hkk
  have hv4 := (okMix_vess hk).1
  have hq4 : q < 4 := by have := idxV_lt (l := m.vessels) (id := vessel) (by omega); omega
  have hkl : k < T.nl := by have := recs_n heldC_k (by omega) hT.at_.all; have := allM_len _ _ _ hTL; omega
  obtain ⟨bl, ol, all, hAL, hbl, hall, hcl⟩ := recs_cell heldC_k (by omega) hT.at_.all hkl
  have HF : Hid (HoldsIs m vessel (k : Int) (heldAt all (q : Int)) 0) := Lib.hid (.inr ⟨HEE.out, rfl, T.L, all, hTL, hall, by rw [← h1]⟩)
  have HT := Lib.hid hT.at_
  have HAL := Lib.hid hAL
  have HBL := Lib.hid hbl
  have HCE := Lib.hid (hcl q _ (heldC_l all hq4))
  have HKL := Lib.hid hkl
  clear HP hk h1 h3 h4 hTm hTL hTg hT hAL hbl hall hcl hkl hv4
  have B00 := Lib.hid (Below.refl W1.heap.size W1)
  gi_upto_region 4 with fail
  obtain ⟨V2, hV⟩ : ∃ V, (W1.alloc (.cells #[.int .i64 (q : Int), .int .i64 (k : Int)] 118)) = V := ⟨_, rfl⟩
  rw [hV]
  have hb := fbox_bel hV
  have hnew := fbox_blk hV
  have hge := HLay.out.bel.size
  replace HLay := Lib.hid (HLay.out.below hb)
  replace B00 := Lib.hid (B00.out.trans (hb.mono B00.out.size))
  replace HLay := Lib.hid (HLay.out.add hge hnew)
  clear hnew hge hb hV
  obtain ⟨G3, hG⟩ : ∃ g, W1.heap.size = g := ⟨_, rfl⟩
  rw [hG] at HLay ⊢
  clear hG
  replace HLay := Lib.hid (show Lay w V2 [(w.heap.size, 26, #[.int .i64 m.fountains, .slice Av nv cv, .slice Aa na ca, .slice At nt ct]), (G3, 118, #[.int .i64 (q : Int), .int .i64 (k : Int)])] from HLay.out)
  refine wpIn_flow_old [] [true, true, true, true, true, true, true, true, true, true, true, true, true] [] (by kernel_rfl) (by kernel_rfl) (by kernel_rfl) (below_drewN (Below.refl _ _) 1) ?_
  refine wpFlow_nil (A := ?AF1) ?hq1 ?_
  case hq1 =>
   rintro σ hσ of hof hcl
   have HOF := Lib.hid hof
   have HCL := Lib.hid hcl
   clear hof hcl
   have c0_ : ∀ z, (of z).cell? ⟨G3, 0, none⟩ = some (.int .i64 (q : Int)) := fun z => ((HLay.out.below (HOF.out z)).blk 1 rfl).cell 0
   have c1_ : ∀ z, (of z).cell? ⟨G3, 1, none⟩ = some (.int .i64 (k : Int)) := fun z => ((HLay.out.below (HOF.out z)).blk 1 rfl).cell 1
   have hfw : ∀ f, Fence.wide.fn f := fun _ => trivial
   have t4 : ∀ z, (of z).cell? ⟨T.g, 4, none⟩ = some (.slice (some ⟨bl, ol, none⟩) T.nl T.cl) := fun z => by have := ((HT.out.below B00.out).below (HOF.out z)).blk.cell 4; rw [← HAL.out]; exact this
   have ch : ∀ z, (of z).cell? ⟨bl, ol + k * 4 + q, none⟩ = some (.int .i64 (heldAt all (q : Int))) := fun z => ((B00.out.trans ((HOF.out z).mono B00.out.size)).cell (p := ⟨bl, ol + k * 4 + q, none⟩) HBL.out).trans HCE.out
   have hkl := HKL.out
   simp only [pickB]
   repeat (gi_big_quiet_step (fail))
   refine wpQuietIn_nil ?_
   exact rfl
  intro W4 hW
  replace HLay := Lib.hid (HLay.out.below hW)
  replace B00 := Lib.hid (B00.out.trans (hW.mono B00.out.size))
  clear hW
  simp only [pickB]
  refine wpT_nil ?_
  gi_wp2
  refine bodyPost_ret (v := .tuple #[.int .i64 (heldAt all (q : Int)), .int .i64 0]) (by simp [results, Try.results14, go_sem]) rfl ?_
  exact ⟨_, _, rfl, HF.out, HLay.out.1⟩
 ·
  have h0b : (ee == 0) = false := by simpa using h0
  have h0c : (ee != 0) = true := by simpa using h0
  have HF : Hid (HoldsIs m vessel after 0 ee) := Lib.hid (.inl ⟨by rw [HEE.out]; exact h0, rfl, HEE.out.symm⟩)
  clear h0 HP
  gi_wp2
  have hbf : Below W1.heap.size W1 (W1.alloc (.cells #[.int .i64 s1, .int .i64 s2] 118)) := (Below.refl _ _).alloc (Nat.le_refl _) _
  refine bodyPost_ret (v := .tuple #[.int .i64 0, .int .i64 ee]) (by simp [results, Try.results14, go_sem]) rfl ?_
  exact ⟨_, _, rfl, HF.out, (HLay.out.below hbf).1⟩

end Go.Proofs.Ythofngceiecniaa
/- append onto an empty slice without room: nothing that lay is touched. -/
namespace Go.Proofs.Ythofngceiecniaa
open Go.RowKit

theorem run_append_fresh {P : Program} (w : World) (ty : TypeId) {base : Nat} {t e : TypeId} {z : Value} {size bytes : Nat} (EE : ElemAt P t e z size bytes) {ad : Addr} (hown : Own w base e size (some ad) 0 0 [])
  {A2 : Option Addr} {m c B : Nat} {news : List Value} (hR : Reads w B size A2 m news) (h1 : ∀ u ∈ news, u.oneCell' = true) (h63 : m ≤ maxLen) (hbytes : m * bytes ≤ 140737488355328) (hbase : base ≤ w.heap.size) :
  ∃ A' cap' w', (Builtin.append_ #[t, t] ty #[.slice (some ad) 0 0, .slice A2 m c]).run P w = .ok (.slice A' m cap') w' ∧ Own w' base e size A' m cap' news ∧ Below w.heap.size w w' ∧ (A' = some ad ∨ A' = some ⟨w.heap.size, 0, none⟩) := by
 obtain ⟨A', cap', w', hr, h2, h3, h4⟩ := run_append_any (P := P) w ty EE hown hR (c := c) h1 (by omega) (by simpa using hbytes) hbase
 rw [Nat.zero_add] at hr h2
 rw [List.nil_append] at h2
 refine ⟨A', cap', w', hr, h2, ?_, h4⟩
 obtain ⟨i, E⟩ := EE
 rcases Nat.eq_zero_or_pos m with h0 | h0
 ·subst h0
  have hne : news = [] := List.eq_nil_of_length_eq_zero (by rw [hR.1]; simp)
  have hw : w' = w := by
   cases A2 with
   | none =>
    simp [Builtin.append_, run_underlying E.und, sizeOf, typeInfo, E.info, Builtin.lenOf, Builtin.firstCells, storeCells] at hr
    exact hr.2.symm
   | some a2 =>
    simp [Builtin.append_, run_underlying E.und, sizeOf, typeInfo, E.info, Builtin.lenOf, Builtin.firstCells, storeCells, loadCells, loadCellsFrom] at hr
    exact hr.2.symm
  rw [hw]
  exact Below.refl _ _
 ·obtain ⟨B1, cap1, w1, hr1, _, h31, _⟩ := run_append_any (P := P) w ty ⟨i, E⟩ (Own.none_ w base e size) hR (c := c) h1 (by omega) (by simpa using hbytes) hbase
  have hm0 : ¬ (m = 0) := by omega
  have h63i : ¬ (9223372036854775807 < (m : Int)) := by unfold maxLen at h63; omega
  have hcap : Builtin.nextslicecap m 0 = m := by unfold Builtin.nextslicecap; rw [if_pos (by omega)]
  have h48 : ¬ (281474976710656 < m * i.bytes) := by rw [E.ibytes]; omega
  have e1 : (Builtin.append_ #[t, t] ty #[.slice (some ad) 0 0, .slice A2 m c]).run P w = (Builtin.append_ #[t, t] ty #[.slice none 0 0, .slice A2 m c]).run P w := by
   simp [Builtin.append_, run_underlying E.und, sizeOf, typeInfo, E.info, Builtin.lenOf, Builtin.firstCells, hm0, h63i, hcap, h48, loadCells, loadCellsFrom]
  rw [e1] at hr
  rw [Nat.zero_add, hr] at hr1
  cases hr1
  exact (Below.refl _ _).grown h31 (Nat.le_refl _) (fun k hk => by cases hk)
theorem wpListIn_append_fresh {F : Fence} {nn : Nat} {P : Program} {w : World} {ops : Array Oper} {rest : List Oper} {o : Oper} {a : Act} {Q : Exit → Act → World → Prop} (hgd : o.guard = none) (s x : Operand) {t e : TypeId}
  (ho : o.op = .call { callee := .builtin .append, args := #[s, x], argTypes := #[t, t] })
  {z : Value} {size bytes : Nat} (EE : ElemAt P t e z size bytes) {base : Nat} {ad : Addr} (hs : a.eval s = .slice (some ad) 0 0) (hown : Own w base e size (some ad) 0 0 [])
  {A2 : Option Addr} {m c B : Nat} {news : List Value} (hx : a.eval x = .slice A2 m c) (hR : Reads w B size A2 m news) (h1 : ∀ u ∈ news, u.oneCell' = true) (h63 : m ≤ maxLen) (hbytes : m * bytes ≤ 140737488355328) (hbase : base ≤ w.heap.size)
  (h : ∀ A' cap' w', Own w' base e size A' m cap' news → Below w.heap.size w w' → (A' = some ad ∨ A' = some ⟨w.heap.size, 0, none⟩) → wpListIn F nn P ops Q rest (a.put o.dst (.slice A' m cap')) w') :
  wpListIn F nn P ops Q (o :: rest) a w := by
 refine wpListIn_plain hgd fun K hK => ?_
 obtain ⟨A', cap', w', hr, h2, h3, h4⟩ := run_append_fresh (P := P) w o.type EE hown hR (c := c) h1 h63 hbytes hbase
 unfold Oper.wpIn
 refine ⟨?_, ?_⟩
 ·simp [Oper.about, ho, resolve, Target.leads, Sem.run_pure]
 ·rw [Oper.semAt_plain F _ _ (by rw [ho]; intro c hc'; cases hc')]
  unfold execOp
  simp only [ho, resolve, invoke, builtin, Sem.run_bind, Sem.run_pure, Result.andThen_ok, List.map_toArray, List.map_cons, List.map_nil, hs, hx, hr]
  exact hK _ _ (h A' cap' w' h2 h3 h4)
end Go.Proofs.Ythofngceiecniaa
/- aguadorref04.Twin. -/
namespace Go.Proofs.Ythofngceiecniaa
open Go.RowKit

structure TwGh where
 e1 : Nat
 e2 : Nat
 e3 : Nat
 A1 : Option Addr
 c1 : Nat
 A2 : Option Addr
 c2 : Nat
 A3 : Option Addr
 c3 : Nat
/-- Mixed water whose three slices the call owns. -/
structure MixNew (w : World) (base : Nat) (A1 : Option Addr) (nv c1 : Nat) (A2 : Option Addr) (na c2 : Nat) (A3 : Option Addr) (nt c3 : Nat) (m : Mix) : Prop where
 v : Own w base 80 2 A1 nv c1 (m.vessels.flatMap Vess.vals)
 a : Own w base 67 4 A2 na c2 (m.acts.flatMap MAct.vals)
 t : Own w base 65 6 A3 nt c3 (m.tastes.flatMap Tast.vals)
def TwinOut (w : World) (nv na nt : Nat) (m : Mix) (e : Ending) (w' : World) : Prop :=
 ∃ A1 c1 A2 c2 A3 c3, e = .returned (.agg #[.int .i64 m.fountains, .slice A1 nv c1, .slice A2 na c2, .slice A3 nt c3]) ∧ MixNew w' w.heap.size A1 nv c1 A2 na c2 A3 nt c3 m ∧ Below w.heap.size w w'
set_option maxRecDepth 100000 in
set_option maxHeartbeats 16000000 in
theorem twin_in (Av : Option Addr) (nv cv : Nat) (Aa : Option Addr) (na ca : Nat) (At : Option Addr) (nt ct : Nat) (m : Mix) (w : World) (h : MixS w Av nv Aa na At nt m) :
  CallsIn Fence.wide 9 Try.prog 8 #[.agg #[.int .i64 m.fountains, .slice Av nv cv, .slice Aa na ca, .slice At nt ct]] w (TwinOut w nv na nt m) := by
 have HM := Lib.hid h
 have hnv := h.hv
 have hna := h.ha
 have hnt := h.ht
 clear h
 refine callsIn_of_wp Try.func8 rfl trivial ?_ rfl
 simp only [Try.ntmps8, List.size_toArray, List.length_cons, List.length_nil, Nat.reduceAdd, Nat.reduceSub, Array.replicate_succ, Array.replicate_zero, List.push_toArray, List.append_toArray, List.nil_append, List.cons_append]
 gi_wp2
 have HLay := Lib.hid (Lay.two w 26 #[.int .i64 m.fountains, .slice Av nv cv, .slice Aa na ca, .slice At nt ct] 26 #[.int .i64 0, .slice none 0 0, .slice none 0 0, .slice none 0 0])
 generalize ((w.alloc (.cells #[.int .i64 m.fountains, .slice Av nv cv, .slice Aa na ca, .slice At nt ct] 26)).alloc (.cells #[.int .i64 0, .slice none 0 0, .slice none 0 0, .slice none 0 0] 26)) = w0 at *
 have HB0 := Lib.hid HLay.out.1
 have HX0 := Lib.hid (HLay.out.blk 0 rfl)
 have HZ0 := Lib.hid (HLay.out.blk 1 rfl)
 clear HLay
 refine wpIn_region_stepsD (by kernel_rfl) (by kernel_rfl) (fun σ : TwGh × (Nat → Value) => { tmps := #[.agg #[.int .i64 m.fountains, .slice Av nv cv, .slice Aa na ca, .slice At nt ct], .pointer (some ⟨w.heap.size, 0, none⟩), .pointer (some ⟨w.heap.size + 1, 0, none⟩), σ.2 3, σ.2 4, σ.2 5, σ.2 6, σ.2 7, σ.2 8, σ.2 9, σ.2 10, σ.2 11, σ.2 12, σ.2 13, σ.2 14, σ.2 15, σ.2 16, σ.2 17], defers := [] })
  (fun L σ W => (Below w.heap.size w W) ∧ (Blk W w.heap.size 26 #[.int .i64 m.fountains, .slice Av nv cv, .slice Aa na ca, .slice At nt ct]) ∧ (L 15 = false → Blk W (w.heap.size + 1) 26 #[.int .i64 0, .slice none 0 0, .slice none 0 0, .slice none 0 0]) ∧ (L 15 = true → Blk W (w.heap.size + 1) 26 #[.int .i64 m.fountains, .slice σ.1.A1 nv σ.1.c1, .slice σ.1.A2 na σ.1.c2, .slice σ.1.A3 nt σ.1.c3]) ∧ (L 2 = true → L 5 = false → Own W (w.heap.size + 2) 80 2 (some ⟨σ.1.e1, 0, none⟩) 0 0 []) ∧ (L 6 = true → L 9 = false → Own W (w.heap.size + 2) 67 4 (some ⟨σ.1.e2, 0, none⟩) 0 0 []) ∧ (L 10 = true → L 13 = false → Own W (w.heap.size + 2) 65 6 (some ⟨σ.1.e3, 0, none⟩) 0 0 []) ∧ (L 5 = true → Own W (w.heap.size + 2) 80 2 σ.1.A1 nv σ.1.c1 (m.vessels.flatMap Vess.vals)) ∧ (L 9 = true → Own W (w.heap.size + 2) 67 4 σ.1.A2 na σ.1.c2 (m.acts.flatMap MAct.vals)) ∧ (L 13 = true → Own W (w.heap.size + 2) 65 6 σ.1.A3 nt σ.1.c3 (m.tastes.flatMap Tast.vals)) ∧ (L 0 = true → σ.2 3 = .pointer (some ⟨w.heap.size, 0, none⟩)) ∧ (L 1 = true → σ.2 4 = .int .i64 m.fountains) ∧ (L 2 = true → σ.2 5 = .slice (some ⟨σ.1.e1, 0, none⟩) 0 0) ∧ (L 3 = true → σ.2 6 = .pointer (some ⟨w.heap.size, 1, none⟩)) ∧ (L 4 = true → σ.2 7 = .slice Av nv cv) ∧ (L 5 = true → σ.2 8 = .slice σ.1.A1 nv σ.1.c1) ∧ (L 6 = true → σ.2 9 = .slice (some ⟨σ.1.e2, 0, none⟩) 0 0) ∧ (L 7 = true → σ.2 10 = .pointer (some ⟨w.heap.size, 2, none⟩)) ∧ (L 8 = true → σ.2 11 = .slice Aa na ca) ∧ (L 9 = true → σ.2 12 = .slice σ.1.A2 na σ.1.c2) ∧ (L 10 = true → σ.2 13 = .slice (some ⟨σ.1.e3, 0, none⟩) 0 0) ∧ (L 11 = true → σ.2 14 = .pointer (some ⟨w.heap.size, 3, none⟩)) ∧ (L 12 = true → σ.2 15 = .slice At nt ct) ∧ (L 13 = true → σ.2 16 = .slice σ.1.A3 nt σ.1.c3) ∧ (L 14 = true → σ.2 17 = .agg #[.int .i64 m.fountains, .slice σ.1.A1 nv σ.1.c1, .slice σ.1.A2 na σ.1.c2, .slice σ.1.A3 nt σ.1.c3]))
  (⟨0, 0, 0, none, 0, none, 0, none, 0⟩, fun k => undef) rfl ?_ ?_ ?_
 ·exact ⟨below_drewN HB0.out 1, HX0.out.drewN 1, (fun _ => HZ0.out.drewN 1), (fun h => by cases h), (fun h => by cases h), (fun h => by cases h), (fun h => by cases h), (fun h => by cases h), (fun h => by cases h), (fun h => by cases h), (fun h => by cases h), (fun h => by cases h), (fun h => by cases h), (fun h => by cases h), (fun h => by cases h), (fun h => by cases h), (fun h => by cases h), (fun h => by cases h), (fun h => by cases h), (fun h => by cases h), (fun h => by cases h), (fun h => by cases h), (fun h => by cases h), (fun h => by cases h), (fun h => by cases h)⟩
 ·refine ⟨?_, ?_, ?_, ?_, ?_, ?_, ?_, ?_, ?_, ?_, ?_, ?_, ?_, ?_, ?_, ?_, trivial⟩
  ·rintro L ⟨gh, s⟩ W hu hd hdn ⟨g1, m0, gz0, gz1, q1, q2, q3, o1, o2, o3, f0, f1, f2, f3, f4, f5, f6, f7, f8, f9, f10, f11, f12, f13, f14⟩ K Q hK
   try dsimp only at g1 m0 gz0 gz1 q1 q2 q3 o1 o2 o3 f0 f1 f2 f3 f4 f5 f6 f7 f8 f9 f10 f11 f12 f13 f14 ⊢
   have hxl := HX0.out.lt
   have HF := Lib.hid (show (Below w.heap.size w W) ∧ (Blk W w.heap.size 26 #[.int .i64 m.fountains, .slice Av nv cv, .slice Aa na ca, .slice At nt ct]) ∧ (L 15 = false → Blk W (w.heap.size + 1) 26 #[.int .i64 0, .slice none 0 0, .slice none 0 0, .slice none 0 0]) ∧ (L 15 = true → Blk W (w.heap.size + 1) 26 #[.int .i64 m.fountains, .slice gh.A1 nv gh.c1, .slice gh.A2 na gh.c2, .slice gh.A3 nt gh.c3]) ∧ (L 2 = true → L 5 = false → Own W (w.heap.size + 2) 80 2 (some ⟨gh.e1, 0, none⟩) 0 0 []) ∧ (L 6 = true → L 9 = false → Own W (w.heap.size + 2) 67 4 (some ⟨gh.e2, 0, none⟩) 0 0 []) ∧ (L 10 = true → L 13 = false → Own W (w.heap.size + 2) 65 6 (some ⟨gh.e3, 0, none⟩) 0 0 []) ∧ (L 5 = true → Own W (w.heap.size + 2) 80 2 gh.A1 nv gh.c1 (m.vessels.flatMap Vess.vals)) ∧ (L 9 = true → Own W (w.heap.size + 2) 67 4 gh.A2 na gh.c2 (m.acts.flatMap MAct.vals)) ∧ (L 13 = true → Own W (w.heap.size + 2) 65 6 gh.A3 nt gh.c3 (m.tastes.flatMap Tast.vals)) ∧ (L 0 = true → s 3 = .pointer (some ⟨w.heap.size, 0, none⟩)) ∧ (L 1 = true → s 4 = .int .i64 m.fountains) ∧ (L 2 = true → s 5 = .slice (some ⟨gh.e1, 0, none⟩) 0 0) ∧ (L 3 = true → s 6 = .pointer (some ⟨w.heap.size, 1, none⟩)) ∧ (L 4 = true → s 7 = .slice Av nv cv) ∧ (L 5 = true → s 8 = .slice gh.A1 nv gh.c1) ∧ (L 6 = true → s 9 = .slice (some ⟨gh.e2, 0, none⟩) 0 0) ∧ (L 7 = true → s 10 = .pointer (some ⟨w.heap.size, 2, none⟩)) ∧ (L 8 = true → s 11 = .slice Aa na ca) ∧ (L 9 = true → s 12 = .slice gh.A2 na gh.c2) ∧ (L 10 = true → s 13 = .slice (some ⟨gh.e3, 0, none⟩) 0 0) ∧ (L 11 = true → s 14 = .pointer (some ⟨w.heap.size, 3, none⟩)) ∧ (L 12 = true → s 15 = .slice At nt ct) ∧ (L 13 = true → s 16 = .slice gh.A3 nt gh.c3) ∧ (L 14 = true → s 17 = .agg #[.int .i64 m.fountains, .slice gh.A1 nv gh.c1, .slice gh.A2 na gh.c2, .slice gh.A3 nt gh.c3]) from ⟨g1, m0, gz0, gz1, q1, q2, q3, o1, o2, o3, f0, f1, f2, f3, f4, f5, f6, f7, f8, f9, f10, f11, f12, f13, f14⟩)
   clear f14 f13 f12 f11 f10 f9 f8 f7 f6 f5 f4 f3 f2 f1 f0 o3 o2 o1 q3 q2 q1 gz1 gz0 m0 g1 hd
   try simp only
   gi_wp2
   obtain ⟨g1, m0, gz0, gz1, q1, q2, q3, o1, o2, o3, f0, f1, f2, f3, f4, f5, f6, f7, f8, f9, f10, f11, f12, f13, f14⟩ := HF.out
   exact hK (gh, (upd s 3 (.pointer (some ⟨w.heap.size, 0, none⟩)))) _ ⟨g1, m0, gz0, gz1, q1, q2, q3, o1, o2, o3, (fun _ => rfl), f1, f2, f3, f4, f5, f6, f7, f8, f9, f10, f11, f12, f13, f14⟩
  ·rintro L ⟨gh, s⟩ W hu hd hdn ⟨g1, m0, gz0, gz1, q1, q2, q3, o1, o2, o3, f0, f1, f2, f3, f4, f5, f6, f7, f8, f9, f10, f11, f12, f13, f14⟩ K Q hK
   try dsimp only at g1 m0 gz0 gz1 q1 q2 q3 o1 o2 o3 f0 f1 f2 f3 f4 f5 f6 f7 f8 f9 f10 f11 f12 f13 f14 ⊢
   have e0 := f0 (hd.at_ 0 rfl)
   have c0 : W.cell? ⟨w.heap.size, 0, none⟩ = some (.int .i64 m.fountains) := m0.cell 0
   have HF := Lib.hid (show (Below w.heap.size w W) ∧ (Blk W w.heap.size 26 #[.int .i64 m.fountains, .slice Av nv cv, .slice Aa na ca, .slice At nt ct]) ∧ (L 15 = false → Blk W (w.heap.size + 1) 26 #[.int .i64 0, .slice none 0 0, .slice none 0 0, .slice none 0 0]) ∧ (L 15 = true → Blk W (w.heap.size + 1) 26 #[.int .i64 m.fountains, .slice gh.A1 nv gh.c1, .slice gh.A2 na gh.c2, .slice gh.A3 nt gh.c3]) ∧ (L 2 = true → L 5 = false → Own W (w.heap.size + 2) 80 2 (some ⟨gh.e1, 0, none⟩) 0 0 []) ∧ (L 6 = true → L 9 = false → Own W (w.heap.size + 2) 67 4 (some ⟨gh.e2, 0, none⟩) 0 0 []) ∧ (L 10 = true → L 13 = false → Own W (w.heap.size + 2) 65 6 (some ⟨gh.e3, 0, none⟩) 0 0 []) ∧ (L 5 = true → Own W (w.heap.size + 2) 80 2 gh.A1 nv gh.c1 (m.vessels.flatMap Vess.vals)) ∧ (L 9 = true → Own W (w.heap.size + 2) 67 4 gh.A2 na gh.c2 (m.acts.flatMap MAct.vals)) ∧ (L 13 = true → Own W (w.heap.size + 2) 65 6 gh.A3 nt gh.c3 (m.tastes.flatMap Tast.vals)) ∧ (L 0 = true → s 3 = .pointer (some ⟨w.heap.size, 0, none⟩)) ∧ (L 1 = true → s 4 = .int .i64 m.fountains) ∧ (L 2 = true → s 5 = .slice (some ⟨gh.e1, 0, none⟩) 0 0) ∧ (L 3 = true → s 6 = .pointer (some ⟨w.heap.size, 1, none⟩)) ∧ (L 4 = true → s 7 = .slice Av nv cv) ∧ (L 5 = true → s 8 = .slice gh.A1 nv gh.c1) ∧ (L 6 = true → s 9 = .slice (some ⟨gh.e2, 0, none⟩) 0 0) ∧ (L 7 = true → s 10 = .pointer (some ⟨w.heap.size, 2, none⟩)) ∧ (L 8 = true → s 11 = .slice Aa na ca) ∧ (L 9 = true → s 12 = .slice gh.A2 na gh.c2) ∧ (L 10 = true → s 13 = .slice (some ⟨gh.e3, 0, none⟩) 0 0) ∧ (L 11 = true → s 14 = .pointer (some ⟨w.heap.size, 3, none⟩)) ∧ (L 12 = true → s 15 = .slice At nt ct) ∧ (L 13 = true → s 16 = .slice gh.A3 nt gh.c3) ∧ (L 14 = true → s 17 = .agg #[.int .i64 m.fountains, .slice gh.A1 nv gh.c1, .slice gh.A2 na gh.c2, .slice gh.A3 nt gh.c3]) from ⟨g1, m0, gz0, gz1, q1, q2, q3, o1, o2, o3, f0, f1, f2, f3, f4, f5, f6, f7, f8, f9, f10, f11, f12, f13, f14⟩)
   clear f14 f13 f12 f11 f10 f9 f8 f7 f6 f5 f4 f3 f2 f1 f0 o3 o2 o1 q3 q2 q1 gz1 gz0 m0 g1 hd
   try simp only at e0 ⊢
   gi_wp2
   obtain ⟨g1, m0, gz0, gz1, q1, q2, q3, o1, o2, o3, f0, f1, f2, f3, f4, f5, f6, f7, f8, f9, f10, f11, f12, f13, f14⟩ := HF.out
   exact hK (gh, (upd (upd s 3 (.pointer (some ⟨w.heap.size, 0, none⟩))) 4 (.int .i64 m.fountains))) _ ⟨g1, m0, gz0, gz1, q1, q2, q3, o1, o2, o3, (fun _ => rfl), (fun _ => rfl), f2, f3, f4, f5, f6, f7, f8, f9, f10, f11, f12, f13, f14⟩
  ·rintro L ⟨gh, s⟩ W hu hd hdn ⟨g1, m0, gz0, gz1, q1, q2, q3, o1, o2, o3, f0, f1, f2, f3, f4, f5, f6, f7, f8, f9, f10, f11, f12, f13, f14⟩ K Q hK
   try dsimp only at g1 m0 gz0 gz1 q1 q2 q3 o1 o2 o3 f0 f1 f2 f3 f4 f5 f6 f7 f8 f9 f10 f11 f12 f13 f14 ⊢
   have h15 : L 15 = false := by
    cases hc : L 15 with
    | false => rfl
    | true => exact hdn.no 15 2 hc rfl hu
   have hWq : w.heap.size + 2 ≤ W.heap.size := (gz0 h15).lt
   have HWq := Lib.hid hWq
   clear hWq
   have HF := Lib.hid (show (Below w.heap.size w W) ∧ (Blk W w.heap.size 26 #[.int .i64 m.fountains, .slice Av nv cv, .slice Aa na ca, .slice At nt ct]) ∧ (L 15 = false → Blk W (w.heap.size + 1) 26 #[.int .i64 0, .slice none 0 0, .slice none 0 0, .slice none 0 0]) ∧ (L 15 = true → Blk W (w.heap.size + 1) 26 #[.int .i64 m.fountains, .slice gh.A1 nv gh.c1, .slice gh.A2 na gh.c2, .slice gh.A3 nt gh.c3]) ∧ (L 2 = true → L 5 = false → Own W (w.heap.size + 2) 80 2 (some ⟨gh.e1, 0, none⟩) 0 0 []) ∧ (L 6 = true → L 9 = false → Own W (w.heap.size + 2) 67 4 (some ⟨gh.e2, 0, none⟩) 0 0 []) ∧ (L 10 = true → L 13 = false → Own W (w.heap.size + 2) 65 6 (some ⟨gh.e3, 0, none⟩) 0 0 []) ∧ (L 5 = true → Own W (w.heap.size + 2) 80 2 gh.A1 nv gh.c1 (m.vessels.flatMap Vess.vals)) ∧ (L 9 = true → Own W (w.heap.size + 2) 67 4 gh.A2 na gh.c2 (m.acts.flatMap MAct.vals)) ∧ (L 13 = true → Own W (w.heap.size + 2) 65 6 gh.A3 nt gh.c3 (m.tastes.flatMap Tast.vals)) ∧ (L 0 = true → s 3 = .pointer (some ⟨w.heap.size, 0, none⟩)) ∧ (L 1 = true → s 4 = .int .i64 m.fountains) ∧ (L 2 = true → s 5 = .slice (some ⟨gh.e1, 0, none⟩) 0 0) ∧ (L 3 = true → s 6 = .pointer (some ⟨w.heap.size, 1, none⟩)) ∧ (L 4 = true → s 7 = .slice Av nv cv) ∧ (L 5 = true → s 8 = .slice gh.A1 nv gh.c1) ∧ (L 6 = true → s 9 = .slice (some ⟨gh.e2, 0, none⟩) 0 0) ∧ (L 7 = true → s 10 = .pointer (some ⟨w.heap.size, 2, none⟩)) ∧ (L 8 = true → s 11 = .slice Aa na ca) ∧ (L 9 = true → s 12 = .slice gh.A2 na gh.c2) ∧ (L 10 = true → s 13 = .slice (some ⟨gh.e3, 0, none⟩) 0 0) ∧ (L 11 = true → s 14 = .pointer (some ⟨w.heap.size, 3, none⟩)) ∧ (L 12 = true → s 15 = .slice At nt ct) ∧ (L 13 = true → s 16 = .slice gh.A3 nt gh.c3) ∧ (L 14 = true → s 17 = .agg #[.int .i64 m.fountains, .slice gh.A1 nv gh.c1, .slice gh.A2 na gh.c2, .slice gh.A3 nt gh.c3]) from ⟨g1, m0, gz0, gz1, q1, q2, q3, o1, o2, o3, f0, f1, f2, f3, f4, f5, f6, f7, f8, f9, f10, f11, f12, f13, f14⟩)
   clear f14 f13 f12 f11 f10 f9 f8 f7 f6 f5 f4 f3 f2 f1 f0 o3 o2 o1 q3 q2 q1 gz1 gz0 m0 g1 hd
   try simp only
   gi_wp2
   obtain ⟨g1, m0, gz0, gz1, q1, q2, q3, o1, o2, o3, f0, f1, f2, f3, f4, f5, f6, f7, f8, f9, f10, f11, f12, f13, f14⟩ := HF.out
   have hb : Below W.heap.size W (W.alloc (.cells #[] 80)) := (Below.refl _ _).alloc (Nat.le_refl _) _
   exact hK ({ gh with e1 := W.heap.size }, (upd s 5 (.slice (some ⟨W.heap.size, 0, none⟩) 0 0))) _ ⟨(g1.trans (hb.mono g1.size)), (m0.below hb m0.lt), (fun h => (gz0 h).below hb (gz0 h).lt), (fun h => (gz1 h).below hb (gz1 h).lt), (fun _ _ => World.ownsRow_made W #[] 0 HWq.out (Nat.zero_le _) (by simp)), (fun h q => (q2 h q).below hb (Nat.le_refl _)), (fun h q => (q3 h q).below hb (Nat.le_refl _)), (fun h => (o1 h).below hb (Nat.le_refl _)), (fun h => (o2 h).below hb (Nat.le_refl _)), (fun h => (o3 h).below hb (Nat.le_refl _)), f0, f1, (fun _ => rfl), f3, f4, f5, f6, f7, f8, f9, f10, f11, f12, f13, f14⟩
  ·rintro L ⟨gh, s⟩ W hu hd hdn ⟨g1, m0, gz0, gz1, q1, q2, q3, o1, o2, o3, f0, f1, f2, f3, f4, f5, f6, f7, f8, f9, f10, f11, f12, f13, f14⟩ K Q hK
   try dsimp only at g1 m0 gz0 gz1 q1 q2 q3 o1 o2 o3 f0 f1 f2 f3 f4 f5 f6 f7 f8 f9 f10 f11 f12 f13 f14 ⊢
   have HF := Lib.hid (show (Below w.heap.size w W) ∧ (Blk W w.heap.size 26 #[.int .i64 m.fountains, .slice Av nv cv, .slice Aa na ca, .slice At nt ct]) ∧ (L 15 = false → Blk W (w.heap.size + 1) 26 #[.int .i64 0, .slice none 0 0, .slice none 0 0, .slice none 0 0]) ∧ (L 15 = true → Blk W (w.heap.size + 1) 26 #[.int .i64 m.fountains, .slice gh.A1 nv gh.c1, .slice gh.A2 na gh.c2, .slice gh.A3 nt gh.c3]) ∧ (L 2 = true → L 5 = false → Own W (w.heap.size + 2) 80 2 (some ⟨gh.e1, 0, none⟩) 0 0 []) ∧ (L 6 = true → L 9 = false → Own W (w.heap.size + 2) 67 4 (some ⟨gh.e2, 0, none⟩) 0 0 []) ∧ (L 10 = true → L 13 = false → Own W (w.heap.size + 2) 65 6 (some ⟨gh.e3, 0, none⟩) 0 0 []) ∧ (L 5 = true → Own W (w.heap.size + 2) 80 2 gh.A1 nv gh.c1 (m.vessels.flatMap Vess.vals)) ∧ (L 9 = true → Own W (w.heap.size + 2) 67 4 gh.A2 na gh.c2 (m.acts.flatMap MAct.vals)) ∧ (L 13 = true → Own W (w.heap.size + 2) 65 6 gh.A3 nt gh.c3 (m.tastes.flatMap Tast.vals)) ∧ (L 0 = true → s 3 = .pointer (some ⟨w.heap.size, 0, none⟩)) ∧ (L 1 = true → s 4 = .int .i64 m.fountains) ∧ (L 2 = true → s 5 = .slice (some ⟨gh.e1, 0, none⟩) 0 0) ∧ (L 3 = true → s 6 = .pointer (some ⟨w.heap.size, 1, none⟩)) ∧ (L 4 = true → s 7 = .slice Av nv cv) ∧ (L 5 = true → s 8 = .slice gh.A1 nv gh.c1) ∧ (L 6 = true → s 9 = .slice (some ⟨gh.e2, 0, none⟩) 0 0) ∧ (L 7 = true → s 10 = .pointer (some ⟨w.heap.size, 2, none⟩)) ∧ (L 8 = true → s 11 = .slice Aa na ca) ∧ (L 9 = true → s 12 = .slice gh.A2 na gh.c2) ∧ (L 10 = true → s 13 = .slice (some ⟨gh.e3, 0, none⟩) 0 0) ∧ (L 11 = true → s 14 = .pointer (some ⟨w.heap.size, 3, none⟩)) ∧ (L 12 = true → s 15 = .slice At nt ct) ∧ (L 13 = true → s 16 = .slice gh.A3 nt gh.c3) ∧ (L 14 = true → s 17 = .agg #[.int .i64 m.fountains, .slice gh.A1 nv gh.c1, .slice gh.A2 na gh.c2, .slice gh.A3 nt gh.c3]) from ⟨g1, m0, gz0, gz1, q1, q2, q3, o1, o2, o3, f0, f1, f2, f3, f4, f5, f6, f7, f8, f9, f10, f11, f12, f13, f14⟩)
   clear f14 f13 f12 f11 f10 f9 f8 f7 f6 f5 f4 f3 f2 f1 f0 o3 o2 o1 q3 q2 q1 gz1 gz0 m0 g1 hd
   try simp only
   gi_wp2
   obtain ⟨g1, m0, gz0, gz1, q1, q2, q3, o1, o2, o3, f0, f1, f2, f3, f4, f5, f6, f7, f8, f9, f10, f11, f12, f13, f14⟩ := HF.out
   exact hK (gh, (upd s 6 (.pointer (some ⟨w.heap.size, 1, none⟩)))) _ ⟨g1, m0, gz0, gz1, q1, q2, q3, o1, o2, o3, f0, f1, f2, (fun _ => rfl), f4, f5, f6, f7, f8, f9, f10, f11, f12, f13, f14⟩
  ·rintro L ⟨gh, s⟩ W hu hd hdn ⟨g1, m0, gz0, gz1, q1, q2, q3, o1, o2, o3, f0, f1, f2, f3, f4, f5, f6, f7, f8, f9, f10, f11, f12, f13, f14⟩ K Q hK
   try dsimp only at g1 m0 gz0 gz1 q1 q2 q3 o1 o2 o3 f0 f1 f2 f3 f4 f5 f6 f7 f8 f9 f10 f11 f12 f13 f14 ⊢
   have e3 := f3 (hd.at_ 3 rfl)
   have c0 : W.cell? ⟨w.heap.size, 1, none⟩ = some (.slice Av nv cv) := m0.cell 1
   have HF := Lib.hid (show (Below w.heap.size w W) ∧ (Blk W w.heap.size 26 #[.int .i64 m.fountains, .slice Av nv cv, .slice Aa na ca, .slice At nt ct]) ∧ (L 15 = false → Blk W (w.heap.size + 1) 26 #[.int .i64 0, .slice none 0 0, .slice none 0 0, .slice none 0 0]) ∧ (L 15 = true → Blk W (w.heap.size + 1) 26 #[.int .i64 m.fountains, .slice gh.A1 nv gh.c1, .slice gh.A2 na gh.c2, .slice gh.A3 nt gh.c3]) ∧ (L 2 = true → L 5 = false → Own W (w.heap.size + 2) 80 2 (some ⟨gh.e1, 0, none⟩) 0 0 []) ∧ (L 6 = true → L 9 = false → Own W (w.heap.size + 2) 67 4 (some ⟨gh.e2, 0, none⟩) 0 0 []) ∧ (L 10 = true → L 13 = false → Own W (w.heap.size + 2) 65 6 (some ⟨gh.e3, 0, none⟩) 0 0 []) ∧ (L 5 = true → Own W (w.heap.size + 2) 80 2 gh.A1 nv gh.c1 (m.vessels.flatMap Vess.vals)) ∧ (L 9 = true → Own W (w.heap.size + 2) 67 4 gh.A2 na gh.c2 (m.acts.flatMap MAct.vals)) ∧ (L 13 = true → Own W (w.heap.size + 2) 65 6 gh.A3 nt gh.c3 (m.tastes.flatMap Tast.vals)) ∧ (L 0 = true → s 3 = .pointer (some ⟨w.heap.size, 0, none⟩)) ∧ (L 1 = true → s 4 = .int .i64 m.fountains) ∧ (L 2 = true → s 5 = .slice (some ⟨gh.e1, 0, none⟩) 0 0) ∧ (L 3 = true → s 6 = .pointer (some ⟨w.heap.size, 1, none⟩)) ∧ (L 4 = true → s 7 = .slice Av nv cv) ∧ (L 5 = true → s 8 = .slice gh.A1 nv gh.c1) ∧ (L 6 = true → s 9 = .slice (some ⟨gh.e2, 0, none⟩) 0 0) ∧ (L 7 = true → s 10 = .pointer (some ⟨w.heap.size, 2, none⟩)) ∧ (L 8 = true → s 11 = .slice Aa na ca) ∧ (L 9 = true → s 12 = .slice gh.A2 na gh.c2) ∧ (L 10 = true → s 13 = .slice (some ⟨gh.e3, 0, none⟩) 0 0) ∧ (L 11 = true → s 14 = .pointer (some ⟨w.heap.size, 3, none⟩)) ∧ (L 12 = true → s 15 = .slice At nt ct) ∧ (L 13 = true → s 16 = .slice gh.A3 nt gh.c3) ∧ (L 14 = true → s 17 = .agg #[.int .i64 m.fountains, .slice gh.A1 nv gh.c1, .slice gh.A2 na gh.c2, .slice gh.A3 nt gh.c3]) from ⟨g1, m0, gz0, gz1, q1, q2, q3, o1, o2, o3, f0, f1, f2, f3, f4, f5, f6, f7, f8, f9, f10, f11, f12, f13, f14⟩)
   clear f14 f13 f12 f11 f10 f9 f8 f7 f6 f5 f4 f3 f2 f1 f0 o3 o2 o1 q3 q2 q1 gz1 gz0 m0 g1 hd
   try simp only at e3 ⊢
   gi_wp2
   obtain ⟨g1, m0, gz0, gz1, q1, q2, q3, o1, o2, o3, f0, f1, f2, f3, f4, f5, f6, f7, f8, f9, f10, f11, f12, f13, f14⟩ := HF.out
   exact hK (gh, (upd (upd s 6 (.pointer (some ⟨w.heap.size, 1, none⟩))) 7 (.slice Av nv cv))) _ ⟨g1, m0, gz0, gz1, q1, q2, q3, o1, o2, o3, f0, f1, f2, (fun _ => rfl), (fun _ => rfl), f5, f6, f7, f8, f9, f10, f11, f12, f13, f14⟩
  ·rintro L ⟨gh, s⟩ W hu hd hdn ⟨g1, m0, gz0, gz1, q1, q2, q3, o1, o2, o3, f0, f1, f2, f3, f4, f5, f6, f7, f8, f9, f10, f11, f12, f13, f14⟩ K Q hK
   try dsimp only at g1 m0 gz0 gz1 q1 q2 q3 o1 o2 o3 f0 f1 f2 f3 f4 f5 f6 f7 f8 f9 f10 f11 f12 f13 f14 ⊢
   have e2 := f2 (hd.at_ 2 rfl)
   have e4 := f4 (hd.at_ 4 rfl)
   have h15 : L 15 = false := by
    cases hc : L 15 with
    | false => rfl
    | true => exact hdn.no 15 5 hc rfl hu
   have h14 : L 14 = false := by
    cases hc : L 14 with
    | false => rfl
    | true => exact hdn.no 14 5 hc rfl hu
   have hWq : w.heap.size + 2 ≤ W.heap.size := (gz0 h15).lt
   have HWq := Lib.hid hWq
   clear hWq
   have HE := Lib.hid (q1 (hd.at_ 2 rfl) hu)
   have HG1 := Lib.hid g1
   have HF := Lib.hid (show (Below w.heap.size w W) ∧ (Blk W w.heap.size 26 #[.int .i64 m.fountains, .slice Av nv cv, .slice Aa na ca, .slice At nt ct]) ∧ (L 15 = false → Blk W (w.heap.size + 1) 26 #[.int .i64 0, .slice none 0 0, .slice none 0 0, .slice none 0 0]) ∧ (L 15 = true → Blk W (w.heap.size + 1) 26 #[.int .i64 m.fountains, .slice gh.A1 nv gh.c1, .slice gh.A2 na gh.c2, .slice gh.A3 nt gh.c3]) ∧ (L 2 = true → L 5 = false → Own W (w.heap.size + 2) 80 2 (some ⟨gh.e1, 0, none⟩) 0 0 []) ∧ (L 6 = true → L 9 = false → Own W (w.heap.size + 2) 67 4 (some ⟨gh.e2, 0, none⟩) 0 0 []) ∧ (L 10 = true → L 13 = false → Own W (w.heap.size + 2) 65 6 (some ⟨gh.e3, 0, none⟩) 0 0 []) ∧ (L 5 = true → Own W (w.heap.size + 2) 80 2 gh.A1 nv gh.c1 (m.vessels.flatMap Vess.vals)) ∧ (L 9 = true → Own W (w.heap.size + 2) 67 4 gh.A2 na gh.c2 (m.acts.flatMap MAct.vals)) ∧ (L 13 = true → Own W (w.heap.size + 2) 65 6 gh.A3 nt gh.c3 (m.tastes.flatMap Tast.vals)) ∧ (L 0 = true → s 3 = .pointer (some ⟨w.heap.size, 0, none⟩)) ∧ (L 1 = true → s 4 = .int .i64 m.fountains) ∧ (L 2 = true → s 5 = .slice (some ⟨gh.e1, 0, none⟩) 0 0) ∧ (L 3 = true → s 6 = .pointer (some ⟨w.heap.size, 1, none⟩)) ∧ (L 4 = true → s 7 = .slice Av nv cv) ∧ (L 5 = true → s 8 = .slice gh.A1 nv gh.c1) ∧ (L 6 = true → s 9 = .slice (some ⟨gh.e2, 0, none⟩) 0 0) ∧ (L 7 = true → s 10 = .pointer (some ⟨w.heap.size, 2, none⟩)) ∧ (L 8 = true → s 11 = .slice Aa na ca) ∧ (L 9 = true → s 12 = .slice gh.A2 na gh.c2) ∧ (L 10 = true → s 13 = .slice (some ⟨gh.e3, 0, none⟩) 0 0) ∧ (L 11 = true → s 14 = .pointer (some ⟨w.heap.size, 3, none⟩)) ∧ (L 12 = true → s 15 = .slice At nt ct) ∧ (L 13 = true → s 16 = .slice gh.A3 nt gh.c3) ∧ (L 14 = true → s 17 = .agg #[.int .i64 m.fountains, .slice gh.A1 nv gh.c1, .slice gh.A2 na gh.c2, .slice gh.A3 nt gh.c3]) from ⟨g1, m0, gz0, gz1, q1, q2, q3, o1, o2, o3, f0, f1, f2, f3, f4, f5, f6, f7, f8, f9, f10, f11, f12, f13, f14⟩)
   clear f14 f13 f12 f11 f10 f9 f8 f7 f6 f5 f4 f3 f2 f1 f0 o3 o2 o1 q3 q2 q1 gz1 gz0 m0 g1 hd
   try simp only at e2 e4 ⊢
   gi_wp2_with (first | (gi_at_builtin; refine wpListIn_append_fresh rfl (.tmp 5) (.tmp 7) (by rfl) elem_vess e2 HE.out e4 ((HM.out.at_.up HG1.out).vessels) (vess_one m.vessels) (by unfold maxLen; omega) (by omega) HWq.out ?_) | fail)
   rintro AN cN W1 hO hb hA
   gi_wp2
   obtain ⟨g1, m0, gz0, gz1, q1, q2, q3, o1, o2, o3, f0, f1, f2, f3, f4, f5, f6, f7, f8, f9, f10, f11, f12, f13, f14⟩ := HF.out
   exact hK ({ gh with A1 := AN, c1 := cN }, (upd (upd (upd s 5 (.slice (some ⟨gh.e1, 0, none⟩) 0 0)) 7 (.slice Av nv cv)) 8 (.slice AN nv cN))) _ ⟨(g1.trans (hb.mono g1.size)), (m0.below hb m0.lt), (fun h => (gz0 h).below hb (gz0 h).lt), (fun h => absurd (h15.symm.trans h) (by decide)), (fun _ h => by cases h), (fun h q => (q2 h q).below hb (Nat.le_refl _)), (fun h q => (q3 h q).below hb (Nat.le_refl _)), (fun _ => hO), (fun h => (o2 h).below hb (Nat.le_refl _)), (fun h => (o3 h).below hb (Nat.le_refl _)), f0, f1, (fun _ => rfl), f3, (fun _ => rfl), (fun _ => rfl), f6, f7, f8, f9, f10, f11, f12, f13, (fun h => absurd (h14.symm.trans h) (by decide))⟩
  ·rintro L ⟨gh, s⟩ W hu hd hdn ⟨g1, m0, gz0, gz1, q1, q2, q3, o1, o2, o3, f0, f1, f2, f3, f4, f5, f6, f7, f8, f9, f10, f11, f12, f13, f14⟩ K Q hK
   try dsimp only at g1 m0 gz0 gz1 q1 q2 q3 o1 o2 o3 f0 f1 f2 f3 f4 f5 f6 f7 f8 f9 f10 f11 f12 f13 f14 ⊢
   have h15 : L 15 = false := by
    cases hc : L 15 with
    | false => rfl
    | true => exact hdn.no 15 6 hc rfl hu
   have hWq : w.heap.size + 2 ≤ W.heap.size := (gz0 h15).lt
   have HWq := Lib.hid hWq
   clear hWq
   have HF := Lib.hid (show (Below w.heap.size w W) ∧ (Blk W w.heap.size 26 #[.int .i64 m.fountains, .slice Av nv cv, .slice Aa na ca, .slice At nt ct]) ∧ (L 15 = false → Blk W (w.heap.size + 1) 26 #[.int .i64 0, .slice none 0 0, .slice none 0 0, .slice none 0 0]) ∧ (L 15 = true → Blk W (w.heap.size + 1) 26 #[.int .i64 m.fountains, .slice gh.A1 nv gh.c1, .slice gh.A2 na gh.c2, .slice gh.A3 nt gh.c3]) ∧ (L 2 = true → L 5 = false → Own W (w.heap.size + 2) 80 2 (some ⟨gh.e1, 0, none⟩) 0 0 []) ∧ (L 6 = true → L 9 = false → Own W (w.heap.size + 2) 67 4 (some ⟨gh.e2, 0, none⟩) 0 0 []) ∧ (L 10 = true → L 13 = false → Own W (w.heap.size + 2) 65 6 (some ⟨gh.e3, 0, none⟩) 0 0 []) ∧ (L 5 = true → Own W (w.heap.size + 2) 80 2 gh.A1 nv gh.c1 (m.vessels.flatMap Vess.vals)) ∧ (L 9 = true → Own W (w.heap.size + 2) 67 4 gh.A2 na gh.c2 (m.acts.flatMap MAct.vals)) ∧ (L 13 = true → Own W (w.heap.size + 2) 65 6 gh.A3 nt gh.c3 (m.tastes.flatMap Tast.vals)) ∧ (L 0 = true → s 3 = .pointer (some ⟨w.heap.size, 0, none⟩)) ∧ (L 1 = true → s 4 = .int .i64 m.fountains) ∧ (L 2 = true → s 5 = .slice (some ⟨gh.e1, 0, none⟩) 0 0) ∧ (L 3 = true → s 6 = .pointer (some ⟨w.heap.size, 1, none⟩)) ∧ (L 4 = true → s 7 = .slice Av nv cv) ∧ (L 5 = true → s 8 = .slice gh.A1 nv gh.c1) ∧ (L 6 = true → s 9 = .slice (some ⟨gh.e2, 0, none⟩) 0 0) ∧ (L 7 = true → s 10 = .pointer (some ⟨w.heap.size, 2, none⟩)) ∧ (L 8 = true → s 11 = .slice Aa na ca) ∧ (L 9 = true → s 12 = .slice gh.A2 na gh.c2) ∧ (L 10 = true → s 13 = .slice (some ⟨gh.e3, 0, none⟩) 0 0) ∧ (L 11 = true → s 14 = .pointer (some ⟨w.heap.size, 3, none⟩)) ∧ (L 12 = true → s 15 = .slice At nt ct) ∧ (L 13 = true → s 16 = .slice gh.A3 nt gh.c3) ∧ (L 14 = true → s 17 = .agg #[.int .i64 m.fountains, .slice gh.A1 nv gh.c1, .slice gh.A2 na gh.c2, .slice gh.A3 nt gh.c3]) from ⟨g1, m0, gz0, gz1, q1, q2, q3, o1, o2, o3, f0, f1, f2, f3, f4, f5, f6, f7, f8, f9, f10, f11, f12, f13, f14⟩)
   clear f14 f13 f12 f11 f10 f9 f8 f7 f6 f5 f4 f3 f2 f1 f0 o3 o2 o1 q3 q2 q1 gz1 gz0 m0 g1 hd
   try simp only
   gi_wp2
   obtain ⟨g1, m0, gz0, gz1, q1, q2, q3, o1, o2, o3, f0, f1, f2, f3, f4, f5, f6, f7, f8, f9, f10, f11, f12, f13, f14⟩ := HF.out
   have hb : Below W.heap.size W (W.alloc (.cells #[] 67)) := (Below.refl _ _).alloc (Nat.le_refl _) _
   exact hK ({ gh with e2 := W.heap.size }, (upd s 9 (.slice (some ⟨W.heap.size, 0, none⟩) 0 0))) _ ⟨(g1.trans (hb.mono g1.size)), (m0.below hb m0.lt), (fun h => (gz0 h).below hb (gz0 h).lt), (fun h => (gz1 h).below hb (gz1 h).lt), (fun h q => (q1 h q).below hb (Nat.le_refl _)), (fun _ _ => World.ownsRow_made W #[] 0 HWq.out (Nat.zero_le _) (by simp)), (fun h q => (q3 h q).below hb (Nat.le_refl _)), (fun h => (o1 h).below hb (Nat.le_refl _)), (fun h => (o2 h).below hb (Nat.le_refl _)), (fun h => (o3 h).below hb (Nat.le_refl _)), f0, f1, f2, f3, f4, f5, (fun _ => rfl), f7, f8, f9, f10, f11, f12, f13, f14⟩
  ·rintro L ⟨gh, s⟩ W hu hd hdn ⟨g1, m0, gz0, gz1, q1, q2, q3, o1, o2, o3, f0, f1, f2, f3, f4, f5, f6, f7, f8, f9, f10, f11, f12, f13, f14⟩ K Q hK
   try dsimp only at g1 m0 gz0 gz1 q1 q2 q3 o1 o2 o3 f0 f1 f2 f3 f4 f5 f6 f7 f8 f9 f10 f11 f12 f13 f14 ⊢
   have HF := Lib.hid (show (Below w.heap.size w W) ∧ (Blk W w.heap.size 26 #[.int .i64 m.fountains, .slice Av nv cv, .slice Aa na ca, .slice At nt ct]) ∧ (L 15 = false → Blk W (w.heap.size + 1) 26 #[.int .i64 0, .slice none 0 0, .slice none 0 0, .slice none 0 0]) ∧ (L 15 = true → Blk W (w.heap.size + 1) 26 #[.int .i64 m.fountains, .slice gh.A1 nv gh.c1, .slice gh.A2 na gh.c2, .slice gh.A3 nt gh.c3]) ∧ (L 2 = true → L 5 = false → Own W (w.heap.size + 2) 80 2 (some ⟨gh.e1, 0, none⟩) 0 0 []) ∧ (L 6 = true → L 9 = false → Own W (w.heap.size + 2) 67 4 (some ⟨gh.e2, 0, none⟩) 0 0 []) ∧ (L 10 = true → L 13 = false → Own W (w.heap.size + 2) 65 6 (some ⟨gh.e3, 0, none⟩) 0 0 []) ∧ (L 5 = true → Own W (w.heap.size + 2) 80 2 gh.A1 nv gh.c1 (m.vessels.flatMap Vess.vals)) ∧ (L 9 = true → Own W (w.heap.size + 2) 67 4 gh.A2 na gh.c2 (m.acts.flatMap MAct.vals)) ∧ (L 13 = true → Own W (w.heap.size + 2) 65 6 gh.A3 nt gh.c3 (m.tastes.flatMap Tast.vals)) ∧ (L 0 = true → s 3 = .pointer (some ⟨w.heap.size, 0, none⟩)) ∧ (L 1 = true → s 4 = .int .i64 m.fountains) ∧ (L 2 = true → s 5 = .slice (some ⟨gh.e1, 0, none⟩) 0 0) ∧ (L 3 = true → s 6 = .pointer (some ⟨w.heap.size, 1, none⟩)) ∧ (L 4 = true → s 7 = .slice Av nv cv) ∧ (L 5 = true → s 8 = .slice gh.A1 nv gh.c1) ∧ (L 6 = true → s 9 = .slice (some ⟨gh.e2, 0, none⟩) 0 0) ∧ (L 7 = true → s 10 = .pointer (some ⟨w.heap.size, 2, none⟩)) ∧ (L 8 = true → s 11 = .slice Aa na ca) ∧ (L 9 = true → s 12 = .slice gh.A2 na gh.c2) ∧ (L 10 = true → s 13 = .slice (some ⟨gh.e3, 0, none⟩) 0 0) ∧ (L 11 = true → s 14 = .pointer (some ⟨w.heap.size, 3, none⟩)) ∧ (L 12 = true → s 15 = .slice At nt ct) ∧ (L 13 = true → s 16 = .slice gh.A3 nt gh.c3) ∧ (L 14 = true → s 17 = .agg #[.int .i64 m.fountains, .slice gh.A1 nv gh.c1, .slice gh.A2 na gh.c2, .slice gh.A3 nt gh.c3]) from ⟨g1, m0, gz0, gz1, q1, q2, q3, o1, o2, o3, f0, f1, f2, f3, f4, f5, f6, f7, f8, f9, f10, f11, f12, f13, f14⟩)
   clear f14 f13 f12 f11 f10 f9 f8 f7 f6 f5 f4 f3 f2 f1 f0 o3 o2 o1 q3 q2 q1 gz1 gz0 m0 g1 hd
   try simp only
   gi_wp2
   obtain ⟨g1, m0, gz0, gz1, q1, q2, q3, o1, o2, o3, f0, f1, f2, f3, f4, f5, f6, f7, f8, f9, f10, f11, f12, f13, f14⟩ := HF.out
   exact hK (gh, (upd s 10 (.pointer (some ⟨w.heap.size, 2, none⟩)))) _ ⟨g1, m0, gz0, gz1, q1, q2, q3, o1, o2, o3, f0, f1, f2, f3, f4, f5, f6, (fun _ => rfl), f8, f9, f10, f11, f12, f13, f14⟩
  ·rintro L ⟨gh, s⟩ W hu hd hdn ⟨g1, m0, gz0, gz1, q1, q2, q3, o1, o2, o3, f0, f1, f2, f3, f4, f5, f6, f7, f8, f9, f10, f11, f12, f13, f14⟩ K Q hK
   try dsimp only at g1 m0 gz0 gz1 q1 q2 q3 o1 o2 o3 f0 f1 f2 f3 f4 f5 f6 f7 f8 f9 f10 f11 f12 f13 f14 ⊢
   have e7 := f7 (hd.at_ 7 rfl)
   have c0 : W.cell? ⟨w.heap.size, 2, none⟩ = some (.slice Aa na ca) := m0.cell 2
   have HF := Lib.hid (show (Below w.heap.size w W) ∧ (Blk W w.heap.size 26 #[.int .i64 m.fountains, .slice Av nv cv, .slice Aa na ca, .slice At nt ct]) ∧ (L 15 = false → Blk W (w.heap.size + 1) 26 #[.int .i64 0, .slice none 0 0, .slice none 0 0, .slice none 0 0]) ∧ (L 15 = true → Blk W (w.heap.size + 1) 26 #[.int .i64 m.fountains, .slice gh.A1 nv gh.c1, .slice gh.A2 na gh.c2, .slice gh.A3 nt gh.c3]) ∧ (L 2 = true → L 5 = false → Own W (w.heap.size + 2) 80 2 (some ⟨gh.e1, 0, none⟩) 0 0 []) ∧ (L 6 = true → L 9 = false → Own W (w.heap.size + 2) 67 4 (some ⟨gh.e2, 0, none⟩) 0 0 []) ∧ (L 10 = true → L 13 = false → Own W (w.heap.size + 2) 65 6 (some ⟨gh.e3, 0, none⟩) 0 0 []) ∧ (L 5 = true → Own W (w.heap.size + 2) 80 2 gh.A1 nv gh.c1 (m.vessels.flatMap Vess.vals)) ∧ (L 9 = true → Own W (w.heap.size + 2) 67 4 gh.A2 na gh.c2 (m.acts.flatMap MAct.vals)) ∧ (L 13 = true → Own W (w.heap.size + 2) 65 6 gh.A3 nt gh.c3 (m.tastes.flatMap Tast.vals)) ∧ (L 0 = true → s 3 = .pointer (some ⟨w.heap.size, 0, none⟩)) ∧ (L 1 = true → s 4 = .int .i64 m.fountains) ∧ (L 2 = true → s 5 = .slice (some ⟨gh.e1, 0, none⟩) 0 0) ∧ (L 3 = true → s 6 = .pointer (some ⟨w.heap.size, 1, none⟩)) ∧ (L 4 = true → s 7 = .slice Av nv cv) ∧ (L 5 = true → s 8 = .slice gh.A1 nv gh.c1) ∧ (L 6 = true → s 9 = .slice (some ⟨gh.e2, 0, none⟩) 0 0) ∧ (L 7 = true → s 10 = .pointer (some ⟨w.heap.size, 2, none⟩)) ∧ (L 8 = true → s 11 = .slice Aa na ca) ∧ (L 9 = true → s 12 = .slice gh.A2 na gh.c2) ∧ (L 10 = true → s 13 = .slice (some ⟨gh.e3, 0, none⟩) 0 0) ∧ (L 11 = true → s 14 = .pointer (some ⟨w.heap.size, 3, none⟩)) ∧ (L 12 = true → s 15 = .slice At nt ct) ∧ (L 13 = true → s 16 = .slice gh.A3 nt gh.c3) ∧ (L 14 = true → s 17 = .agg #[.int .i64 m.fountains, .slice gh.A1 nv gh.c1, .slice gh.A2 na gh.c2, .slice gh.A3 nt gh.c3]) from ⟨g1, m0, gz0, gz1, q1, q2, q3, o1, o2, o3, f0, f1, f2, f3, f4, f5, f6, f7, f8, f9, f10, f11, f12, f13, f14⟩)
   clear f14 f13 f12 f11 f10 f9 f8 f7 f6 f5 f4 f3 f2 f1 f0 o3 o2 o1 q3 q2 q1 gz1 gz0 m0 g1 hd
   try simp only at e7 ⊢
   gi_wp2
   obtain ⟨g1, m0, gz0, gz1, q1, q2, q3, o1, o2, o3, f0, f1, f2, f3, f4, f5, f6, f7, f8, f9, f10, f11, f12, f13, f14⟩ := HF.out
   exact hK (gh, (upd (upd s 10 (.pointer (some ⟨w.heap.size, 2, none⟩))) 11 (.slice Aa na ca))) _ ⟨g1, m0, gz0, gz1, q1, q2, q3, o1, o2, o3, f0, f1, f2, f3, f4, f5, f6, (fun _ => rfl), (fun _ => rfl), f9, f10, f11, f12, f13, f14⟩
  ·rintro L ⟨gh, s⟩ W hu hd hdn ⟨g1, m0, gz0, gz1, q1, q2, q3, o1, o2, o3, f0, f1, f2, f3, f4, f5, f6, f7, f8, f9, f10, f11, f12, f13, f14⟩ K Q hK
   try dsimp only at g1 m0 gz0 gz1 q1 q2 q3 o1 o2 o3 f0 f1 f2 f3 f4 f5 f6 f7 f8 f9 f10 f11 f12 f13 f14 ⊢
   have e6 := f6 (hd.at_ 6 rfl)
   have e8 := f8 (hd.at_ 8 rfl)
   have h15 : L 15 = false := by
    cases hc : L 15 with
    | false => rfl
    | true => exact hdn.no 15 9 hc rfl hu
   have h14 : L 14 = false := by
    cases hc : L 14 with
    | false => rfl
    | true => exact hdn.no 14 9 hc rfl hu
   have hWq : w.heap.size + 2 ≤ W.heap.size := (gz0 h15).lt
   have HWq := Lib.hid hWq
   clear hWq
   have HE := Lib.hid (q2 (hd.at_ 6 rfl) hu)
   have HG1 := Lib.hid g1
   have HF := Lib.hid (show (Below w.heap.size w W) ∧ (Blk W w.heap.size 26 #[.int .i64 m.fountains, .slice Av nv cv, .slice Aa na ca, .slice At nt ct]) ∧ (L 15 = false → Blk W (w.heap.size + 1) 26 #[.int .i64 0, .slice none 0 0, .slice none 0 0, .slice none 0 0]) ∧ (L 15 = true → Blk W (w.heap.size + 1) 26 #[.int .i64 m.fountains, .slice gh.A1 nv gh.c1, .slice gh.A2 na gh.c2, .slice gh.A3 nt gh.c3]) ∧ (L 2 = true → L 5 = false → Own W (w.heap.size + 2) 80 2 (some ⟨gh.e1, 0, none⟩) 0 0 []) ∧ (L 6 = true → L 9 = false → Own W (w.heap.size + 2) 67 4 (some ⟨gh.e2, 0, none⟩) 0 0 []) ∧ (L 10 = true → L 13 = false → Own W (w.heap.size + 2) 65 6 (some ⟨gh.e3, 0, none⟩) 0 0 []) ∧ (L 5 = true → Own W (w.heap.size + 2) 80 2 gh.A1 nv gh.c1 (m.vessels.flatMap Vess.vals)) ∧ (L 9 = true → Own W (w.heap.size + 2) 67 4 gh.A2 na gh.c2 (m.acts.flatMap MAct.vals)) ∧ (L 13 = true → Own W (w.heap.size + 2) 65 6 gh.A3 nt gh.c3 (m.tastes.flatMap Tast.vals)) ∧ (L 0 = true → s 3 = .pointer (some ⟨w.heap.size, 0, none⟩)) ∧ (L 1 = true → s 4 = .int .i64 m.fountains) ∧ (L 2 = true → s 5 = .slice (some ⟨gh.e1, 0, none⟩) 0 0) ∧ (L 3 = true → s 6 = .pointer (some ⟨w.heap.size, 1, none⟩)) ∧ (L 4 = true → s 7 = .slice Av nv cv) ∧ (L 5 = true → s 8 = .slice gh.A1 nv gh.c1) ∧ (L 6 = true → s 9 = .slice (some ⟨gh.e2, 0, none⟩) 0 0) ∧ (L 7 = true → s 10 = .pointer (some ⟨w.heap.size, 2, none⟩)) ∧ (L 8 = true → s 11 = .slice Aa na ca) ∧ (L 9 = true → s 12 = .slice gh.A2 na gh.c2) ∧ (L 10 = true → s 13 = .slice (some ⟨gh.e3, 0, none⟩) 0 0) ∧ (L 11 = true → s 14 = .pointer (some ⟨w.heap.size, 3, none⟩)) ∧ (L 12 = true → s 15 = .slice At nt ct) ∧ (L 13 = true → s 16 = .slice gh.A3 nt gh.c3) ∧ (L 14 = true → s 17 = .agg #[.int .i64 m.fountains, .slice gh.A1 nv gh.c1, .slice gh.A2 na gh.c2, .slice gh.A3 nt gh.c3]) from ⟨g1, m0, gz0, gz1, q1, q2, q3, o1, o2, o3, f0, f1, f2, f3, f4, f5, f6, f7, f8, f9, f10, f11, f12, f13, f14⟩)
   clear f14 f13 f12 f11 f10 f9 f8 f7 f6 f5 f4 f3 f2 f1 f0 o3 o2 o1 q3 q2 q1 gz1 gz0 m0 g1 hd
   try simp only at e6 e8 ⊢
   gi_wp2_with (first | (gi_at_builtin; refine wpListIn_append_fresh rfl (.tmp 9) (.tmp 11) (by rfl) elem_act e6 HE.out e8 ((HM.out.at_.up HG1.out).acts) (act_one m.acts) (by unfold maxLen; omega) (by omega) HWq.out ?_) | fail)
   rintro AN cN W1 hO hb hA
   gi_wp2
   obtain ⟨g1, m0, gz0, gz1, q1, q2, q3, o1, o2, o3, f0, f1, f2, f3, f4, f5, f6, f7, f8, f9, f10, f11, f12, f13, f14⟩ := HF.out
   exact hK ({ gh with A2 := AN, c2 := cN }, (upd (upd (upd s 9 (.slice (some ⟨gh.e2, 0, none⟩) 0 0)) 11 (.slice Aa na ca)) 12 (.slice AN na cN))) _ ⟨(g1.trans (hb.mono g1.size)), (m0.below hb m0.lt), (fun h => (gz0 h).below hb (gz0 h).lt), (fun h => absurd (h15.symm.trans h) (by decide)), (fun h q => (q1 h q).below hb (Nat.le_refl _)), (fun _ h => by cases h), (fun h q => (q3 h q).below hb (Nat.le_refl _)), (fun h => (o1 h).below hb (Nat.le_refl _)), (fun _ => hO), (fun h => (o3 h).below hb (Nat.le_refl _)), f0, f1, f2, f3, f4, f5, (fun _ => rfl), f7, (fun _ => rfl), (fun _ => rfl), f10, f11, f12, f13, (fun h => absurd (h14.symm.trans h) (by decide))⟩
  ·rintro L ⟨gh, s⟩ W hu hd hdn ⟨g1, m0, gz0, gz1, q1, q2, q3, o1, o2, o3, f0, f1, f2, f3, f4, f5, f6, f7, f8, f9, f10, f11, f12, f13, f14⟩ K Q hK
   try dsimp only at g1 m0 gz0 gz1 q1 q2 q3 o1 o2 o3 f0 f1 f2 f3 f4 f5 f6 f7 f8 f9 f10 f11 f12 f13 f14 ⊢
   have h15 : L 15 = false := by
    cases hc : L 15 with
    | false => rfl
    | true => exact hdn.no 15 10 hc rfl hu
   have hWq : w.heap.size + 2 ≤ W.heap.size := (gz0 h15).lt
   have HWq := Lib.hid hWq
   clear hWq
   have HF := Lib.hid (show (Below w.heap.size w W) ∧ (Blk W w.heap.size 26 #[.int .i64 m.fountains, .slice Av nv cv, .slice Aa na ca, .slice At nt ct]) ∧ (L 15 = false → Blk W (w.heap.size + 1) 26 #[.int .i64 0, .slice none 0 0, .slice none 0 0, .slice none 0 0]) ∧ (L 15 = true → Blk W (w.heap.size + 1) 26 #[.int .i64 m.fountains, .slice gh.A1 nv gh.c1, .slice gh.A2 na gh.c2, .slice gh.A3 nt gh.c3]) ∧ (L 2 = true → L 5 = false → Own W (w.heap.size + 2) 80 2 (some ⟨gh.e1, 0, none⟩) 0 0 []) ∧ (L 6 = true → L 9 = false → Own W (w.heap.size + 2) 67 4 (some ⟨gh.e2, 0, none⟩) 0 0 []) ∧ (L 10 = true → L 13 = false → Own W (w.heap.size + 2) 65 6 (some ⟨gh.e3, 0, none⟩) 0 0 []) ∧ (L 5 = true → Own W (w.heap.size + 2) 80 2 gh.A1 nv gh.c1 (m.vessels.flatMap Vess.vals)) ∧ (L 9 = true → Own W (w.heap.size + 2) 67 4 gh.A2 na gh.c2 (m.acts.flatMap MAct.vals)) ∧ (L 13 = true → Own W (w.heap.size + 2) 65 6 gh.A3 nt gh.c3 (m.tastes.flatMap Tast.vals)) ∧ (L 0 = true → s 3 = .pointer (some ⟨w.heap.size, 0, none⟩)) ∧ (L 1 = true → s 4 = .int .i64 m.fountains) ∧ (L 2 = true → s 5 = .slice (some ⟨gh.e1, 0, none⟩) 0 0) ∧ (L 3 = true → s 6 = .pointer (some ⟨w.heap.size, 1, none⟩)) ∧ (L 4 = true → s 7 = .slice Av nv cv) ∧ (L 5 = true → s 8 = .slice gh.A1 nv gh.c1) ∧ (L 6 = true → s 9 = .slice (some ⟨gh.e2, 0, none⟩) 0 0) ∧ (L 7 = true → s 10 = .pointer (some ⟨w.heap.size, 2, none⟩)) ∧ (L 8 = true → s 11 = .slice Aa na ca) ∧ (L 9 = true → s 12 = .slice gh.A2 na gh.c2) ∧ (L 10 = true → s 13 = .slice (some ⟨gh.e3, 0, none⟩) 0 0) ∧ (L 11 = true → s 14 = .pointer (some ⟨w.heap.size, 3, none⟩)) ∧ (L 12 = true → s 15 = .slice At nt ct) ∧ (L 13 = true → s 16 = .slice gh.A3 nt gh.c3) ∧ (L 14 = true → s 17 = .agg #[.int .i64 m.fountains, .slice gh.A1 nv gh.c1, .slice gh.A2 na gh.c2, .slice gh.A3 nt gh.c3]) from ⟨g1, m0, gz0, gz1, q1, q2, q3, o1, o2, o3, f0, f1, f2, f3, f4, f5, f6, f7, f8, f9, f10, f11, f12, f13, f14⟩)
   clear f14 f13 f12 f11 f10 f9 f8 f7 f6 f5 f4 f3 f2 f1 f0 o3 o2 o1 q3 q2 q1 gz1 gz0 m0 g1 hd
   try simp only
   gi_wp2
   obtain ⟨g1, m0, gz0, gz1, q1, q2, q3, o1, o2, o3, f0, f1, f2, f3, f4, f5, f6, f7, f8, f9, f10, f11, f12, f13, f14⟩ := HF.out
   have hb : Below W.heap.size W (W.alloc (.cells #[] 65)) := (Below.refl _ _).alloc (Nat.le_refl _) _
   exact hK ({ gh with e3 := W.heap.size }, (upd s 13 (.slice (some ⟨W.heap.size, 0, none⟩) 0 0))) _ ⟨(g1.trans (hb.mono g1.size)), (m0.below hb m0.lt), (fun h => (gz0 h).below hb (gz0 h).lt), (fun h => (gz1 h).below hb (gz1 h).lt), (fun h q => (q1 h q).below hb (Nat.le_refl _)), (fun h q => (q2 h q).below hb (Nat.le_refl _)), (fun _ _ => World.ownsRow_made W #[] 0 HWq.out (Nat.zero_le _) (by simp)), (fun h => (o1 h).below hb (Nat.le_refl _)), (fun h => (o2 h).below hb (Nat.le_refl _)), (fun h => (o3 h).below hb (Nat.le_refl _)), f0, f1, f2, f3, f4, f5, f6, f7, f8, f9, (fun _ => rfl), f11, f12, f13, f14⟩
  ·rintro L ⟨gh, s⟩ W hu hd hdn ⟨g1, m0, gz0, gz1, q1, q2, q3, o1, o2, o3, f0, f1, f2, f3, f4, f5, f6, f7, f8, f9, f10, f11, f12, f13, f14⟩ K Q hK
   try dsimp only at g1 m0 gz0 gz1 q1 q2 q3 o1 o2 o3 f0 f1 f2 f3 f4 f5 f6 f7 f8 f9 f10 f11 f12 f13 f14 ⊢
   have HF := Lib.hid (show (Below w.heap.size w W) ∧ (Blk W w.heap.size 26 #[.int .i64 m.fountains, .slice Av nv cv, .slice Aa na ca, .slice At nt ct]) ∧ (L 15 = false → Blk W (w.heap.size + 1) 26 #[.int .i64 0, .slice none 0 0, .slice none 0 0, .slice none 0 0]) ∧ (L 15 = true → Blk W (w.heap.size + 1) 26 #[.int .i64 m.fountains, .slice gh.A1 nv gh.c1, .slice gh.A2 na gh.c2, .slice gh.A3 nt gh.c3]) ∧ (L 2 = true → L 5 = false → Own W (w.heap.size + 2) 80 2 (some ⟨gh.e1, 0, none⟩) 0 0 []) ∧ (L 6 = true → L 9 = false → Own W (w.heap.size + 2) 67 4 (some ⟨gh.e2, 0, none⟩) 0 0 []) ∧ (L 10 = true → L 13 = false → Own W (w.heap.size + 2) 65 6 (some ⟨gh.e3, 0, none⟩) 0 0 []) ∧ (L 5 = true → Own W (w.heap.size + 2) 80 2 gh.A1 nv gh.c1 (m.vessels.flatMap Vess.vals)) ∧ (L 9 = true → Own W (w.heap.size + 2) 67 4 gh.A2 na gh.c2 (m.acts.flatMap MAct.vals)) ∧ (L 13 = true → Own W (w.heap.size + 2) 65 6 gh.A3 nt gh.c3 (m.tastes.flatMap Tast.vals)) ∧ (L 0 = true → s 3 = .pointer (some ⟨w.heap.size, 0, none⟩)) ∧ (L 1 = true → s 4 = .int .i64 m.fountains) ∧ (L 2 = true → s 5 = .slice (some ⟨gh.e1, 0, none⟩) 0 0) ∧ (L 3 = true → s 6 = .pointer (some ⟨w.heap.size, 1, none⟩)) ∧ (L 4 = true → s 7 = .slice Av nv cv) ∧ (L 5 = true → s 8 = .slice gh.A1 nv gh.c1) ∧ (L 6 = true → s 9 = .slice (some ⟨gh.e2, 0, none⟩) 0 0) ∧ (L 7 = true → s 10 = .pointer (some ⟨w.heap.size, 2, none⟩)) ∧ (L 8 = true → s 11 = .slice Aa na ca) ∧ (L 9 = true → s 12 = .slice gh.A2 na gh.c2) ∧ (L 10 = true → s 13 = .slice (some ⟨gh.e3, 0, none⟩) 0 0) ∧ (L 11 = true → s 14 = .pointer (some ⟨w.heap.size, 3, none⟩)) ∧ (L 12 = true → s 15 = .slice At nt ct) ∧ (L 13 = true → s 16 = .slice gh.A3 nt gh.c3) ∧ (L 14 = true → s 17 = .agg #[.int .i64 m.fountains, .slice gh.A1 nv gh.c1, .slice gh.A2 na gh.c2, .slice gh.A3 nt gh.c3]) from ⟨g1, m0, gz0, gz1, q1, q2, q3, o1, o2, o3, f0, f1, f2, f3, f4, f5, f6, f7, f8, f9, f10, f11, f12, f13, f14⟩)
   clear f14 f13 f12 f11 f10 f9 f8 f7 f6 f5 f4 f3 f2 f1 f0 o3 o2 o1 q3 q2 q1 gz1 gz0 m0 g1 hd
   try simp only
   gi_wp2
   obtain ⟨g1, m0, gz0, gz1, q1, q2, q3, o1, o2, o3, f0, f1, f2, f3, f4, f5, f6, f7, f8, f9, f10, f11, f12, f13, f14⟩ := HF.out
   exact hK (gh, (upd s 14 (.pointer (some ⟨w.heap.size, 3, none⟩)))) _ ⟨g1, m0, gz0, gz1, q1, q2, q3, o1, o2, o3, f0, f1, f2, f3, f4, f5, f6, f7, f8, f9, f10, (fun _ => rfl), f12, f13, f14⟩
  ·rintro L ⟨gh, s⟩ W hu hd hdn ⟨g1, m0, gz0, gz1, q1, q2, q3, o1, o2, o3, f0, f1, f2, f3, f4, f5, f6, f7, f8, f9, f10, f11, f12, f13, f14⟩ K Q hK
   try dsimp only at g1 m0 gz0 gz1 q1 q2 q3 o1 o2 o3 f0 f1 f2 f3 f4 f5 f6 f7 f8 f9 f10 f11 f12 f13 f14 ⊢
   have e11 := f11 (hd.at_ 11 rfl)
   have c0 : W.cell? ⟨w.heap.size, 3, none⟩ = some (.slice At nt ct) := m0.cell 3
   have HF := Lib.hid (show (Below w.heap.size w W) ∧ (Blk W w.heap.size 26 #[.int .i64 m.fountains, .slice Av nv cv, .slice Aa na ca, .slice At nt ct]) ∧ (L 15 = false → Blk W (w.heap.size + 1) 26 #[.int .i64 0, .slice none 0 0, .slice none 0 0, .slice none 0 0]) ∧ (L 15 = true → Blk W (w.heap.size + 1) 26 #[.int .i64 m.fountains, .slice gh.A1 nv gh.c1, .slice gh.A2 na gh.c2, .slice gh.A3 nt gh.c3]) ∧ (L 2 = true → L 5 = false → Own W (w.heap.size + 2) 80 2 (some ⟨gh.e1, 0, none⟩) 0 0 []) ∧ (L 6 = true → L 9 = false → Own W (w.heap.size + 2) 67 4 (some ⟨gh.e2, 0, none⟩) 0 0 []) ∧ (L 10 = true → L 13 = false → Own W (w.heap.size + 2) 65 6 (some ⟨gh.e3, 0, none⟩) 0 0 []) ∧ (L 5 = true → Own W (w.heap.size + 2) 80 2 gh.A1 nv gh.c1 (m.vessels.flatMap Vess.vals)) ∧ (L 9 = true → Own W (w.heap.size + 2) 67 4 gh.A2 na gh.c2 (m.acts.flatMap MAct.vals)) ∧ (L 13 = true → Own W (w.heap.size + 2) 65 6 gh.A3 nt gh.c3 (m.tastes.flatMap Tast.vals)) ∧ (L 0 = true → s 3 = .pointer (some ⟨w.heap.size, 0, none⟩)) ∧ (L 1 = true → s 4 = .int .i64 m.fountains) ∧ (L 2 = true → s 5 = .slice (some ⟨gh.e1, 0, none⟩) 0 0) ∧ (L 3 = true → s 6 = .pointer (some ⟨w.heap.size, 1, none⟩)) ∧ (L 4 = true → s 7 = .slice Av nv cv) ∧ (L 5 = true → s 8 = .slice gh.A1 nv gh.c1) ∧ (L 6 = true → s 9 = .slice (some ⟨gh.e2, 0, none⟩) 0 0) ∧ (L 7 = true → s 10 = .pointer (some ⟨w.heap.size, 2, none⟩)) ∧ (L 8 = true → s 11 = .slice Aa na ca) ∧ (L 9 = true → s 12 = .slice gh.A2 na gh.c2) ∧ (L 10 = true → s 13 = .slice (some ⟨gh.e3, 0, none⟩) 0 0) ∧ (L 11 = true → s 14 = .pointer (some ⟨w.heap.size, 3, none⟩)) ∧ (L 12 = true → s 15 = .slice At nt ct) ∧ (L 13 = true → s 16 = .slice gh.A3 nt gh.c3) ∧ (L 14 = true → s 17 = .agg #[.int .i64 m.fountains, .slice gh.A1 nv gh.c1, .slice gh.A2 na gh.c2, .slice gh.A3 nt gh.c3]) from ⟨g1, m0, gz0, gz1, q1, q2, q3, o1, o2, o3, f0, f1, f2, f3, f4, f5, f6, f7, f8, f9, f10, f11, f12, f13, f14⟩)
   clear f14 f13 f12 f11 f10 f9 f8 f7 f6 f5 f4 f3 f2 f1 f0 o3 o2 o1 q3 q2 q1 gz1 gz0 m0 g1 hd
   try simp only at e11 ⊢
   gi_wp2
   obtain ⟨g1, m0, gz0, gz1, q1, q2, q3, o1, o2, o3, f0, f1, f2, f3, f4, f5, f6, f7, f8, f9, f10, f11, f12, f13, f14⟩ := HF.out
   exact hK (gh, (upd (upd s 14 (.pointer (some ⟨w.heap.size, 3, none⟩))) 15 (.slice At nt ct))) _ ⟨g1, m0, gz0, gz1, q1, q2, q3, o1, o2, o3, f0, f1, f2, f3, f4, f5, f6, f7, f8, f9, f10, (fun _ => rfl), (fun _ => rfl), f13, f14⟩
  ·rintro L ⟨gh, s⟩ W hu hd hdn ⟨g1, m0, gz0, gz1, q1, q2, q3, o1, o2, o3, f0, f1, f2, f3, f4, f5, f6, f7, f8, f9, f10, f11, f12, f13, f14⟩ K Q hK
   try dsimp only at g1 m0 gz0 gz1 q1 q2 q3 o1 o2 o3 f0 f1 f2 f3 f4 f5 f6 f7 f8 f9 f10 f11 f12 f13 f14 ⊢
   have e10 := f10 (hd.at_ 10 rfl)
   have e12 := f12 (hd.at_ 12 rfl)
   have h15 : L 15 = false := by
    cases hc : L 15 with
    | false => rfl
    | true => exact hdn.no 15 13 hc rfl hu
   have h14 : L 14 = false := by
    cases hc : L 14 with
    | false => rfl
    | true => exact hdn.no 14 13 hc rfl hu
   have hWq : w.heap.size + 2 ≤ W.heap.size := (gz0 h15).lt
   have HWq := Lib.hid hWq
   clear hWq
   have HE := Lib.hid (q3 (hd.at_ 10 rfl) hu)
   have HG1 := Lib.hid g1
   have HF := Lib.hid (show (Below w.heap.size w W) ∧ (Blk W w.heap.size 26 #[.int .i64 m.fountains, .slice Av nv cv, .slice Aa na ca, .slice At nt ct]) ∧ (L 15 = false → Blk W (w.heap.size + 1) 26 #[.int .i64 0, .slice none 0 0, .slice none 0 0, .slice none 0 0]) ∧ (L 15 = true → Blk W (w.heap.size + 1) 26 #[.int .i64 m.fountains, .slice gh.A1 nv gh.c1, .slice gh.A2 na gh.c2, .slice gh.A3 nt gh.c3]) ∧ (L 2 = true → L 5 = false → Own W (w.heap.size + 2) 80 2 (some ⟨gh.e1, 0, none⟩) 0 0 []) ∧ (L 6 = true → L 9 = false → Own W (w.heap.size + 2) 67 4 (some ⟨gh.e2, 0, none⟩) 0 0 []) ∧ (L 10 = true → L 13 = false → Own W (w.heap.size + 2) 65 6 (some ⟨gh.e3, 0, none⟩) 0 0 []) ∧ (L 5 = true → Own W (w.heap.size + 2) 80 2 gh.A1 nv gh.c1 (m.vessels.flatMap Vess.vals)) ∧ (L 9 = true → Own W (w.heap.size + 2) 67 4 gh.A2 na gh.c2 (m.acts.flatMap MAct.vals)) ∧ (L 13 = true → Own W (w.heap.size + 2) 65 6 gh.A3 nt gh.c3 (m.tastes.flatMap Tast.vals)) ∧ (L 0 = true → s 3 = .pointer (some ⟨w.heap.size, 0, none⟩)) ∧ (L 1 = true → s 4 = .int .i64 m.fountains) ∧ (L 2 = true → s 5 = .slice (some ⟨gh.e1, 0, none⟩) 0 0) ∧ (L 3 = true → s 6 = .pointer (some ⟨w.heap.size, 1, none⟩)) ∧ (L 4 = true → s 7 = .slice Av nv cv) ∧ (L 5 = true → s 8 = .slice gh.A1 nv gh.c1) ∧ (L 6 = true → s 9 = .slice (some ⟨gh.e2, 0, none⟩) 0 0) ∧ (L 7 = true → s 10 = .pointer (some ⟨w.heap.size, 2, none⟩)) ∧ (L 8 = true → s 11 = .slice Aa na ca) ∧ (L 9 = true → s 12 = .slice gh.A2 na gh.c2) ∧ (L 10 = true → s 13 = .slice (some ⟨gh.e3, 0, none⟩) 0 0) ∧ (L 11 = true → s 14 = .pointer (some ⟨w.heap.size, 3, none⟩)) ∧ (L 12 = true → s 15 = .slice At nt ct) ∧ (L 13 = true → s 16 = .slice gh.A3 nt gh.c3) ∧ (L 14 = true → s 17 = .agg #[.int .i64 m.fountains, .slice gh.A1 nv gh.c1, .slice gh.A2 na gh.c2, .slice gh.A3 nt gh.c3]) from ⟨g1, m0, gz0, gz1, q1, q2, q3, o1, o2, o3, f0, f1, f2, f3, f4, f5, f6, f7, f8, f9, f10, f11, f12, f13, f14⟩)
   clear f14 f13 f12 f11 f10 f9 f8 f7 f6 f5 f4 f3 f2 f1 f0 o3 o2 o1 q3 q2 q1 gz1 gz0 m0 g1 hd
   try simp only at e10 e12 ⊢
   gi_wp2_with (first | (gi_at_builtin; refine wpListIn_append_fresh rfl (.tmp 13) (.tmp 15) (by rfl) elem_tast e10 HE.out e12 ((HM.out.at_.up HG1.out).tastes) (tast_one m.tastes) (by unfold maxLen; omega) (by omega) HWq.out ?_) | fail)
   rintro AN cN W1 hO hb hA
   gi_wp2
   obtain ⟨g1, m0, gz0, gz1, q1, q2, q3, o1, o2, o3, f0, f1, f2, f3, f4, f5, f6, f7, f8, f9, f10, f11, f12, f13, f14⟩ := HF.out
   exact hK ({ gh with A3 := AN, c3 := cN }, (upd (upd (upd s 13 (.slice (some ⟨gh.e3, 0, none⟩) 0 0)) 15 (.slice At nt ct)) 16 (.slice AN nt cN))) _ ⟨(g1.trans (hb.mono g1.size)), (m0.below hb m0.lt), (fun h => (gz0 h).below hb (gz0 h).lt), (fun h => absurd (h15.symm.trans h) (by decide)), (fun h q => (q1 h q).below hb (Nat.le_refl _)), (fun h q => (q2 h q).below hb (Nat.le_refl _)), (fun _ h => by cases h), (fun h => (o1 h).below hb (Nat.le_refl _)), (fun h => (o2 h).below hb (Nat.le_refl _)), (fun _ => hO), f0, f1, f2, f3, f4, f5, f6, f7, f8, f9, (fun _ => rfl), f11, (fun _ => rfl), (fun _ => rfl), (fun h => absurd (h14.symm.trans h) (by decide))⟩
  ·rintro L ⟨gh, s⟩ W hu hd hdn ⟨g1, m0, gz0, gz1, q1, q2, q3, o1, o2, o3, f0, f1, f2, f3, f4, f5, f6, f7, f8, f9, f10, f11, f12, f13, f14⟩ K Q hK
   try dsimp only at g1 m0 gz0 gz1 q1 q2 q3 o1 o2 o3 f0 f1 f2 f3 f4 f5 f6 f7 f8 f9 f10 f11 f12 f13 f14 ⊢
   have e1 := f1 (hd.at_ 1 rfl)
   have e5 := f5 (hd.at_ 5 rfl)
   have e9 := f9 (hd.at_ 9 rfl)
   have e13 := f13 (hd.at_ 13 rfl)
   have HF := Lib.hid (show (Below w.heap.size w W) ∧ (Blk W w.heap.size 26 #[.int .i64 m.fountains, .slice Av nv cv, .slice Aa na ca, .slice At nt ct]) ∧ (L 15 = false → Blk W (w.heap.size + 1) 26 #[.int .i64 0, .slice none 0 0, .slice none 0 0, .slice none 0 0]) ∧ (L 15 = true → Blk W (w.heap.size + 1) 26 #[.int .i64 m.fountains, .slice gh.A1 nv gh.c1, .slice gh.A2 na gh.c2, .slice gh.A3 nt gh.c3]) ∧ (L 2 = true → L 5 = false → Own W (w.heap.size + 2) 80 2 (some ⟨gh.e1, 0, none⟩) 0 0 []) ∧ (L 6 = true → L 9 = false → Own W (w.heap.size + 2) 67 4 (some ⟨gh.e2, 0, none⟩) 0 0 []) ∧ (L 10 = true → L 13 = false → Own W (w.heap.size + 2) 65 6 (some ⟨gh.e3, 0, none⟩) 0 0 []) ∧ (L 5 = true → Own W (w.heap.size + 2) 80 2 gh.A1 nv gh.c1 (m.vessels.flatMap Vess.vals)) ∧ (L 9 = true → Own W (w.heap.size + 2) 67 4 gh.A2 na gh.c2 (m.acts.flatMap MAct.vals)) ∧ (L 13 = true → Own W (w.heap.size + 2) 65 6 gh.A3 nt gh.c3 (m.tastes.flatMap Tast.vals)) ∧ (L 0 = true → s 3 = .pointer (some ⟨w.heap.size, 0, none⟩)) ∧ (L 1 = true → s 4 = .int .i64 m.fountains) ∧ (L 2 = true → s 5 = .slice (some ⟨gh.e1, 0, none⟩) 0 0) ∧ (L 3 = true → s 6 = .pointer (some ⟨w.heap.size, 1, none⟩)) ∧ (L 4 = true → s 7 = .slice Av nv cv) ∧ (L 5 = true → s 8 = .slice gh.A1 nv gh.c1) ∧ (L 6 = true → s 9 = .slice (some ⟨gh.e2, 0, none⟩) 0 0) ∧ (L 7 = true → s 10 = .pointer (some ⟨w.heap.size, 2, none⟩)) ∧ (L 8 = true → s 11 = .slice Aa na ca) ∧ (L 9 = true → s 12 = .slice gh.A2 na gh.c2) ∧ (L 10 = true → s 13 = .slice (some ⟨gh.e3, 0, none⟩) 0 0) ∧ (L 11 = true → s 14 = .pointer (some ⟨w.heap.size, 3, none⟩)) ∧ (L 12 = true → s 15 = .slice At nt ct) ∧ (L 13 = true → s 16 = .slice gh.A3 nt gh.c3) ∧ (L 14 = true → s 17 = .agg #[.int .i64 m.fountains, .slice gh.A1 nv gh.c1, .slice gh.A2 na gh.c2, .slice gh.A3 nt gh.c3]) from ⟨g1, m0, gz0, gz1, q1, q2, q3, o1, o2, o3, f0, f1, f2, f3, f4, f5, f6, f7, f8, f9, f10, f11, f12, f13, f14⟩)
   clear f14 f13 f12 f11 f10 f9 f8 f7 f6 f5 f4 f3 f2 f1 f0 o3 o2 o1 q3 q2 q1 gz1 gz0 m0 g1 hd
   try simp only at e1 e5 e9 e13 ⊢
   gi_wp2
   obtain ⟨g1, m0, gz0, gz1, q1, q2, q3, o1, o2, o3, f0, f1, f2, f3, f4, f5, f6, f7, f8, f9, f10, f11, f12, f13, f14⟩ := HF.out
   exact hK (gh, (upd (upd (upd (upd (upd s 4 (.int .i64 m.fountains)) 8 (.slice gh.A1 nv gh.c1)) 12 (.slice gh.A2 na gh.c2)) 16 (.slice gh.A3 nt gh.c3)) 17 (.agg #[.int .i64 m.fountains, .slice gh.A1 nv gh.c1, .slice gh.A2 na gh.c2, .slice gh.A3 nt gh.c3]))) _ ⟨g1, m0, gz0, gz1, q1, q2, q3, o1, o2, o3, f0, (fun _ => rfl), f2, f3, f4, (fun _ => rfl), f6, f7, f8, (fun _ => rfl), f10, f11, f12, (fun _ => rfl), (fun _ => rfl)⟩
  ·rintro L ⟨gh, s⟩ W hu hd hdn ⟨g1, m0, gz0, gz1, q1, q2, q3, o1, o2, o3, f0, f1, f2, f3, f4, f5, f6, f7, f8, f9, f10, f11, f12, f13, f14⟩ K Q hK
   try dsimp only at g1 m0 gz0 gz1 q1 q2 q3 o1 o2 o3 f0 f1 f2 f3 f4 f5 f6 f7 f8 f9 f10 f11 f12 f13 f14 ⊢
   have e14 := f14 (hd.at_ 14 rfl)
   have MB := gz0 hu
   have y0 := MB.cell 0
   have z0 := MB.frozen 0
   have y1 := MB.cell 1
   have z1 := MB.frozen 1
   have y2 := MB.cell 2
   have z2 := MB.frozen 2
   have y3 := MB.cell 3
   have z3 := MB.frozen 3
   have rl := MB.lt
   have HMB := Lib.hid MB
   clear MB
   have HD5 := Lib.hid (hd.at_ 5 rfl)
   have HD9 := Lib.hid (hd.at_ 9 rfl)
   have HD13 := Lib.hid (hd.at_ 13 rfl)
   have HF := Lib.hid (show (Below w.heap.size w W) ∧ (Blk W w.heap.size 26 #[.int .i64 m.fountains, .slice Av nv cv, .slice Aa na ca, .slice At nt ct]) ∧ (L 15 = false → Blk W (w.heap.size + 1) 26 #[.int .i64 0, .slice none 0 0, .slice none 0 0, .slice none 0 0]) ∧ (L 15 = true → Blk W (w.heap.size + 1) 26 #[.int .i64 m.fountains, .slice gh.A1 nv gh.c1, .slice gh.A2 na gh.c2, .slice gh.A3 nt gh.c3]) ∧ (L 2 = true → L 5 = false → Own W (w.heap.size + 2) 80 2 (some ⟨gh.e1, 0, none⟩) 0 0 []) ∧ (L 6 = true → L 9 = false → Own W (w.heap.size + 2) 67 4 (some ⟨gh.e2, 0, none⟩) 0 0 []) ∧ (L 10 = true → L 13 = false → Own W (w.heap.size + 2) 65 6 (some ⟨gh.e3, 0, none⟩) 0 0 []) ∧ (L 5 = true → Own W (w.heap.size + 2) 80 2 gh.A1 nv gh.c1 (m.vessels.flatMap Vess.vals)) ∧ (L 9 = true → Own W (w.heap.size + 2) 67 4 gh.A2 na gh.c2 (m.acts.flatMap MAct.vals)) ∧ (L 13 = true → Own W (w.heap.size + 2) 65 6 gh.A3 nt gh.c3 (m.tastes.flatMap Tast.vals)) ∧ (L 0 = true → s 3 = .pointer (some ⟨w.heap.size, 0, none⟩)) ∧ (L 1 = true → s 4 = .int .i64 m.fountains) ∧ (L 2 = true → s 5 = .slice (some ⟨gh.e1, 0, none⟩) 0 0) ∧ (L 3 = true → s 6 = .pointer (some ⟨w.heap.size, 1, none⟩)) ∧ (L 4 = true → s 7 = .slice Av nv cv) ∧ (L 5 = true → s 8 = .slice gh.A1 nv gh.c1) ∧ (L 6 = true → s 9 = .slice (some ⟨gh.e2, 0, none⟩) 0 0) ∧ (L 7 = true → s 10 = .pointer (some ⟨w.heap.size, 2, none⟩)) ∧ (L 8 = true → s 11 = .slice Aa na ca) ∧ (L 9 = true → s 12 = .slice gh.A2 na gh.c2) ∧ (L 10 = true → s 13 = .slice (some ⟨gh.e3, 0, none⟩) 0 0) ∧ (L 11 = true → s 14 = .pointer (some ⟨w.heap.size, 3, none⟩)) ∧ (L 12 = true → s 15 = .slice At nt ct) ∧ (L 13 = true → s 16 = .slice gh.A3 nt gh.c3) ∧ (L 14 = true → s 17 = .agg #[.int .i64 m.fountains, .slice gh.A1 nv gh.c1, .slice gh.A2 na gh.c2, .slice gh.A3 nt gh.c3]) from ⟨g1, m0, gz0, gz1, q1, q2, q3, o1, o2, o3, f0, f1, f2, f3, f4, f5, f6, f7, f8, f9, f10, f11, f12, f13, f14⟩)
   clear f14 f13 f12 f11 f10 f9 f8 f7 f6 f5 f4 f3 f2 f1 f0 o3 o2 o1 q3 q2 q1 gz1 gz0 m0 g1 hd
   try simp only at e14 ⊢
   gi_wp2
   obtain ⟨g1, m0, gz0, gz1, q1, q2, q3, o1, o2, o3, f0, f1, f2, f3, f4, f5, f6, f7, f8, f9, f10, f11, f12, f13, f14⟩ := HF.out
   have R4 := ret4' HMB.out (Below.refl (w.heap.size + 1) W) (Nat.le_refl _) (.int .i64 m.fountains) (.slice gh.A1 nv gh.c1) (.slice gh.A2 na gh.c2) (.slice gh.A3 nt gh.c3)
   have hne : ∀ {e : TypeId} {size n cap : Nat} {A : Option Addr} {xs : List Value}, Own W (w.heap.size + 2) e size A n cap xs → ∀ a, A = some a → some a.block ≠ some (w.heap.size + 1) := fun ho a ha e => by have := (ho.lt ha).1; have := Option.some.inj e; omega
   exact hK (gh, (upd s 17 (.agg #[.int .i64 m.fountains, .slice gh.A1 nv gh.c1, .slice gh.A2 na gh.c2, .slice gh.A3 nt gh.c3]))) _ ⟨(g1.trans (R4.2.1.mono (by omega))), (m0.grown R4.2.2 (by simp)), (fun h => by cases h), (fun _ => R4.1), (fun _ h => absurd (HD5.out.symm.trans h) (by decide)), (fun _ h => absurd (HD9.out.symm.trans h) (by decide)), (fun _ h => absurd (HD13.out.symm.trans h) (by decide)), (fun h => (o1 h).grown R4.2.2 (hne (o1 h))), (fun h => (o2 h).grown R4.2.2 (hne (o2 h))), (fun h => (o3 h).grown R4.2.2 (hne (o3 h))), f0, f1, f2, f3, f4, f5, f6, f7, f8, f9, f10, f11, f12, f13, (fun _ => rfl)⟩
 ·rintro L ⟨gh, s⟩ W hall ⟨g1, m0, gz0, gz1, q1, q2, q3, o1, o2, o3, f0, f1, f2, f3, f4, f5, f6, f7, f8, f9, f10, f11, f12, f13, f14⟩
  have GO1 := Lib.hid (o1 (hall 5 (by decide)))
  have GO2 := Lib.hid (o2 (hall 9 (by decide)))
  have GO3 := Lib.hid (o3 (hall 13 (by decide)))
  have GZ := Lib.hid (gz1 (hall 15 (by decide)))
  have G1 := Lib.hid g1
  clear f14 f13 f12 f11 f10 f9 f8 f7 f6 f5 f4 f3 f2 f1 f0 o3 o2 o1 q3 q2 q1 gz1 gz0 m0 g1 hall
  simp only
  gi_wp2
  have v0 := GZ.out.cell 0
  have v1 := GZ.out.cell 1
  have v2 := GZ.out.cell 2
  have v3 := GZ.out.cell 3
  refine bodyPost_ret (v := .agg #[.int .i64 m.fountains, .slice gh.A1 nv gh.c1, .slice gh.A2 na gh.c2, .slice gh.A3 nt gh.c3]) (by simp [results, Try.results8, go_sem, v0, v1, v2, v3]) rfl ?_
  exact ⟨gh.A1, gh.c1, gh.A2, gh.c2, gh.A3, gh.c3, rfl, ⟨GO1.out.mono (by omega), GO2.out.mono (by omega), GO3.out.mono (by omega)⟩, G1.out⟩

end Go.Proofs.Ythofngceiecniaa
/- The answer's SameInts, Great, Same. -/
namespace Go.Proofs.Ythofngceiecniaa
open Go.RowKit

def greatB (nv na nt : Nat) : Bool := decide (8 < nv) || decide (24 < na) || decide (16 < nt)
set_option maxHeartbeats 1000000 in
theorem great_any (f : Int) (Av : Option Addr) (nv cv : Nat) (Aa : Option Addr) (na ca : Nat) (At : Option Addr) (nt ct : Nat) (w : World) :
  Calls Try.prog 7 #[.agg #[.int .i64 f, .slice Av nv cv, .slice Aa na ca, .slice At nt ct]] w fun e w' => e = .returned (.bool (greatB nv na nt)) ∧ Below w.heap.size w w' := by
 by_cases h1 : 8 < nv
 ·have HG : Hid (greatB nv na nt = true) := by show _ = _; unfold greatB; simp [h1]
  have h1' : (8 : Int) < (nv : Int) := by omega
  clear h1
  go_enter Try.func7, Try.ntmps7
  go_wp2_with fail
  go_ret
  exact ⟨ret_bool HG.out.symm, (Below.refl _ _).alloc (Nat.le_refl _) _⟩
 ·have h1' : decide ((8 : Int) < (nv : Int)) = false := by simp; omega
  by_cases h2 : 24 < na
  ·have HG : Hid (greatB nv na nt = true) := by show _ = _; unfold greatB; simp [h2]
   have h2' : (24 : Int) < (na : Int) := by omega
   clear h1 h2
   go_enter Try.func7, Try.ntmps7
   go_wp2_with fail
   go_ret
   exact ⟨ret_bool HG.out.symm, (Below.refl _ _).alloc (Nat.le_refl _) _⟩
  ·have h2' : decide ((24 : Int) < (na : Int)) = false := by simp; omega
   by_cases h3 : 16 < nt
   ·have HG : Hid (greatB nv na nt = true) := by show _ = _; unfold greatB; simp [h3]
    have h3' : (16 : Int) < (nt : Int) := by omega
    clear h1 h2 h3
    go_enter Try.func7, Try.ntmps7
    go_wp2_with fail
    go_ret
    exact ⟨ret_bool HG.out.symm, (Below.refl _ _).alloc (Nat.le_refl _) _⟩
   ·have HG : Hid (greatB nv na nt = false) := by show _ = _; unfold greatB; simp [h1, h2, h3]
    have h3' : ¬ (16 : Int) < (nt : Int) := by omega
    clear h1 h2 h3
    go_enter Try.func7, Try.ntmps7
    go_wp2_with fail
    go_ret
    exact ⟨ret_bool HG.out.symm, (Below.refl _ _).alloc (Nat.le_refl _) _⟩
theorem eqi_run4 (d : Nat) (a b : Int) (w : World) : (Op.equalIn (d+1) 3 (.int .i64 a) (.int .i64 b)).run Try.prog w = .ok (a == b) w := by
 simp [Op.equalIn, run_underlying Try.underlying3]
theorem eq_vess_run (a0 a1 : Int) (w : World) : (Op.equalIn 10000 80 (.agg #[.int .i64 a0, .int .i64 a1]) (.agg #[.int .i64 a0, .int .i64 a1])).run Try.prog w = .ok true w := by
 rw [Op.equalIn]
 simp [go_sem, run_underlying Try.underlying80, eqi_run4, Std.Legacy.Range.forIn_eq_forIn_range', part]
theorem eq_act_run (a0 a1 a2 a3 : Int) (w : World) : (Op.equalIn 10000 67 (.agg #[.int .i64 a0, .int .i64 a1, .int .i64 a2, .int .i64 a3]) (.agg #[.int .i64 a0, .int .i64 a1, .int .i64 a2, .int .i64 a3])).run Try.prog w = .ok true w := by
 rw [Op.equalIn]
 simp [go_sem, run_underlying Try.underlying67, eqi_run4, Std.Legacy.Range.forIn_eq_forIn_range', part]
theorem eq_tast_run (a0 a1 a2 a3 a4 a5 : Int) (w : World) : (Op.equalIn 10000 65 (.agg #[.int .i64 a0, .int .i64 a1, .int .i64 a2, .int .i64 a3, .int .i64 a4, .int .i64 a5]) (.agg #[.int .i64 a0, .int .i64 a1, .int .i64 a2, .int .i64 a3, .int .i64 a4, .int .i64 a5])).run Try.prog w = .ok true w := by
 rw [Op.equalIn]
 simp [go_sem, run_underlying Try.underlying65, eqi_run4, Std.Legacy.Range.forIn_eq_forIn_range', part]
set_option maxRecDepth 100000 in
set_option maxHeartbeats 8000000 in
theorem same_true (Av : Option Addr) (nv cv : Nat) (Aa : Option Addr) (na ca : Nat) (At : Option Addr) (nt ct : Nat) (Bv : Option Addr) (dv : Nat) (Ba : Option Addr) (da : Nat) (Bt : Option Addr) (dt : Nat) (m : Mix) (w : World) (h1 : MixS w Av nv Aa na At nt m) (h2 : MixS w Bv nv Ba na Bt nt m) :
  Calls Try.prog 13 #[.agg #[.int .i64 m.fountains, .slice Av nv cv, .slice Aa na ca, .slice At nt ct], .agg #[.int .i64 m.fountains, .slice Bv nv dv, .slice Ba na da, .slice Bt nt dt]] w fun e w' => e = .returned (.bool true) ∧ Below w.heap.size w w' := by
 have HM := Lib.hid h1
 have HN := Lib.hid h2
 have hnv := h1.hv
 have hna := h1.ha
 have hnt := h1.ht
 clear h1 h2
 have e0 : ((nv : Int) == (nv : Int)) = true := by simp
 have e1 : ((na : Int) == (na : Int)) = true := by simp
 have e2 : ((nt : Int) == (nt : Int)) = true := by simp
 have hr0 := eq_vess_run
 have hr1 := eq_act_run
 have hr2 := eq_tast_run
 go_enter Try.func13, Try.ntmps13
 go_wp2_with fail
 have X0 := (Blk.new w 26 #[.int .i64 m.fountains, .slice Av nv cv, .slice Aa na ca, .slice At nt ct]).alloc (.cells #[.int .i64 m.fountains, .slice Bv nv dv, .slice Ba na da, .slice Bt nt dt] 26)
 have Y0 := Blk.new (w.alloc (.cells #[.int .i64 m.fountains, .slice Av nv cv, .slice Aa na ca, .slice At nt ct] 26)) 26 #[.int .i64 m.fountains, .slice Bv nv dv, .slice Ba na da, .slice Bt nt dt]
 have B0 : Below w.heap.size w ((w.alloc (.cells #[.int .i64 m.fountains, .slice Av nv cv, .slice Aa na ca, .slice At nt ct] 26)).alloc (.cells #[.int .i64 m.fountains, .slice Bv nv dv, .slice Ba na da, .slice Bt nt dt] 26)) := ((Below.refl _ _).alloc (Nat.le_refl _) _).alloc (by simp) _
 rw [World.size_alloc] at Y0
 generalize ((w.alloc (.cells #[.int .i64 m.fountains, .slice Av nv cv, .slice Aa na ca, .slice At nt ct] 26)).alloc (.cells #[.int .i64 m.fountains, .slice Bv nv dv, .slice Ba na da, .slice Bt nt dt] 26)) = w0 at *
 have HX0 := Lib.hid X0
 have HY0 := Lib.hid Y0
 have HB0 := Lib.hid B0
 clear X0 Y0 B0
 go_loopw [5] (fun i wr => ∃ k : Nat, k ≤ nv ∧ i = .int .i64 k ∧ Below w0.heap.size w0 wr)
  (fun i _ => nv - (intOf i).toNat)
 case atStart => exact ⟨0, by omega, rfl, Below.refl _ _⟩
 case round =>
  obtain ⟨k, hk, rfl, hbel⟩ := hrel
  have X0 := HX0.out.below hbel HX0.out.lt
  have Y0 := HY0.out.below hbel HY0.out.lt
  have B0 := HB0.out.trans (hbel.mono HB0.out.size)
  have x0 := X0.cell 1
  have y0 := Y0.cell 1
  have x1 := X0.cell 2
  have y1 := Y0.cell 2
  by_cases hlt : k < nv
  ·obtain ⟨b1, o1, x, rfl, hb1, hx, c0, c1⟩ := (HM.out.at_.below B0).vess hlt
   obtain ⟨b2, o2, y, rfl, hb2, hy, d0, d1⟩ := (HN.out.at_.below B0).vess hlt
   obtain rfl : x = y := by rw [hx] at hy; exact Option.some.inj hy
   have HX := Lib.hid hx
   clear hx hy
   have kI : (k : Int) < (nv : Int) := by omega
   have k0 : (0 : Int) ≤ (k : Int) := by omega
   go_wp2_with fail
   go_quiet (fail)
   go_wp2_with fail
   go_roundw
   case rel => exact ⟨k + 1, by omega, by go_num, below_drewN hbel _⟩
   case measure => simp [intOf]; omega
  ·
   have hke : k = nv := by omega
   clear hbel
   go_wp2_with fail
   clear x0 y0 x1 y1
   clear HX0 HY0 HB0
   generalize wr = wra at *
   have HX1 := Lib.hid X0
   have HY1 := Lib.hid Y0
   have HB1 := Lib.hid B0
   clear X0 Y0 B0
   go_loopw [6] (fun i wr => ∃ k : Nat, k ≤ na ∧ i = .int .i64 k ∧ Below wra.heap.size wra wr)
    (fun i _ => na - (intOf i).toNat)
   case atStart => exact ⟨0, by omega, rfl, Below.refl _ _⟩
   case round =>
    obtain ⟨k, hk, rfl, hbel⟩ := hrel
    have X0 := HX1.out.below hbel HX1.out.lt
    have Y0 := HY1.out.below hbel HY1.out.lt
    have B0 := HB1.out.trans (hbel.mono HB1.out.size)
    have x0 := X0.cell 2
    have y0 := Y0.cell 2
    have x1 := X0.cell 3
    have y1 := Y0.cell 3
    by_cases hlt : k < na
    ·obtain ⟨b1, o1, x, rfl, hb1, hx, c0, c1, c2, c3⟩ := (HM.out.at_.below B0).act hlt
     obtain ⟨b2, o2, y, rfl, hb2, hy, d0, d1, d2, d3⟩ := (HN.out.at_.below B0).act hlt
     obtain rfl : x = y := by rw [hx] at hy; exact Option.some.inj hy
     have HX := Lib.hid hx
     clear hx hy
     have kI : (k : Int) < (na : Int) := by omega
     have k0 : (0 : Int) ≤ (k : Int) := by omega
     go_wp2_with fail
     go_quiet (fail)
     go_wp2_with fail
     go_roundw
     case rel => exact ⟨k + 1, by omega, by go_num, below_drewN hbel _⟩
     case measure => simp [intOf]; omega
    ·
     have hke : k = na := by omega
     clear hbel
     go_wp2_with fail
     clear x0 y0 x1 y1
     clear HX1 HY1 HB1
     generalize wr = wrb at *
     have HX2 := Lib.hid X0
     have HY2 := Lib.hid Y0
     have HB2 := Lib.hid B0
     clear X0 Y0 B0
     go_loopw [7] (fun i wr => ∃ k : Nat, k ≤ nt ∧ i = .int .i64 k ∧ Below wrb.heap.size wrb wr)
      (fun i _ => nt - (intOf i).toNat)
     case atStart => exact ⟨0, by omega, rfl, Below.refl _ _⟩
     case round =>
      obtain ⟨k, hk, rfl, hbel⟩ := hrel
      have X0 := HX2.out.below hbel HX2.out.lt
      have Y0 := HY2.out.below hbel HY2.out.lt
      have B0 := HB2.out.trans (hbel.mono HB2.out.size)
      have x0 := X0.cell 3
      have y0 := Y0.cell 3
      by_cases hlt : k < nt
      ·obtain ⟨b1, o1, x, rfl, hb1, hx, c0, c1, c2, c3, c4, c5⟩ := (HM.out.at_.below B0).tast hlt
       obtain ⟨b2, o2, y, rfl, hb2, hy, d0, d1, d2, d3, d4, d5⟩ := (HN.out.at_.below B0).tast hlt
       obtain rfl : x = y := by rw [hx] at hy; exact Option.some.inj hy
       have HX := Lib.hid hx
       clear hx hy
       have kI : (k : Int) < (nt : Int) := by omega
       have k0 : (0 : Int) ≤ (k : Int) := by omega
       go_wp2_with fail
       go_quiet (fail)
       go_wp2_with fail
       go_roundw
       case rel => exact ⟨k + 1, by omega, by go_num, below_drewN hbel _⟩
       case measure => simp [intOf]; omega
      ·
       have hke : k = nt := by omega
       clear hbel
       go_wp2_with fail
       go_ret
       exact ⟨rfl, B0⟩
end Go.Proofs.Ythofngceiecniaa
/- The answer's within, and Index. -/
namespace Go.Proofs.Ythofngceiecniaa
open Go.RowKit

def wiB (n lo hi : Int) : Bool := decide (lo ≤ n ∧ n ≤ hi)
theorem within_any (n lo hi : Int) (w : World) : Calls Try.prog 46 #[.int .i64 n, .int .i64 lo, .int .i64 hi] w fun e w' => e = .returned (.bool (wiB n lo hi)) ∧ w = w' := by
 by_cases h1 : lo ≤ n
 all_goals
  go_enter Try.func46, Try.ntmps46
  go_wp2_with fail
  go_ret
  refine ⟨ret_bool ?_, rfl⟩
  unfold wiB
  by_cases h2 : n ≤ hi <;> simp [h1, h2]
set_option maxRecDepth 100000 in
set_option maxHeartbeats 4000000 in
theorem rindex_any (Av : Option Addr) (nv cv : Nat) (Aa : Option Addr) (na ca : Nat) (At : Option Addr) (nt ct : Nat) (m : Mix) (id : Int) (w : World) (h : MixS w Av nv Aa na At nt m) :
  Calls Try.prog 58 #[.agg #[.int .i64 m.fountains, .slice Av nv cv, .slice Aa na ca, .slice At nt ct], .int .i64 id] w fun e w' => e = .returned (.int .i64 (idxV m.vessels id)) ∧ Below w.heap.size w w' := by
 have HM := Lib.hid h
 have hnv := h.hv
 have HLV := Lib.hid h.at_.lenV
 clear h
 go_enter Try.func58, Try.ntmps58
 go_wp2_with fail
 have HB := Lib.hid ((Below.refl w.heap.size w).alloc (Nat.le_refl _) (.cells #[.int .i64 m.fountains, .slice Av nv cv, .slice Aa na ca, .slice At nt ct] 26))
 have HX := Lib.hid (Blk.new w 26 #[.int .i64 m.fountains, .slice Av nv cv, .slice Aa na ca, .slice At nt ct])
 generalize w.alloc (.cells #[.int .i64 m.fountains, .slice Av nv cv, .slice Aa na ca, .slice At nt ct] 26) = w0 at *
 go_loop [5] (fun i => ∃ k : Nat, k ≤ nv ∧ i = .int .i64 k ∧ (∀ y ∈ m.vessels.take k, (y.id == id) = false)) (fun i => nv - (intOf i).toNat)
 case atStart => exact ⟨0, by omega, rfl, by simp⟩
 case round =>
  obtain ⟨k, hk, rfl, hno⟩ := hrel
  have HN := Lib.hid hno
  clear hno
  have x1 : w0.cell? ⟨w.heap.size, 1, none⟩ = some (.slice Av nv cv) := HX.out.cell 1
  have xl := HX.out.lt
  by_cases hlt : k < nv
  ·obtain ⟨b, off, x, rfl, hbB, hx, hc0, hc1⟩ := (HM.out.at_.below HB.out).vess hlt
   have HV := Lib.hid hx
   clear hx
   cases hp : (x.id == id) with
   | true =>
    have HP := Lib.hid hp
    have hp2 : x.id = id := by simpa using hp
    have HE := Lib.hid (idxV_some HV.out HP.out HN.out)
    subst hp2
    clear hp
    go_wp2_with fail
    go_ret
    exact ⟨ret_int HE.out.symm, HB.out⟩
   | false =>
    have HP := Lib.hid hp
    go_wp2_with fail
    go_round
    case rel => exact ⟨k + 1, by omega, by go_num, take_snoc_all HV.out HP.out HN.out⟩
    case measure => simp [intOf]; omega
  ·go_wp2_with fail
   go_ret
   exact ⟨ret_int (idxV_none (by
    have := HN.out
    rwa [List.take_of_length_le (by have := HLV.out; omega)] at this)).symm, HB.out⟩
end Go.Proofs.Ythofngceiecniaa
