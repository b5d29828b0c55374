/- Part 7 of the texts of this claim, joined. -/
import Derived.Sort.CutIn
import Derived.Test.YthofngceiecniaaMxM6
set_option linter.unusedVariables false
/- How much of a fountain an act moves: mix.Moved. -/
namespace Go.Proofs.Ythofngceiecniaa
open Go.RowKit
attribute [local go_sem] Oper.semAt_some

def MovAt (T : Tb) (f : Int) (k : Nat) (x : MAct) (all s : Held) (n : Int) : Prop := ((spanP T.m x f all s).1 ≤ n ∧ n ≤ (spanP T.m x f all s).2) ∧ Truth T.m f T.L (k + 1) (shiftH s (fromI T.m x) (toI T.m x) n)
def MovQ (T : Tb) (f : Int) (k : Nat) (x : MAct) (all : Held) (n : Int) : Prop := ∃ y : D4, Truth T.m f T.L k y.toH ∧ MovAt T f k x all y.toH n
theorem leaves_marksI {F : Fence} {n : Nat} {P : Program} {fn : Func} {tmps : Array Value} {R : Ending → World → Prop} {B : Nat} {I : World → Prop} (hI : ∀ W r, I W → W.heap[r]? = some (.deferred (some [])) → B ≤ r → I (W.putObj r (.deferred none))) : ∀ (ds : List Deferred) (w : World), Marks B w ds → I w →
  (∀ w', I w' → LeavesIn F n P fn tmps R [] .returning w') → LeavesInM F n P fn tmps R ds .returning w
 | [], w, _, hi, h => h w hi
 | d :: ds, w, ⟨⟨r, h1, h2, h3, h4⟩, h5⟩, hi, h => by
  refine ⟨by simp, .inl ⟨r, _, h2, run_takeDeferred h3, ?_⟩⟩
  refine leaves_marksI hI ds _ (h5.keep fun d' hd r' hr h0 => ?_) (hI _ _ hi h3 h1) h
  have hne : r' ≠ r := by
   intro e
   subst e
   exact h4 d' hd hr
  exact (World.putObj_heap_other hne).trans h0
theorem span13 {T : Tb} {k : Nat} {x : MAct} {all s : Held} {f : Int} (hA : ActAt T k x all) (hf : Fits all s) (hv : T.m.vessels.length ≤ 4) : ((spanP T.m x f all s).2 + 1 - (spanP T.m x f all s).1).toNat ≤ 13 := by
 unfold spanP
 by_cases h0 : 0 ≤ fromI T.m x
 ·rw [if_pos h0]
  have h1 := fromI_small (m := T.m) hv x
  have h2 := hA.rng (fromI T.m x).toNat
  have h3 := hf.le (fromI T.m x).toNat (by omega)
  rw [Int.toNat_of_nonneg h0] at h2 h3
  dsimp only
  omega
 ·rw [if_neg h0]
  split <;> dsimp only <;> omega
/-- A growth: what lay below n₀ stays, and all cells but a collector's. -/
def UpK (n₀ : Nat) (A C : World) : Prop := (n₀ ≤ A.heap.size → Below n₀ A C ∧ KeepsT A C) ∧ A.heap.size ≤ C.heap.size
instance upk_grows (n₀ : Nat) : Gr.Grows (UpK n₀) where
 refl := fun W => ⟨fun _ => ⟨Below.refl _ _, fun _ _ _ _ _ _ h => h⟩, Nat.le_refl _⟩
 trans := fun h k => ⟨fun hn => ⟨(h.1 hn).1.trans (k.1 (Nat.le_trans hn h.2)).1, fun b cs t fr h1 h2 h3 => (k.1 (Nat.le_trans hn h.2)).2 b cs t fr h1 h2 ((h.1 hn).2 b cs t fr h1 h2 h3)⟩, Nat.le_trans h.2 k.2⟩
 below := fun h => ⟨fun hn => ⟨h.mono hn, keepsT_below h⟩, h.size⟩
 size := fun h => h.2
theorem roundIn_wide {m m' : Nat} {P : Program} {l l' : Nat} {f : FuncId} {tmps : Array Value} {assign body : Code} {w : World} {R : Ending → World → Prop} (h : RoundIn Fence.wide m P l f tmps assign body w R) : RoundIn (Fence.wide.inRound l') m' P l f tmps assign body w R :=
 ⟨trivial, fun c cs _ => h.2 c cs (fun d hd => by cases hd)⟩
theorem Marks.keepFrom {B : Nat} {w w' : World} : ∀ {ds : List Deferred}, Marks B w ds → KeepsFrom B w w' → Marks B w' ds
 | [], _, _ => trivial
 | d :: ds, ⟨⟨r, h1, h2, h3, h4⟩, h5⟩, hk => ⟨⟨r, h1, h2, hk.same _ _ h1 h3 rfl, h4⟩, Marks.keepFrom h5 hk⟩
inductive FrV (v0 v1 v2 v3 v4 v5 v17 : Value) (ds : List Deferred) : Act → Prop
 | mk (u6 u7 u8 u9 u10 u11 u12 u13 u14 u15 u16 u18 u19 u20 u21 u22 u23 u24 u25 u26 u27 u28 u29 u30 u31 u32 u33 u34 u35 u36 u37 u38 u39 u40 u41 u42 u43 u44 : Value) : FrV v0 v1 v2 v3 v4 v5 v17 ds { tmps := #[v0, v1, v2, v3, v4, v5, u6, u7, u8, u9, u10, u11, u12, u13, u14, u15, u16, v17, u18, u19, u20, u21, u22, u23, u24, u25, u26, u27, u28, u29, u30, u31, u32, u33, u34, u35, u36, u37, u38, u39, u40, u41, u42, u43, u44], defers := ds }
inductive FrW (v1 v2 v5 v7 v8 : Value) (ds : List Deferred) : Act → Prop
 | mk (u0 u3 u4 u6 u9 u10 u11 u12 u13 u14 u15 u16 u17 u18 u19 u20 u21 u22 u23 u24 u25 u26 u27 u28 u29 u30 u31 u32 u33 u34 u35 u36 u37 u38 u39 u40 u41 u42 u43 u44 : Value) : FrW v1 v2 v5 v7 v8 ds { tmps := #[u0, v1, v2, u3, u4, v5, u6, v7, v8, u9, u10, u11, u12, u13, u14, u15, u16, u17, u18, u19, u20, u21, u22, u23, u24, u25, u26, u27, u28, u29, u30, u31, u32, u33, u34, u35, u36, u37, u38, u39, u40, u41, u42, u43, u44], defers := ds }

set_option maxRecDepth 100000 in
set_option maxHeartbeats 16000000 in
theorem moved1_own (n : Nat) (hn : 3 ≤ n) (gU : Nat) (T : Tb) (f : Int) (A : Option Addr) (nt c : Nat) (rs : List Nat) (ms : List (List (D4 × Bool))) (g1 g2 g3 g4 k rk rn : Nat) (mk mn : List (D4 × Bool)) (x : MAct) (all : Held) (w : World) (hT : TrAt w gU T f A nt c rs ms)
  (h1 : Blk w g1 86 #[.pointer (some ⟨gU, 0, none⟩)]) (h2 : Blk w g2 3 #[.int .i64 ((k : Int) + 1)]) (h3 : Blk w g3 82 #[.pointer (some ⟨T.g, 0, none⟩)]) (h4 : Blk w g4 3 #[.int .i64 f]) (hok : TbOk T) (hA : ActAt T k x all)
  (hrk : rs[k]? = some rk) (hmk : ms[k]? = some mk) (hrn : rs[k + 1]? = some rn) (hmn : ms[k + 1]? = some mn) (hck : CanIs mk (Truth T.m f T.L k)) (hcn : CanIs mn (Truth T.m f T.L (k + 1))) :
  SeqOwn Fence.wide n Try.prog 43 #[.pointer (some ⟨g1, 0, none⟩), .pointer (some ⟨g2, 0, none⟩), .pointer (some ⟨g3, 0, none⟩), .pointer (some ⟨g4, 0, none⟩)] (encI (P := MovQ T f k x all)) (KeepB w.heap.size) PAll (mk.length * 13) w := by
 intro l J w0 hW hJ hY h0
 have hmf : ∀ (fn : Fn) (first cap : Array Value) (w : World), (Instr.makeFunc fn first cap).run Try.prog w = .ok (.func fn first cap) w := fun _ _ _ _ => rfl
 have HJ := Lib.hid hJ
 have HY := Lib.hid hY
 have H0 := Lib.hid h0
 have HT := Lib.hid hT
 have H1 := Lib.hid h1
 have H2 := Lib.hid h2
 have H3 := Lib.hid h3
 have H4 := Lib.hid h4
 have HOK := Lib.hid hok
 have HAT := Lib.hid hA
 have HMK := Lib.hid hmk
 have HMN := Lib.hid hmn
 have HCK := Lib.hid hck
 have HCN := Lib.hid hcn
 have HRK := Lib.hid hrk
 have HRN := Lib.hid hrn
 have HW := Lib.hid hW
 have hk12 : k ≤ 12 := by have h1 := (List.getElem?_eq_some_iff.1 hA.hx).1; have h2 := hok.acts; omega
 have HK12 := Lib.hid hk12
 have hb0 : Below w0.heap.size w0 (w0.alloc (.cells #[.func (.yield l) #[] #[]] 90)) := (Below.refl _ _).alloc (Nat.le_refl _) _
 have h5 := Blk.new w0 90 #[.func (.yield l) #[] #[]]
 have hz5 : w0.heap.size < (w0.alloc (.cells #[.func (.yield l) #[] #[]] 90)).heap.size := by simp
 have hja : J [] (w0.alloc (.cells #[.func (.yield l) #[] #[]] 90)) := hJ [] w0 _ none h0 (grown_of_below hb0 none) (fun r e => by cases e)
 clear hJ hY h0 hT h1 h2 h3 h4 hok hA hmk hmn hck hcn hrk hrn hW
 refine callsIn_of_wp_marks Try.func43 rfl trivial ?_ rfl
 simp only [Try.ntmps43, List.size_toArray, List.length_cons, List.length_nil, Nat.reduceAdd, Nat.reduceSub, Array.replicate_succ, Array.replicate_zero, List.push_toArray, List.append_toArray, List.nil_append, List.cons_append]
 gi_upto_region 1 with fail
 obtain ⟨g5, hg5⟩ : ∃ g, w0.heap.size = g := ⟨_, rfl⟩
 have HG5 := Lib.hid hg5
 rw [hg5] at h5 ⊢
 generalize (w0.alloc (.cells #[.func (.yield l) #[] #[]] 90)) = wa at *
 have hWa := HW.out.trans (hb0.mono HW.out.size)
 have HB5 := Lib.hid h5
 have HJA := Lib.hid hja
 have HWA := Lib.hid hWa
 clear hg5 h5 hb0 hja
 have hrd := (HT.out.below hWa).rd
 obtain ⟨g, off, hA2, hgl, hrd2⟩ := Reads.plain hrd (by have := (List.getElem?_eq_some_iff.1 HRK.out).1; simp; omega)
 have q9 := hrd2 k (canV rk) (by rw [List.getElem?_map, HRK.out]; rfl)
 have hrn2 : w.heap.size ≤ wa.heap.size := hWa.size
 obtain ⟨g', off', hA3, hgl', hrd3⟩ := Reads.plain HT.out.rd (by have := (List.getElem?_eq_some_iff.1 HRK.out).1; simp; omega)
 have q10 := hrd3 (k + 1) (canV rn) (by rw [List.getElem?_map, HRN.out]; rfl)
 obtain ⟨rfl, rfl⟩ : g = g' ∧ off = off' := by rw [hA2] at hA3; simpa using hA3
 have HQN : Hid (w.cell? ⟨g, off + (k + 1), none⟩ = some (.map (some rn)) ∧ g < w.heap.size) := Lib.hid ⟨q10, hgl'⟩
 unfold canV at q9
 subst hA2
 have hkn : k + 1 < nt := by have h1 := HT.out.rd.1; have h2 := (List.getElem?_eq_some_iff.1 HRN.out).1; simp at h1; omega
 have HKN := Lib.hid hkn
 obtain ⟨w1, hr1, hi1, hg1, hs1⟩ := MapIs.range (P := Try.prog) (t := 92) Try.underlying92 (show CanMap wa.drew rk mk from (HT.out.below hWa).maps k rk mk HRK.out HMK.out)
 have q0 := (HT.out.below hWa).blk.cell 2
 have q1 := (H1.out.below hWa H1.out.lt).cell 0
 have q2 := (H2.out.below hWa H2.out.lt).cell 0
 have l0 := (HT.out.below hWa).blk.lt
 have l1 := (H1.out.below hWa H1.out.lt).lt
 have l2 := (H2.out.below hWa H2.out.lt).lt
 unfold trC at q0
 clear hWa hrd hrd2 hrd3 q10 hA3 hgl'
 have e1 : (k : Int) + 1 - 1 = k := by omega
 gi_region
 clear q0 q1 q2 q9 l0 l1 l2 hr1 hgl e1
 have hb1 : Below wa.heap.size wa w1 := (below_drewN (Below.refl wa.heap.size wa) 1).grown hg1 (Nat.le_refl _) (fun k e => by cases e)
 replace hi1 : IterIs D4.key Value.bool okD w1 wa.heap.size rk mk mk := hi1
 have hj1 : J [] w1 := HJ.out [] wa w1 none HJA.out (grown_of_below hb1 none) (fun r e => by cases e)
 have HB1 := Lib.hid (HWA.out.trans (hb1.mono HWA.out.size))
 replace HB5 := Lib.hid (HB5.out.below hb1 HB5.out.lt)
 have hit0 : w0.heap.size ≤ wa.heap.size := Nat.le_of_lt hz5
 obtain ⟨it, hit⟩ : ∃ i, wa.heap.size = i := ⟨_, rfl⟩
 rw [hit] at hi1 hit0 ⊢
 have HIT := Lib.hid hit0
 have HI1 := Lib.hid hi1
 have HJ1 := Lib.hid hj1
 clear hg1 hs1 hi1 hj1 hb1 hit0 hz5 hkn hrn2 hit
 gi_wp2
 refine wpIn_loop (fun a W => ∃ (left : List (D4 × Bool)) (vis : List D4) (pre : List (Pn (MovQ T f k x all))) (ds : List Deferred), Hid (IterIs D4.key Value.bool okD W it rk mk left ∧ J pre W ∧ Below w.heap.size w W ∧ Blk W g5 90 #[.func (.yield l) #[] #[]] ∧ Marks w0.heap.size W ds ∧ pre.length + left.length * 13 ≤ mk.length * 13 ∧ (vis ++ left.map Prod.fst).Perm (mk.map Prod.fst) ∧ ∀ n, (∃ y ∈ vis, MovAt T f k x all y.toH n) → ∃ z ∈ pre, z.1 = n) ∧ FrV (.func (.yield l) #[] #[]) (.pointer (some ⟨g1, 0, none⟩)) (.pointer (some ⟨g2, 0, none⟩)) (.pointer (some ⟨g3, 0, none⟩)) (.pointer (some ⟨g4, 0, none⟩)) (.pointer (some ⟨g5, 0, none⟩)) (.pointer (some ⟨it, 0, none⟩)) ds a)
  (fun _ W => iterLeft W it) ?_ ?_
 ·exact ⟨mk, [], [], [], Lib.hid ⟨HI1.out, HJ1.out, HB1.out, HB5.out, trivial, by simp, by simp, fun n ⟨y, hy, _⟩ => by cases hy⟩, by constructor⟩
 clear HB1 HI1 HJ1 HB5 HJA HWA
 rintro a W ⟨left, vis, pre, ds, HS, ha⟩
 cases ha
 rcases HS.out.1.next (P := Try.prog) 0 with ⟨hl, hr⟩ | ⟨i, ⟨y, v⟩, w2, hp, hr, hi2, hg2, hs2, he2⟩
 ·gi_wp2
  subst hl
  refine leaves_marksI (B := w0.heap.size) (I := fun W' => J pre W') (fun W' r h1 h2 h3 => HJ.out pre W' _ (some r) h1 (grownBy_putObj' W' r _) (fun r' e => by cases e; exact ⟨h3, _, h2, rfl⟩)) _ _ HS.out.2.2.2.2.1 HS.out.2.1 ?_
  intro w' hj
  refine ⟨.tuple #[], results_none rfl _ _ _, ⟨_, rfl⟩, pre, fun n ⟨y, hy, hm⟩ => HS.out.2.2.2.2.2.2.2 n ⟨y, ?_, hm⟩, hj⟩
  obtain ⟨v, hv⟩ := (HCK.out.keys y).2 hy
  have hpm := HS.out.2.2.2.2.2.2.1
  rw [List.map_nil, List.append_nil] at hpm
  exact hpm.mem_iff.2 (List.mem_map.2 ⟨_, hv, rfl⟩)
 obtain ⟨v', hym⟩ := HS.out.1.sub (List.mem_of_getElem? hp)
 have hyP : Truth T.m f T.L k y.toH := (HCK.out.keys y).1 ⟨v', hym⟩
 have hfit : Fits all y.toH := hyP.fits HOK.out.all HOK.out.vess HAT.out.ha
 obtain ⟨x1, x2, x3, x4, ho⟩ := IterIs.obj HS.out.1
 have hj2 : J pre w2 := HJ.out pre W w2 _ HS.out.2.1 hg2 (fun r e => by cases e; exact ⟨HIT.out, _, ho, rfl⟩)
 have hb2 : Below w.heap.size w w2 := HS.out.2.2.1.grown hg2 HS.out.2.2.1.size (fun k e => by cases e; exact Nat.le_trans HW.out.size HIT.out)
 have h52 := HS.out.2.2.2.1.grown hg2 (fun e => blk_not HS.out.2.2.2.1 ho rfl (Option.some.inj e))
 have hm2 : Marks w0.heap.size w2 ds := HS.out.2.2.2.2.1.keep fun d hd r hr' h0' => (hg2.block r (Array.getElem?_eq_some_iff.1 h0').1 (fun e => by
  rw [Option.some.inj e, ho] at h0'
  cases h0')).trans h0'
 obtain ⟨s, hs⟩ : ∃ s, y.toH = s := ⟨_, rfl⟩
 replace hr : (Instr.next (.pointer (some ⟨it, 0, none⟩)) false 0).run Try.prog W = .ok (.tuple #[.bool true, .agg #[.int .i64 (heldAt s 0), .int .i64 (heldAt s 1), .int .i64 (heldAt s 2), .int .i64 (heldAt s 3)], .bool v]) w2 := by rw [← hs]; exact hr
 replace he2 : (Instr.entry (.pointer (some ⟨it, 0, none⟩))).run Try.prog w2 = .ok (.tuple #[.agg #[.int .i64 (heldAt s 0), .int .i64 (heldAt s 1), .int .i64 (heldAt s 2), .int .i64 (heldAt s 3)], .bool v]) w2 := by rw [← hs]; exact he2
 rw [hs] at hyP hfit
 have HYP := Lib.hid hyP
 have HSY := Lib.hid hs
 have HFI := Lib.hid hfit
 have HI2 := Lib.hid hi2
 have HJ2 := Lib.hid hj2
 have HB2 := Lib.hid hb2
 have HP := Lib.hid hp
 have H52 := Lib.hid h52
 have HM2 := Lib.hid hm2
 have HLW := Lib.hid HS.out.1.left_eq
 have HLEN : Hid (pre.length + left.length * 13 ≤ mk.length * 13) := Lib.hid HS.out.2.2.2.2.2.1
 have HPM : Hid ((vis ++ left.map Prod.fst).Perm (mk.map Prod.fst)) := Lib.hid HS.out.2.2.2.2.2.2.1
 have HQI : Hid (∀ n, (∃ y ∈ vis, MovAt T f k x all y.toH n) → ∃ z ∈ pre, z.1 = n) := Lib.hid HS.out.2.2.2.2.2.2.2
 clear hyP hs hi2 hj2 hb2 hp hg2 hs2 ho hym hfit h52 hm2 HS
 have q2 := (H2.out.below HB2.out H2.out.lt).cell 0
 have q3 := (H3.out.below HB2.out H3.out.lt).cell 0
 have q4 := (H4.out.below HB2.out H4.out.lt).cell 0
 have l2 := (H2.out.below HB2.out H2.out.lt).lt
 have l3 := (H3.out.below HB2.out H3.out.lt).lt
 have l4 := (H4.out.below HB2.out H4.out.lt).lt
 have hk12 := HK12.out
 have e1 : (k : Int) + 1 - 1 = k := by omega
 gi_wp2
 clear hr he2 q2 q3 q4 l2 l3 l4 e1
 have hb3 : Below w2.heap.size w2 (w2.alloc (.cells #[.int .i64 (heldAt s 0), .int .i64 (heldAt s 1), .int .i64 (heldAt s 2), .int .i64 (heldAt s 3)] 97)) := (Below.refl _ _).alloc (Nat.le_refl _) _
 generalize (w2.alloc (.cells #[.int .i64 (heldAt s 0), .int .i64 (heldAt s 1), .int .i64 (heldAt s 2), .int .i64 (heldAt s 3)] 97)) = w3 at *
 refine ⟨trivial, fun _ => by omega, (callsIn_wide.2 (moves_any T k f s w3)).mono ?_⟩
 rintro e w4 ⟨rfl, hlay⟩
 have hb4 : Below w2.heap.size w2 w4 := hb3.trans (hlay.1.mono hb3.size)
 have HJ4 : Hid (J pre w4) := Lib.hid (HJ.out pre w2 w4 none HJ2.out (grown_of_below hb4 none) (fun r e => by cases e))
 have HI4 := Lib.hid (HI2.out.below hb4 HI2.out.map.lt HI2.out.lt)
 have HB4 := Lib.hid (HB2.out.trans (hb4.mono HB2.out.size))
 have H54 := Lib.hid (H52.out.below hb4 H52.out.lt)
 have HM4 := Lib.hid (HM2.out.below hb4)
 have HMV := Lib.hid (MvIn.of_lay hlay (HT.out.tb.below (HB2.out.trans (hb3.mono HB2.out.size))))
 have hz4 : w0.heap.size ≤ w4.heap.size := by have := HI4.out.lt; have := HIT.out; omega
 have HZ4 := Lib.hid hz4
 clear hb3 hb4 hlay HJ2 HI2 HB2 H52 HM2 hz4
 obtain ⟨g0, hg0⟩ : ∃ g0, w3.heap.size = g0 := ⟨_, rfl⟩
 rw [hg0] at HMV ⊢
 clear hg0
 gi_wp2
 have hlo13 : ((spanP T.m x f all s).2 + 1 - (spanP T.m x f all s).1).toNat ≤ 13 := span13 HAT.out HFI.out HOK.out.vess
 have HLO := Lib.hid hlo13
 have hws : w.heap.size ≤ w4.heap.size := HB4.out.size
 have hit4 := HI4.out.lt
 have hrk4 := HI4.out.map.lt
 have hdl := HM4.out.lt
 obtain ⟨P0, hP0⟩ : ∃ P0, pre.length = P0 := ⟨_, rfl⟩
 have HP0 := Lib.hid hP0
 clear hP0 hlo13
 refine wpIn_rangeFunc_ownH rfl (by omega) (gf := 90) (lb := #[.pointer (some ⟨g0, 0, none⟩), .pointer (some ⟨g0 + 1, 0, none⟩), .pointer (some ⟨g0 + 1 + 1 + 1, 0, none⟩), .pointer (some ⟨g0 + 1 + 1, 0, none⟩)]) rfl trivial (enters_of Try.func90 (by kernel_rfl) rfl)
  (moves1_stops (n - 1) (by omega) T HOK.out k x all HAT.out f s HFI.out g0 (g0 + 1) (g0 + 1 + 1) (g0 + 1 + 1 + 1) w4 HMV.out) (fun h k h2 => k (h h2)) blk_put (Below.refl _ _) (fun _ => rfl)
  (fun ys Wr => w4.heap.size ≤ Wr.heap.size ∧ ∃ pre, IterIs D4.key Value.bool okD Wr it rk mk (left.eraseIdx i) ∧ J pre Wr ∧ Below w.heap.size w Wr ∧ Blk Wr g5 90 #[.func (.yield l) #[] #[]] ∧ Marks w0.heap.size Wr ds ∧ Blk Wr (g0 + 1 + 1 + 1) 97 #[.int .i64 (heldAt s 0), .int .i64 (heldAt s 1), .int .i64 (heldAt s 2), .int .i64 (heldAt s 3)] ∧ pre.length ≤ P0 + ys.length ∧ ys.length ≤ 13 ∧ ∀ n, ((∃ y ∈ vis, MovAt T f k x all y.toH n) ∨ (n ∈ ys.map Subtype.val ∧ Truth T.m f T.L (k + 1) (shiftH s (fromI T.m x) (toI T.m x) n))) → ∃ z ∈ pre, z.1 = n)
  (fun cd pre Wr => False)
  (fun ys Wr Wr' row h hg hr => by
   obtain ⟨hz, pre, h1, h2, h3, h4, h5, h6, h7⟩ := h
   have hsh := shut_of_grown hg hr hz
   exact ⟨Nat.le_trans hz hsh.below.size, pre, h1.below hsh.below hrk4 hit4, HJ.out pre Wr Wr' row h2 hg (fun r e => ⟨Nat.le_trans HZ4.out (hr r e).1, (hr r e).2⟩), h3.trans (hsh.below.mono hws), hsh.blk h4, h5.shut hsh hdl, hsh.blk h6, h7⟩)
  (fun cd => ownFrom_shut (fun pre Wr h => h.elim) (fun pre Wr Wr' h hs => h))
  ⟨Nat.le_refl _, pre, HI4.out, HJ4.out, HB4.out, H54.out, HM4.out, HMV.out.h, by rw [HP0.out]; exact Nat.le_refl _, Nat.zero_le _, fun n h => HQI.out n (h.resolve_right fun h => by cases h.1)⟩
  (fun y a' Wr => ∃ Bx, w4.heap.size ≤ Bx ∧ Blk Wr Bx 97 #[.int .i64 (heldAt (shiftH s (fromI T.m x) (toI T.m x) y.1) 0), .int .i64 (heldAt (shiftH s (fromI T.m x) (toI T.m x) y.1) 1), .int .i64 (heldAt (shiftH s (fromI T.m x) (toI T.m x) y.1) 2), .int .i64 (heldAt (shiftH s (fromI T.m x) (toI T.m x) y.1) 3)] ∧ FrW (.pointer (some ⟨g1, 0, none⟩)) (.pointer (some ⟨g2, 0, none⟩)) (.pointer (some ⟨g5, 0, none⟩)) (.int .i64 y.1) (.pointer (some ⟨Bx, 0, none⟩)) [] a')
  (fun y a' => ownFrom_shut (fun _ Wr h => by obtain ⟨Bx, h1, h2, _⟩ := h; exact Nat.le_trans h1 (Nat.le_of_lt h2.lt)) (fun _ Wr Wr' h hs => by obtain ⟨Bx, h1, h2, h3⟩ := h; exact ⟨Bx, h1, hs.blk h2, h3⟩)) ?assign ?body ?done ?stop
 case stop =>
  rintro D cd pre Wr _ _ h _
  exact h.elim
 case assign =>
  rintro l' ys ⟨j, hj⟩ Wr K ⟨hz, pre, h1, h2, h3, h4, h5, h6, h7⟩ hK
  unfold Mv.enc
  gi_wp2
  have hb : Below Wr.heap.size Wr (Wr.alloc (.cells #[.int .i64 (heldAt (shiftH s (fromI T.m x) (toI T.m x) j) 0), .int .i64 (heldAt (shiftH s (fromI T.m x) (toI T.m x) j) 1), .int .i64 (heldAt (shiftH s (fromI T.m x) (toI T.m x) j) 2), .int .i64 (heldAt (shiftH s (fromI T.m x) (toI T.m x) j) 3)] 97)) := (Below.refl _ _).alloc (Nat.le_refl _) _
  exact hK _ _ (keepsFrom_below hb) (fun h => h.below hb h.lt) ⟨Nat.le_trans hz hb.size, pre, h1.below hb h1.map.lt h1.lt, HJ.out pre Wr _ none h2 (grown_of_below hb none) (fun r e => by cases e), h3.trans (hb.mono h3.size), h4.below hb h4.lt, h5.below hb, h6.below hb h6.lt, h7⟩ ⟨Wr.heap.size, hz, Blk.new Wr _ _, by constructor⟩
 case done =>
  rintro D ys Wr hD hys ⟨hz, pre2, h1, h2, h3, h4, h5, h6, h7, h8, h9⟩ hK
  gi_wp2
  refine ⟨⟨left.eraseIdx i, vis ++ [y], pre2, _, Lib.hid ⟨h1, h2, h3, h4, h5.more (Nat.le_trans HZ4.out hD) hK (fun dd hd r hr => Nat.lt_of_lt_of_le (hdl dd hd r hr) hD) #[], ?_, ?_, fun n hn => h9 n ?_⟩, by constructor⟩, ?_⟩
  ·have h10 := (List.getElem?_eq_some_iff.1 HP.out).1
   have h11 := HLEN.out
   have h12 := HP0.out
   rw [List.length_eraseIdx_of_lt h10]
   omega
  ·have h10 := (perm_erase HP.out).map Prod.fst
   rw [List.append_assoc]
   exact (List.Perm.append_left vis h10).trans HPM.out
  ·obtain ⟨z, hz2, hm⟩ := hn
   rcases List.mem_append.1 hz2 with hz2 | hz2
   ·exact .inl ⟨z, hz2, hm⟩
   ·obtain rfl := List.mem_singleton.1 hz2
    rw [HSY.out] at hm
    obtain ⟨z2, hz3, e2⟩ := hys n hm.1.1 hm.1.2
    exact .inr ⟨List.mem_map.2 ⟨z2, hz3, e2⟩, hm.2⟩
  ·rw [h1.left_eq, HLW.out]
   have h10 := (List.getElem?_eq_some_iff.1 HP.out).1
   rw [List.length_eraseIdx_of_lt h10]
   omega
 case body =>
  rintro l' ys ⟨j, hj⟩ a' Wr hl ⟨r, hrr⟩ ⟨hz, pre2, h1, h2, h3, h4, h5, h6, h7, h8, h9⟩ ⟨Bx, hBx, bX, ha'⟩ hlen
  cases ha'
  have hfs := (fits_moves HAT.out.ok HFI.out HOK.out.vess hj).2.2
  have hod := okD_fits hfs (allM_range HOK.out.all HOK.out.vess (okMix_ves HOK.out.ok) HAT.out.next).2
  obtain ⟨s2, hs2⟩ : ∃ s2, shiftH s (fromI T.m x) (toI T.m x) j = s2 := ⟨_, rfl⟩
  dsimp only at bX
  have hs2l : (ofH s2).toH = s2 := toH_ofH (by rw [← hs2]; unfold shiftH; rw [give_len, take_len]; exact HFI.out.lh)
  rw [hs2] at bX hod
  obtain ⟨bt, hbt, hlk⟩ : ∃ bt : Bool, (bt = true ↔ Truth T.m f T.L (k + 1) s2) ∧ ∀ W', Below w.heap.size w W' → (Instr.lookup 92 (.map (some rn)) (.agg #[.int .i64 (heldAt s2 0), .int .i64 (heldAt s2 1), .int .i64 (heldAt s2 2), .int .i64 (heldAt s2 3)]) false).run Try.prog W' = .ok (.bool bt) W' := by
   have hmap : CanMap w rn mn := HT.out.maps (k + 1) rn mn HRN.out HMN.out
   by_cases ht : Truth T.m f T.L (k + 1) s2
   ·refine ⟨true, by simp [ht], fun W' hW' => ?_⟩
    have h5 := (hmap.below hW' hmap.lt).lookup canTy hod false
    rw [HCN.out.look_some (by rw [hs2l]; exact ht)] at h5
    exact h5
   ·refine ⟨false, by simp [ht], fun W' hW' => ?_⟩
    have h5 := (hmap.below hW' hmap.lt).lookup canTy hod false
    rw [HCN.out.look_none (by rw [hs2l]; exact ht)] at h5
    exact h5
  have HBT := Lib.hid hbt
  have HLK := Lib.hid hlk
  have HS2 := Lib.hid hs2
  have HBX := Lib.hid bX
  have H1R := Lib.hid h1
  have HJR := Lib.hid h2
  have HBR := Lib.hid h3
  have H5R := Lib.hid h4
  have HMR := Lib.hid h5
  have H6R := Lib.hid h6
  have HLR := Lib.hid (And.intro h7 (And.intro h8 hlen))
  have H9R := Lib.hid h9
  have HZR := Lib.hid hz
  clear hfs hod hs2 hs2l hbt hlk bX h1 h2 h3 h4 h5 h6 h7 h8 h9 hz hrr hlen
  cases bt with
  | false =>
   gi_wp2
   refine wpIn_flow_old [] [true, true, true, true, true, true, true, true, true, true, true, true, true, true, true] [] (by kernel_rfl) (by kernel_rfl) (by kernel_rfl) (below_drewN (Below.refl _ _) 1) ?_
   refine wpFlow_nil (A := ?AFa) ?hqa ?_
   case hqa =>
    rintro σ hσ of hof hcl
    have HOF : Hid (∀ z, Below Wr.heap.size Wr (of z)) := Lib.hid hof
    clear hof hcl
    have hbz : ∀ z, Below w.heap.size w (of z) := fun z => HBR.out.trans ((HOF.out z).mono HBR.out.size)
    have hkz : ∀ z, KeepsT Wr (of z) := fun z => keepsT_below (HOF.out z)
    have q1 : ∀ z, (of z).cell? ⟨g1, 0, none⟩ = some (.pointer (some ⟨gU, 0, none⟩)) := fun z => (H1.out.below (hbz z) H1.out.lt).cell 0
    have q2 : ∀ z, (of z).cell? ⟨g2, 0, none⟩ = some (.int .i64 ((k : Int) + 1)) := fun z => (H2.out.below (hbz z) H2.out.lt).cell 0
    have q0 : ∀ z, (of z).cell? ⟨gU, 2, none⟩ = some (.slice (some ⟨g, off, none⟩) nt c) := fun z => (HT.out.blk.below (hbz z) HT.out.blk.lt).cell 2
    have q9 : ∀ z, (of z).cell? ⟨g, off + (k + 1), none⟩ = some (.map (some rn)) := fun z => ((hbz z).cell (p := ⟨g, off + (k + 1), none⟩) HQN.out.2).trans HQN.out.1
    have q5 : ∀ z, (of z).cell? ⟨g5, 0, none⟩ = some (.func (.yield l) #[] #[]) := fun z => (show Blk (of z) g5 90 #[.func (.yield l) #[] #[]] from hkz z _ _ _ _ (by decide) (by decide) H5R.out).cell 0
    have hbx : ∀ z, Blk (of z) Bx 97 #[.int .i64 (heldAt s2 0), .int .i64 (heldAt s2 1), .int .i64 (heldAt s2 2), .int .i64 (heldAt s2 3)] := fun z => hkz z _ _ _ _ (by decide) (by decide) HBX.out
    have y0 := fun z => (hbx z).cell 0
    have y1 := fun z => (hbx z).cell 1
    have y2 := fun z => (hbx z).cell 2
    have y3 := fun z => (hbx z).cell 3
    have hlk : ∀ z, (Instr.lookup 92 (.map (some rn)) (.agg #[.int .i64 (heldAt s2 0), .int .i64 (heldAt s2 1), .int .i64 (heldAt s2 2), .int .i64 (heldAt s2 3)]) false).run Try.prog (of z) = .ok (.bool false) (of z) := fun z => HLK.out _ (hbz z)
    have hij : (k : Int) + 1 < nt := by have := HKN.out; omega
    have hn1 : ((k : Int) + 1).toNat = k + 1 := by omega
    have hfw : ∀ f, Fence.wide.fn f := fun _ => trivial
    clear hbx
    simp only [pickB]
    repeat (gi_big_quiet_step (fail))
    refine wpQuietIn_nil ?_
    exact rfl
   intro V hW
   simp only [pickB]
   refine wpT_nil ?_
   gi_wp2
   have hnt : ¬ Truth T.m f T.L (k + 1) s2 := fun h => by have := HBT.out.2 h; cases this
   refine ⟨keepsFrom_below hW, fun h => h.below hW h.lt, Nat.le_trans HZR.out hW.size, pre2, H1R.out.below hW H1R.out.map.lt H1R.out.lt, HJ.out pre2 Wr V none HJR.out (grown_of_below hW none) (fun r e => by cases e), HBR.out.trans (hW.mono HBR.out.size), H5R.out.below hW H5R.out.lt, HMR.out.below hW, H6R.out.below hW H6R.out.lt, ?_, ?_, fun n hn => H9R.out n ?_⟩
   ·have h10 := HLR.out; simp; omega
   ·have h10 := HLR.out; have h11 := HLO.out; simp; omega
   ·rcases hn with h | ⟨h, ht⟩
    ·exact .inl h
    ·rw [List.map_append, List.mem_append] at h
     rcases h with h | h
     ·exact .inr ⟨h, ht⟩
     ·obtain rfl : n = j := by simpa using h
      rw [HS2.out] at ht
      exact absurd ht hnt
  | true =>
   gi_wp2
   refine Gr.wpIn_flow_old (G := UpK w.heap.size) [([true, true, true, true, true, true, true, true, true, true, true, true], 12)] [false, false, false, false, false, false, false, false, false, false, false, false, false, true, true] [] (by kernel_rfl) (by kernel_rfl) (by kernel_rfl) (below_drewN (Below.refl _ _) 1) ?_
   refine Gr.wpFlow_cons (A := ?AFb) rfl ?hqb ?_
   case hqb =>
    rintro σ hσ of hof hcl
    have HOF : Hid (∀ z, UpK w.heap.size Wr (of z)) := Lib.hid hof
    clear hof hcl
    have hbz : ∀ z, Below w.heap.size w (of z) := fun z => HBR.out.trans ((HOF.out z).1 HBR.out.size).1
    have hkz : ∀ z, KeepsT Wr (of z) := fun z => ((HOF.out z).1 HBR.out.size).2
    have q1 : ∀ z, (of z).cell? ⟨g1, 0, none⟩ = some (.pointer (some ⟨gU, 0, none⟩)) := fun z => (H1.out.below (hbz z) H1.out.lt).cell 0
    have q2 : ∀ z, (of z).cell? ⟨g2, 0, none⟩ = some (.int .i64 ((k : Int) + 1)) := fun z => (H2.out.below (hbz z) H2.out.lt).cell 0
    have q0 : ∀ z, (of z).cell? ⟨gU, 2, none⟩ = some (.slice (some ⟨g, off, none⟩) nt c) := fun z => (HT.out.blk.below (hbz z) HT.out.blk.lt).cell 2
    have q9 : ∀ z, (of z).cell? ⟨g, off + (k + 1), none⟩ = some (.map (some rn)) := fun z => ((hbz z).cell (p := ⟨g, off + (k + 1), none⟩) HQN.out.2).trans HQN.out.1
    have q5 : ∀ z, (of z).cell? ⟨g5, 0, none⟩ = some (.func (.yield l) #[] #[]) := fun z => (show Blk (of z) g5 90 #[.func (.yield l) #[] #[]] from hkz z _ _ _ _ (by decide) (by decide) H5R.out).cell 0
    have hbx : ∀ z, Blk (of z) Bx 97 #[.int .i64 (heldAt s2 0), .int .i64 (heldAt s2 1), .int .i64 (heldAt s2 2), .int .i64 (heldAt s2 3)] := fun z => hkz z _ _ _ _ (by decide) (by decide) HBX.out
    have y0 := fun z => (hbx z).cell 0
    have y1 := fun z => (hbx z).cell 1
    have y2 := fun z => (hbx z).cell 2
    have y3 := fun z => (hbx z).cell 3
    have hlk : ∀ z, (Instr.lookup 92 (.map (some rn)) (.agg #[.int .i64 (heldAt s2 0), .int .i64 (heldAt s2 1), .int .i64 (heldAt s2 2), .int .i64 (heldAt s2 3)]) false).run Try.prog (of z) = .ok (.bool true) (of z) := fun z => HLK.out _ (hbz z)
    have hij : (k : Int) + 1 < nt := by have := HKN.out; omega
    have hn1 : ((k : Int) + 1).toNat = k + 1 := by omega
    have hfw : ∀ f, Fence.wide.fn f := fun _ => trivial
    clear hbx
    simp only [pickB]
    repeat (gi_big_quiet_step (fail))
    refine wpQuietIn_nil ?_
    exact rfl
   intro V1 hW
   have HJV : Hid (J pre2 V1) := Lib.hid (HJ.out pre2 Wr V1 none HJR.out (grown_of_below hW none) (fun r e => by cases e))
   have H1V := Lib.hid (H1R.out.below hW H1R.out.map.lt H1R.out.lt)
   have HBV := Lib.hid (HBR.out.trans (hW.mono HBR.out.size))
   have H5V := Lib.hid (H5R.out.below hW H5R.out.lt)
   have HMV1 := Lib.hid (HMR.out.below hW)
   have H6V := Lib.hid (H6R.out.below hW H6R.out.lt)
   have HKV := Lib.hid (keepsFrom_below (B := w4.heap.size) hW)
   have HZV := Lib.hid (Nat.le_trans HZR.out hW.size)
   clear hW
   have htt : Truth T.m f T.L (k + 1) s2 := by have h := HBT.out; simpa using h
   obtain ⟨fn, tmps, assign, body, hy, hR⟩ := HY.out pre2 ⟨j, y, by rw [HSY.out]; exact HYP.out, by rw [HSY.out]; exact ⟨hj, by rw [HS2.out]; exact htt⟩⟩ V1 HJV.out (by
    have h1 := HLR.out
    have h2 := HLO.out
    have h3 := HLEN.out
    have h4 := (List.getElem?_eq_some_iff.1 HP.out).1
    have h5 := HP0.out
    omega)
   unfold encI at hy
   dsimp only at hy
   have HR := Lib.hid hR
   clear hR
   gi_wp2
   refine ⟨fun _ => by omega, (roundIn_wide HR.out).mono ?_⟩
   rintro e V2 ⟨rfl, hJ2, hK2, hF2⟩
   have HJ2 := Lib.hid hJ2
   have HK2 := Lib.hid hK2
   have HF2 := Lib.hid hF2
   have hgr : UpK w.heap.size V1 V2 := ⟨fun _ => ⟨hK2.1, hK2.2.2⟩, hF2.size⟩
   have HGR := Lib.hid hgr
   clear hJ2 hK2 hF2 hgr hy
   gi_wp2
   refine ⟨trivial, HGR.out, ?_⟩
   refine Gr.wpFlow_nil (A := ?AFc) ?hqc ?_
   case hqc =>
    rintro σ hσ of hof hcl
    clear hof hcl
    simp only [pickB]
    repeat (gi_big_quiet_step (fail))
    refine wpQuietIn_nil ?_
    exact rfl
   intro V3 hW
   simp only [pickB]
   refine wpT_nil ?_
   gi_wp2
   have hI2 := H1V.out.walks HK2.out.2.1
   have h52 : Blk V2 g5 90 #[.func (.yield l) #[] #[]] := HK2.out.2.2 _ _ _ _ (by decide) (by decide) H5V.out
   have h62 : Blk V2 (g0 + 1 + 1 + 1) 97 #[.int .i64 (heldAt s 0), .int .i64 (heldAt s 1), .int .i64 (heldAt s 2), .int .i64 (heldAt s 3)] := HK2.out.2.2 _ _ _ _ (by decide) (by decide) H6V.out
   have hm2 : Marks w0.heap.size V2 ds := HMV1.out.keepFrom HF2.out
   have hb2 := HBV.out.trans HK2.out.1
   refine ⟨(HKV.out.trans (keepsMore HF2.out HZ4.out)).trans (keepsFrom_below hW), fun _ => h62.below hW h62.lt, Nat.le_trans HZV.out (Nat.le_trans HF2.out.size hW.size), pre2 ++ [⟨j, _⟩], hI2.below hW hI2.map.lt hI2.lt, HJ.out _ V2 V3 none HJ2.out (grown_of_below hW none) (fun r e => by cases e), hb2.trans (hW.mono hb2.size), h52.below hW h52.lt, hm2.below hW, h62.below hW h62.lt, ?_, ?_, fun n hn => ?_⟩
   ·have h10 := HLR.out; simp; omega
   ·have h10 := HLR.out; have h11 := HLO.out; simp; omega
   ·rcases hn with h | ⟨h, ht⟩
    ·obtain ⟨z, hz, e⟩ := H9R.out n (.inl h)
     exact ⟨z, List.mem_append_left _ hz, e⟩
    ·rw [List.map_append, List.mem_append] at h
     rcases h with h | h
     ·obtain ⟨z, hz, e⟩ := H9R.out n (.inr ⟨h, ht⟩)
      exact ⟨z, List.mem_append_left _ hz, e⟩
     ·obtain rfl : n = j := by simpa using h
      exact ⟨_, List.mem_append_right _ (List.mem_singleton_self _), rfl⟩

theorem enters_moved1 (args : Array Value) (W : World) : (callFunc 43 args).run Try.prog W = .ok (.enter 43 args) W := by
 simp [go_sem]
/-- What Moved hands back. -/
def MovedOut (w : World) (m : Mix) (act fountain : Int) (e : Ending) (w' : World) : Prop := ∃ lo hi ee : Int, e = .returned (.tuple #[.agg #[.int .i64 lo, .int .i64 hi], .int .i64 ee]) ∧ MovedIs m act fountain (lo, hi) ee ∧ Below w.heap.size w w'
theorem moved_bad {m : Mix} {act f : Int} (hk : okMix m = true) (h : ¬ ((1 ≤ act ∧ act ≤ m.acts.length) ∧ 1 ≤ f ∧ f ≤ m.fountains)) : MovedIs m act f (0, 0) 2 :=
 .inl ⟨by unfold actM; rw [if_pos hk, if_neg h]; decide, rfl, by unfold actM; rw [if_pos hk, if_neg h]⟩
theorem can_small' {m : Mix} {f : Int} {T : Tb} {k r : Nat} {W : World} {mk : List (D4 × Bool)} (hTm : T.m = m) (hok : TbOk T) (hk : k ≤ m.acts.length) (hm : CanMap W r mk) (hc : CanIs mk (Truth m f T.L k)) : mk.length ≤ 28561 := by
 subst hTm
 have hL : k < T.L.length := by have := hok.long; omega
 have hr := allM_range hok.all hok.vess (okMix_ves hok.ok) (List.getElem?_eq_getElem hL)
 exact can_len (MapIs.nodup canTy hm) (fun p hp => by
  have h1 := (hc.keys p.1).1 ⟨p.2, hp⟩
  have h2 := h1.fits hok.all hok.vess (List.getElem?_eq_getElem hL)
  have a0 := h2.le 0 (by decide)
  have a1 := h2.le 1 (by decide)
  have a2 := h2.le 2 (by decide)
  have a3 := h2.le 3 (by decide)
  have b0 := hr.2 0
  have b1 := hr.2 1
  have b2 := hr.2 2
  have b3 := hr.2 3
  have e0 : heldAt p.1.toH (0 : Nat) = p.1.a := rfl
  have e1 : heldAt p.1.toH (1 : Nat) = p.1.b := rfl
  have e2 : heldAt p.1.toH (2 : Nat) = p.1.c := rfl
  have e3 : heldAt p.1.toH (3 : Nat) = p.1.d := rfl
  omega)
theorem movq_some {T : Tb} {f : Int} {k : Nat} {x : MAct} {all : Held} (hok : TbOk T) (hA : ActAt T k x all) (ht : Truth T.m f T.L 0 zeroH) : ∃ n, MovQ T f k x all n := by
 have hk := (List.getElem?_eq_some_iff.1 hA.hx).1
 obtain ⟨s, hs⟩ := truth_all ht (Nat.le_of_lt hk)
 obtain ⟨s', hg, hs'⟩ := hs.next hk
 obtain ⟨j, h1, h2, e⟩ := (goes_at hA).1 hg
 have e2 := toH_ofH (hs.fits hok.all hok.vess hA.ha).lh
 exact ⟨j, ofH s, by rw [e2]; exact hs, by rw [e2]; exact ⟨⟨h1, h2⟩, by rw [← e]; exact hs'⟩⟩
theorem movq_movp {T : Tb} {m : Mix} {f : Int} {k : Nat} {x : MAct} {all : Held} (hTm : T.m = m) (hok : TbOk T) (hA : ActAt T k x all) : ∀ n, MovQ T f k x all n ↔ MovedP m ((k : Int) + 1) f T.L n := fun n => by
 subst hTm
 unfold MovQ MovAt MovedP
 have e1 : ((k : Int) + 1).toNat = k + 1 := by omega
 rw [e1, Nat.add_sub_cancel]
 constructor
 ·rintro ⟨y, h1, ⟨h2, h3⟩, h4⟩
  exact ⟨x, all, y.toH, hA.hx, hA.ha, h1, h2, h3, h4⟩
 ·rintro ⟨x2, all2, s, h1, h2, h3, h4, h5, h6⟩
  rw [hA.hx] at h1
  cases h1
  rw [hA.ha] at h2
  cases h2
  have e2 := toH_ofH (h3.fits hok.all hok.vess hA.ha).lh
  exact ⟨ofH s, by rw [e2]; exact h3, by rw [e2]; exact ⟨⟨h4, h5⟩, h6⟩⟩

set_option maxRecDepth 100000 in
set_option maxHeartbeats 8000000 in
theorem moved_any (Av : Option Addr) (nv cv : Nat) (Aa : Option Addr) (na ca : Nat) (At : Option Addr) (nt ct : Nat) (m : Mix) (act fountain : Int) (w : World) (h : MixS w Av nv Aa na At nt m) :
  CallsIn Fence.wide 9 Try.prog 9 #[.agg #[.int .i64 m.fountains, .slice Av nv cv, .slice Aa na ca, .slice At nt ct], .int .i64 act, .int .i64 fountain] w (MovedOut w m act fountain) := by
 have hmf : ∀ (fn : Fn) (first cap : Array Value) (w : World), (Instr.makeFunc fn first cap).run Try.prog w = .ok (.func fn first cap) w := fun _ _ _ _ => rfl
 have HM := Lib.hid h
 have HLA := Lib.hid h.at_.lenA
 clear h
 refine callsIn_of_wp Try.func9 rfl trivial ?_ rfl
 simp only [Try.ntmps9, List.size_toArray, List.length_cons, List.length_nil, Nat.reduceAdd, Nat.reduceSub, Array.replicate_succ, Array.replicate_zero, List.push_toArray, List.append_toArray, List.nil_append, List.cons_append]
 gi_upto_region 1 with fail
 have HLay := Lib.hid (Lay.four w 26 #[.int .i64 m.fountains, .slice Av nv cv, .slice Aa na ca, .slice At nt ct] 3 #[.int .i64 act] 3 #[.int .i64 fountain] 30 #[.int .i64 0, .int .i64 0])
 generalize ((((w.alloc (.cells #[.int .i64 m.fountains, .slice Av nv cv, .slice Aa na ca, .slice At nt ct] 26)).alloc (.cells #[.int .i64 act] 3)).alloc (.cells #[.int .i64 fountain] 3)).alloc (.cells #[.int .i64 0, .int .i64 0] 30)) = w0 at *
 have x0_0 := (HLay.out.blk 0 rfl).cell 0
 have x0_1 := (HLay.out.blk 0 rfl).cell 1
 have x0_2 := (HLay.out.blk 0 rfl).cell 2
 have x0_3 := (HLay.out.blk 0 rfl).cell 3
 have l0_ := HLay.out.lt 0 rfl
 gi_wp2
 clear x0_0 x0_1 x0_2 x0_3 l0_
 refine ⟨trivial, (callsIn_wide.2 (MixS.laid (HM.out.up HLay.out.1))).mono ?_⟩
 rintro e W1 ⟨pp, rfl, hb, hp⟩
 have HP := Lib.hid hp
 clear hp
 replace HLay := Lib.hid (HLay.out.below hb)
 clear hb
 cases hk : okMix m with
 | false =>
  have HF : Hid (MovedIs m act fountain (0, 0) 40) := Lib.hid (.inl ⟨by unfold actM; rw [if_neg (by rw [hk]; decide)]; decide, rfl, by unfold actM; rw [if_neg (by rw [hk]; decide)]⟩)
  clear hk HP
  gi_upto_region 2 with fail
  obtain ⟨V2, hV⟩ : ∃ V, (W1.alloc (.cells #[.pointer pp] 82)) = V := ⟨_, rfl⟩
  rw [hV]
  have hb := fbox_bel hV
  have hnew := fbox_blk hV
  have hge := HLay.out.bel.size
  replace HLay := Lib.hid (HLay.out.below hb)
  replace HLay := Lib.hid (HLay.out.add hge hnew)
  clear hnew hge hb hV
  obtain ⟨G3, hG⟩ : ∃ g, W1.heap.size = g := ⟨_, rfl⟩
  rw [hG] at HLay ⊢
  clear hG
  replace HLay := Lib.hid (show Lay w V2 [(w.heap.size, 26, #[.int .i64 m.fountains, .slice Av nv cv, .slice Aa na ca, .slice At nt ct]), (w.heap.size + 1, 3, #[.int .i64 act]), (w.heap.size + 1 + 1, 3, #[.int .i64 fountain]), (w.heap.size + 1 + 1 + 1, 30, #[.int .i64 0, .int .i64 0]), (G3, 82, #[.pointer pp])] from HLay.out)
  have x3_0 := (HLay.out.blk 3 rfl).cell 0
  have z3_0 := (HLay.out.blk 3 rfl).frozen 0
  have x3_1 := (HLay.out.blk 3 rfl).cell 1
  have z3_1 := (HLay.out.blk 3 rfl).frozen 1
  have l3_ := HLay.out.lt 3 rfl
  gi_wp2
  have R2 := ret2' (HLay.out.blk 3 rfl) HLay.out.1 (HLay.out.ge 3 rfl) (.int .i64 (0)) (.int .i64 (0))
  have v0 := R2.1.cell 0
  have v1 := R2.1.cell 1
  refine bodyPost_ret (v := .tuple #[.agg #[.int .i64 (0), .int .i64 (0)], .int .i64 (40)]) (by simp [results, Try.results9, go_sem, v0, v1]) rfl ?_
  exact ⟨_, _, _, rfl, HF.out, R2.2.1⟩
 | true =>
  obtain ⟨g, AA, nl, cl, L, rfl, hg, hL, hT⟩ := HP.out hk
  obtain ⟨T, hTT⟩ : ∃ T : Tb, T = ⟨g, Av, nv, cv, Aa, na, ca, At, nt, ct, AA, nl, cl, m, L⟩ := ⟨_, rfl⟩
  have hTg : g = T.g := by rw [hTT]
  have hTm : T.m = m := by rw [hTT]
  have HTL : Hid (allM m m.acts = some T.L) := Lib.hid (by rw [hTT]; exact hL)
  rw [← hTT] at hT
  subst hTg
  have HOK : Hid (TbOk T) := Lib.hid ⟨by rw [hTm]; exact hk, by rw [hTm]; exact HTL.out⟩
  have HK := Lib.hid hk
  have HT := Lib.hid hT.at_
  have HTM := Lib.hid hTm
  clear HP hTT hL hg hT hk hTm
  gi_upto_region 2 with fail
  obtain ⟨V4, hV⟩ : ∃ V, (W1.alloc (.cells #[.pointer (some ⟨T.g, 0, none⟩)] 82)) = V := ⟨_, rfl⟩
  rw [hV]
  have hb := fbox_bel hV
  have hnew := fbox_blk hV
  have hge := HLay.out.bel.size
  replace HLay := Lib.hid (HLay.out.below hb)
  replace HT := Lib.hid (HT.out.below hb)
  replace HLay := Lib.hid (HLay.out.add hge hnew)
  clear hnew hge hb hV
  obtain ⟨G5, hG⟩ : ∃ g, W1.heap.size = g := ⟨_, rfl⟩
  rw [hG] at HLay ⊢
  clear hG
  replace HLay := Lib.hid (show Lay w V4 [(w.heap.size, 26, #[.int .i64 m.fountains, .slice Av nv cv, .slice Aa na ca, .slice At nt ct]), (w.heap.size + 1, 3, #[.int .i64 act]), (w.heap.size + 1 + 1, 3, #[.int .i64 fountain]), (w.heap.size + 1 + 1 + 1, 30, #[.int .i64 0, .int .i64 0]), (G5, 82, #[.pointer (some ⟨T.g, 0, none⟩)])] from HLay.out)
  have x0_0 := (HLay.out.blk 0 rfl).cell 0
  have x0_1 := (HLay.out.blk 0 rfl).cell 1
  have x0_2 := (HLay.out.blk 0 rfl).cell 2
  have x0_3 := (HLay.out.blk 0 rfl).cell 3
  have l0_ := HLay.out.lt 0 rfl
  have x1_0 := (HLay.out.blk 1 rfl).cell 0
  have l1_ := HLay.out.lt 1 rfl
  gi_wp2
  clear x0_0 x0_1 x0_2 x0_3 l0_ x1_0 l1_
  have Y := IntsAt.new V4 3 [act] (V4.heap.size + 1) (by omega)
  have hb1 : Below V4.heap.size V4 (V4.alloc (.cells #[.int .i64 act] 3)) := (Below.refl _ _).alloc (Nat.le_refl _) _
  have hc := in_any 1 na (some ⟨V4.heap.size, 0, none⟩) 1 1 [act] _ (Y.more (by simp)) (by decide)
  refine ⟨trivial, (callsIn_wide.2 hc).mono ?_⟩
  clear hc Y
  rintro e W18 ⟨rfl, hb⟩
  have hbb := hb1.trans (hb.mono hb1.size)
  clear hb hb1
  replace HLay := Lib.hid (HLay.out.below hbb)
  replace HT := Lib.hid (HT.out.below hbb)
  clear hbb
  by_cases hr : 1 ≤ act ∧ act ≤ na
  ·
   have hi : inB 1 na [act] = true := by rw [inB_one]; exact decide_eq_true hr
   rw [hi]
   have HR := Lib.hid hr
   clear hr hi
   have x0_0 := (HLay.out.blk 0 rfl).cell 0
   have x0_1 := (HLay.out.blk 0 rfl).cell 1
   have x0_2 := (HLay.out.blk 0 rfl).cell 2
   have x0_3 := (HLay.out.blk 0 rfl).cell 3
   have l0_ := HLay.out.lt 0 rfl
   have x2_0 := (HLay.out.blk 2 rfl).cell 0
   have l2_ := HLay.out.lt 2 rfl
   gi_wp2
   clear x0_0 x0_1 x0_2 x0_3 l0_ x2_0 l2_
   have Y := IntsAt.new W18 3 [fountain] (W18.heap.size + 1) (by omega)
   have hb1 : Below W18.heap.size W18 (W18.alloc (.cells #[.int .i64 fountain] 3)) := (Below.refl _ _).alloc (Nat.le_refl _) _
   have hc := in_any 1 m.fountains (some ⟨W18.heap.size, 0, none⟩) 1 1 [fountain] _ (Y.more (by simp)) (by decide)
   refine ⟨trivial, (callsIn_wide.2 hc).mono ?_⟩
   clear hc Y
   rintro e W19 ⟨rfl, hb⟩
   have hbb := hb1.trans (hb.mono hb1.size)
   clear hb hb1
   replace HLay := Lib.hid (HLay.out.below hbb)
   replace HT := Lib.hid (HT.out.below hbb)
   clear hbb
   by_cases hq : 1 ≤ fountain ∧ fountain ≤ m.fountains
   ·
    have hi : inB 1 m.fountains [fountain] = true := by rw [inB_one]; exact decide_eq_true hq
    rw [hi]
    have HAM : Hid (actM m act fountain = 0) := Lib.hid (by unfold actM; rw [if_pos HK.out, if_pos ⟨by rw [HLA.out]; exact HR.out, hq⟩])
    clear hq hi
    have x2_0 := (HLay.out.blk 2 rfl).cell 0
    have l2_ := HLay.out.lt 2 rfl
    have x4_0 := (HLay.out.blk 4 rfl).cell 0
    have l4_ := HLay.out.lt 4 rfl
    gi_wp2
    clear x2_0 l2_ x4_0 l4_
    have HTD := Lib.hid HT.out
    refine ⟨trivial, (callsIn_wide.2 (callsIn_wide.1 (told_in T fountain W19 HTD.out HOK.out))).mono ?_⟩
    rintro e W6 ⟨gU, b, A, n, c, rs, ms, rfl, hb, htr, hn, hcan, hb0⟩
    have HTR := Lib.hid htr
    have HN := Lib.hid hn
    have HCN := Lib.hid hcan
    have HBB := Lib.hid hb0
    clear htr hn hcan hb0
    replace HLay := Lib.hid (HLay.out.below hb)
    replace HT := Lib.hid (HT.out.below hb)
    clear hb
    gi_upto_region 7 with fail
    obtain ⟨V7, hV⟩ : ∃ V, (W6.alloc (.cells #[.pointer (some ⟨gU, 0, none⟩)] 86)) = V := ⟨_, rfl⟩
    rw [hV]
    have hb := fbox_bel hV
    have hnew := fbox_blk hV
    have hge := HLay.out.bel.size
    replace HLay := Lib.hid (HLay.out.below hb)
    replace HT := Lib.hid (HT.out.below hb)
    replace HTR := Lib.hid (HTR.out.below hb)
    replace HLay := Lib.hid (HLay.out.add hge hnew)
    clear hnew hge hb hV
    obtain ⟨G8, hG⟩ : ∃ g, W6.heap.size = g := ⟨_, rfl⟩
    rw [hG] at HLay ⊢
    clear hG
    replace HLay := Lib.hid (show Lay w V7 [(w.heap.size, 26, #[.int .i64 m.fountains, .slice Av nv cv, .slice Aa na ca, .slice At nt ct]), (w.heap.size + 1, 3, #[.int .i64 act]), (w.heap.size + 1 + 1, 3, #[.int .i64 fountain]), (w.heap.size + 1 + 1 + 1, 30, #[.int .i64 0, .int .i64 0]), (G5, 82, #[.pointer (some ⟨T.g, 0, none⟩)]), (G8, 86, #[.pointer (some ⟨gU, 0, none⟩)])] from HLay.out)
    cases b with
    | false =>
     have HF : Hid (MovedIs m act fountain (0, 0) 8) := Lib.hid (.inr ⟨HAM.out, T.L, HTL.out, .inl ⟨fun h => by have h2 := HBB.out; rw [HTM.out] at h2; simp [h] at h2, rfl, rfl⟩⟩)
     have x3_0 := (HLay.out.blk 3 rfl).cell 0
     have z3_0 := (HLay.out.blk 3 rfl).frozen 0
     have x3_1 := (HLay.out.blk 3 rfl).cell 1
     have z3_1 := (HLay.out.blk 3 rfl).frozen 1
     have l3_ := HLay.out.lt 3 rfl
     gi_wp2
     have R2 := ret2' (HLay.out.blk 3 rfl) HLay.out.1 (HLay.out.ge 3 rfl) (.int .i64 (0)) (.int .i64 (0))
     have v0 := R2.1.cell 0
     have v1 := R2.1.cell 1
     refine bodyPost_ret (v := .tuple #[.agg #[.int .i64 (0), .int .i64 (0)], .int .i64 (8)]) (by simp [results, Try.results9, go_sem, v0, v1]) rfl ?_
     exact ⟨_, _, _, rfl, HF.out, R2.2.1⟩
    | true =>
     have HTT : Hid (Truth m fountain T.L 0 zeroH) := Lib.hid (by have h := HBB.out; rw [HTM.out] at h; simpa using h)
     obtain ⟨k, hk⟩ : ∃ k : Nat, act = (k : Int) + 1 := ⟨(act - 1).toNat, by have := HR.out; omega⟩
     subst hk
     have hkl : k < m.acts.length := by have h1 := HR.out; have h2 := HLA.out; omega
     obtain ⟨x, hx⟩ : ∃ x, T.m.acts[k]? = some x := ⟨_, List.getElem?_eq_getElem (by rw [HTM.out]; exact hkl)⟩
     obtain ⟨all, hA⟩ := HOK.out.at_ hx
     have HAT := Lib.hid hA
     have hn := HN.out
     rw [HTM.out] at hn
     have hkr : k + 1 < rs.length := by have h := HTR.out.own.len; simp at h; omega
     have hkm : k + 1 < ms.length := by have h := HTR.out.len; omega
     have HRK : Hid (rs[k]? = some rs[k]) := Lib.hid (List.getElem?_eq_getElem (by omega))
     have HMK : Hid (ms[k]? = some ms[k]) := Lib.hid (List.getElem?_eq_getElem (by omega))
     have HRN : Hid (rs[k + 1]? = some rs[k + 1]) := Lib.hid (List.getElem?_eq_getElem hkr)
     have HMN : Hid (ms[k + 1]? = some ms[k + 1]) := Lib.hid (List.getElem?_eq_getElem hkm)
     have HCK := Lib.hid (HCN.out k _ HMK.out)
     have HCL := Lib.hid (HCN.out (k + 1) _ HMN.out)
     have HML : Hid (ms[k].length ≤ 28561) := Lib.hid (can_small' HTM.out HOK.out (Nat.le_of_lt hkl) (HTR.out.maps k _ _ HRK.out HMK.out) (by rw [← HTM.out]; exact HCK.out))
     have HEX : Hid (∃ n, MovQ T fountain k x all n) := Lib.hid (movq_some HOK.out hA (by rw [HTM.out]; exact HTT.out))
     have HF : Hid (∀ lo hi : Int, IsSpan (MovQ T fountain k x all) (lo, hi) → MovedIs m ((k : Int) + 1) fountain (lo, hi) 0) := Lib.hid fun lo hi hs => .inr ⟨HAM.out, T.L, HTL.out, .inr ⟨HTT.out, rfl, hs.congr (movq_movp HTM.out HOK.out hA)⟩⟩
     have HTRA := Lib.hid (HTR.out.at_ HT.out)
     clear hkl hx hA hn HCN HBB HN HTR
     gi_wp2
     refine ⟨trivial, (callsIn_wide.2 (between_any 43 #[.pointer (some ⟨G8, 0, none⟩), .pointer (some ⟨w.heap.size + 1, 0, none⟩), .pointer (some ⟨G5, 0, none⟩), .pointer (some ⟨w.heap.size + 1 + 1, 0, none⟩)] (ms[k].length * 13) V7 (by have := HML.out; omega) enters_moved1 HEX.out (fun w1 hw1 nq hnq => moved1_own nq hnq gU T fountain A n c rs ms G8 (w.heap.size + 1) G5 (w.heap.size + 1 + 1) k rs[k] rs[k + 1] ms[k] ms[k + 1] x all w1 (HTRA.out.below hw1) ((HLay.out.below hw1).blk 5 rfl) ((HLay.out.below hw1).blk 1 rfl) ((HLay.out.below hw1).blk 4 rfl) ((HLay.out.below hw1).blk 2 rfl) HOK.out HAT.out HRK.out HMK.out HRN.out HMN.out HCK.out HCL.out))).mono ?_⟩
     rintro e W9 ⟨lo, hi, rfl, hsp, hb⟩
     have HSP := Lib.hid (HF.out lo hi hsp)
     clear hsp
     replace HLay := Lib.hid (HLay.out.below hb)
     replace HT := Lib.hid (HT.out.below hb)
     replace HTRA := Lib.hid (HTRA.out.below hb)
     clear hb
     have x3_0 := (HLay.out.blk 3 rfl).cell 0
     have z3_0 := (HLay.out.blk 3 rfl).frozen 0
     have x3_1 := (HLay.out.blk 3 rfl).cell 1
     have z3_1 := (HLay.out.blk 3 rfl).frozen 1
     have l3_ := HLay.out.lt 3 rfl
     gi_wp2
     have R2 := ret2' (HLay.out.blk 3 rfl) HLay.out.1 (HLay.out.ge 3 rfl) (.int .i64 (lo)) (.int .i64 (hi))
     have v0 := R2.1.cell 0
     have v1 := R2.1.cell 1
     refine bodyPost_ret (v := .tuple #[.agg #[.int .i64 (lo), .int .i64 (hi)], .int .i64 (0)]) (by simp [results, Try.results9, go_sem, v0, v1]) rfl ?_
     exact ⟨lo, hi, 0, rfl, HSP.out, R2.2.1⟩
   ·
    have hi : inB 1 m.fountains [fountain] = false := by rw [inB_one]; exact decide_eq_false hq
    rw [hi]
    have HF : Hid (MovedIs m act fountain (0, 0) 2) := Lib.hid (moved_bad HK.out (fun h => hq h.2))
    clear hq hi
    have x3_0 := (HLay.out.blk 3 rfl).cell 0
    have z3_0 := (HLay.out.blk 3 rfl).frozen 0
    have x3_1 := (HLay.out.blk 3 rfl).cell 1
    have z3_1 := (HLay.out.blk 3 rfl).frozen 1
    have l3_ := HLay.out.lt 3 rfl
    gi_wp2
    have R2 := ret2' (HLay.out.blk 3 rfl) HLay.out.1 (HLay.out.ge 3 rfl) (.int .i64 (0)) (.int .i64 (0))
    have v0 := R2.1.cell 0
    have v1 := R2.1.cell 1
    refine bodyPost_ret (v := .tuple #[.agg #[.int .i64 (0), .int .i64 (0)], .int .i64 (2)]) (by simp [results, Try.results9, go_sem, v0, v1]) rfl ?_
    exact ⟨_, _, _, rfl, HF.out, R2.2.1⟩
  ·
   have hi : inB 1 na [act] = false := by rw [inB_one]; exact decide_eq_false hr
   rw [hi]
   have HF : Hid (MovedIs m act fountain (0, 0) 2) := Lib.hid (moved_bad HK.out (fun h => hr (by rw [HLA.out] at h; exact h.1)))
   clear hr hi
   have x0_0 := (HLay.out.blk 0 rfl).cell 0
   have x0_1 := (HLay.out.blk 0 rfl).cell 1
   have x0_2 := (HLay.out.blk 0 rfl).cell 2
   have x0_3 := (HLay.out.blk 0 rfl).cell 3
   have l0_ := HLay.out.lt 0 rfl
   gi_wp2
   refine ⟨trivial, ?_⟩
   clear x0_0 x0_1 x0_2 x0_3 l0_
   have x3_0 := (HLay.out.blk 3 rfl).cell 0
   have z3_0 := (HLay.out.blk 3 rfl).frozen 0
   have x3_1 := (HLay.out.blk 3 rfl).cell 1
   have z3_1 := (HLay.out.blk 3 rfl).frozen 1
   have l3_ := HLay.out.lt 3 rfl
   gi_wp2
   have R2 := ret2' (HLay.out.blk 3 rfl) HLay.out.1 (HLay.out.ge 3 rfl) (.int .i64 (0)) (.int .i64 (0))
   have v0 := R2.1.cell 0
   have v1 := R2.1.cell 1
   refine bodyPost_ret (v := .tuple #[.agg #[.int .i64 (0), .int .i64 (0)], .int .i64 (2)]) (by simp [results, Try.results9, go_sem, v0, v1]) rfl ?_
   exact ⟨_, _, _, rfl, HF.out, R2.2.1⟩

end Go.Proofs.Ythofngceiecniaa
/- How much of a fountain is gone: mix.Gone. -/
namespace Go.Proofs.Ythofngceiecniaa
open Go.RowKit
attribute [local go_sem] Oper.semAt_some

def GonQ (Pm : Held → Prop) (F : Int) (n : Int) : Prop := ∃ x : D4, Pm x.toH ∧ F - sumH x.toH = n
def sumK (s : Held) : Nat → Int
 | 0 => 0
 | k + 1 => sumK s k + heldAt s (k : Int)
theorem sumK_bd {s : Held} (h : ∀ q : Nat, q < 4 → 0 ≤ heldAt s q ∧ heldAt s q ≤ 12) : ∀ {k : Nat}, k ≤ 4 → 0 ≤ sumK s k ∧ sumK s k ≤ 12 * k
 | 0, _ => by simp [sumK]
 | k + 1, hk => by
  have h1 := sumK_bd h (k := k) (by omega)
  have h2 := h k (by omega)
  rw [sumK]
  omega
inductive FrG (v0 v1 v2 v3 v18 : Value) : Act → Prop
 | mk (u4 u5 u6 u7 u8 u9 u10 u11 u12 u13 u14 u15 u16 u17 u19 u20 u21 u22 u23 u24 u25 u26 u27 u28 u29 u30 u31 u32 u33 u34 u35 : Value) : FrG v0 v1 v2 v3 v18 { tmps := #[v0, v1, v2, v3, u4, u5, u6, u7, u8, u9, u10, u11, u12, u13, u14, u15, u16, u17, v18, u19, u20, u21, u22, u23, u24, u25, u26, u27, u28, u29, u30, u31, u32, u33, u34, u35], defers := [] }
inductive FrG2 (v0 v1 v2 v3 v18 v6 v24 v25 : Value) : Act → Prop
 | mk (u4 u5 u7 u8 u9 u10 u11 u12 u13 u14 u15 u16 u17 u19 u20 u21 u22 u23 u26 u27 u28 u29 u30 u31 u32 u33 u34 u35 : Value) : FrG2 v0 v1 v2 v3 v18 v6 v24 v25 { tmps := #[v0, v1, v2, v3, u4, u5, v6, u7, u8, u9, u10, u11, u12, u13, u14, u15, u16, u17, v18, u19, u20, u21, u22, u23, v24, v25, u26, u27, u28, u29, u30, u31, u32, u33, u34, u35], defers := [] }

set_option maxRecDepth 100000 in
set_option maxHeartbeats 8000000 in
theorem gone1_own (n : Nat) (hn : 2 ≤ n) (gU : Nat) (T : Tb) (f : Int) (A : Option Addr) (nn c : Nat) (rs : List Nat) (ms : List (List (D4 × Bool))) (g1 g2 g3 rk : Nat) (mk : List (D4 × Bool)) (Pm : Held → Prop) (F : Int) (m : Mix) (Av : Option Addr) (nv cv : Nat) (Aa : Option Addr) (na ca : Nat) (At : Option Addr) (nt ct : Nat) (w : World) (hT : TrAt w gU T f A nn c rs ms)
  (h1 : Blk w g1 86 #[.pointer (some ⟨gU, 0, none⟩)]) (h2 : Blk w g2 26 #[.int .i64 m.fountains, .slice Av nv cv, .slice Aa na ca, .slice At nt ct]) (h3 : Blk w g3 3 #[.int .i64 F]) (hrk : rs[na]? = some rk) (hmk : ms[na]? = some mk) (hm : CanIs mk Pm) (hrg : ∀ y : D4, Pm y.toH → ∀ q : Nat, q < 4 → 0 ≤ heldAt y.toH q ∧ heldAt y.toH q ≤ 12) (hfl : 0 ≤ F ∧ F ≤ 1000000) :
  SeqOwn Fence.wide n Try.prog 54 #[.pointer (some ⟨g1, 0, none⟩), .pointer (some ⟨g2, 0, none⟩), .pointer (some ⟨g3, 0, none⟩)] (encI (P := GonQ Pm F)) (KeepB w.heap.size) PAll mk.length w := by
 intro l J w0 hW hJ hY h0
 have HJ := Lib.hid hJ
 have HY := Lib.hid hY
 have H0 := Lib.hid h0
 have HT := Lib.hid hT
 have H1 := Lib.hid h1
 have H2 := Lib.hid h2
 have H3 := Lib.hid h3
 have HM := Lib.hid hm
 have HRK := Lib.hid hrk
 have HMK := Lib.hid hmk
 have HRG := Lib.hid hrg
 have HFL := Lib.hid hfl
 have HW := Lib.hid hW
 have hrd := (hT.below hW).rd
 obtain ⟨g, off, hA, hgl, hrd2⟩ := Reads.plain hrd (by have := (List.getElem?_eq_some_iff.1 hrk).1; simp; omega)
 have q9 := hrd2 na (canV rk) (by rw [List.getElem?_map, hrk]; rfl)
 unfold canV at q9
 subst hA
 have hkn : na < nn := by have := hT.rd.1; have := (List.getElem?_eq_some_iff.1 hrk).1; simp at *; omega
 obtain ⟨w1, hr1, hi1, hg1, hs1⟩ := MapIs.range (P := Try.prog) (t := 92) Try.underlying92 (show CanMap w0.drew rk mk from (hT.below hW).maps na rk mk hrk hmk)
 have q0 := (hT.below hW).blk.cell 2
 have q1 := (h1.below hW h1.lt).cell 0
 have q2 := (h2.below hW h2.lt).cell 2
 have l0 := (hT.below hW).blk.lt
 have l1 := (h1.below hW h1.lt).lt
 have l2 := (h2.below hW h2.lt).lt
 unfold trC at q0
 clear hJ hY h0 hT h1 h2 h3 hm hrk hmk hW hrd hrd2 hrg hfl
 refine callsIn_of_wp Try.func54 rfl trivial ?_ rfl
 simp only [Try.ntmps54, List.size_toArray, List.length_cons, List.length_nil, Nat.reduceAdd, Nat.reduceSub, Array.replicate_succ, Array.replicate_zero, List.push_toArray, List.append_toArray, List.nil_append, List.cons_append]
 gi_wp2
 gi_region
 clear q0 q1 q2 q9 l0 l1 l2 hr1 hgl
 have hb1 : Below w0.heap.size w0 w1 := (below_drewN (Below.refl w0.heap.size w0) 1).grown hg1 (Nat.le_refl _) (fun k e => by cases e)
 replace hi1 : IterIs D4.key Value.bool okD w1 w0.heap.size rk mk mk := hi1
 have hj1 : J [] w1 := HJ.out [] w0 w1 none H0.out (grown_of_below hb1 none) (fun r e => by cases e)
 have HB1 := Lib.hid (HW.out.trans (hb1.mono HW.out.size))
 have HI1 := Lib.hid hi1
 have HJ1 := Lib.hid hj1
 clear hg1 hs1 hi1 hj1 hb1
 gi_wp2
 refine wpIn_loop (fun a W => ∃ (left : List (D4 × Bool)) (pre : List (Pn (GonQ Pm F))), Hid (IterIs D4.key Value.bool okD W w0.heap.size rk mk left ∧ J pre W ∧ Below w.heap.size w W ∧ pre.length + left.length = mk.length ∧ (∀ p ∈ mk, p ∈ left ∨ ∃ y ∈ pre, y.1 = F - sumH p.1.toH)) ∧ FrG (.func (.yield l) #[] #[]) (.pointer (some ⟨g1, 0, none⟩)) (.pointer (some ⟨g2, 0, none⟩)) (.pointer (some ⟨g3, 0, none⟩)) (.pointer (some ⟨w0.heap.size, 0, none⟩)) a)
  (fun _ W => iterLeft W w0.heap.size) ?_ ?_
 ·exact ⟨mk, [], Lib.hid ⟨HI1.out, HJ1.out, HB1.out, by simp, fun p hp => .inl hp⟩, by constructor⟩
 clear HB1 HI1 HJ1
 rintro a W ⟨left, pre, HS, ha⟩
 cases ha
 rcases HS.out.1.next (P := Try.prog) 0 with ⟨hl, hr⟩ | ⟨i, ⟨y, v⟩, w2, hp, hr, hi2, hg2, hs2, he2⟩
 ·gi_wp2
  go_end0
  subst hl
  exact ⟨⟨_, rfl⟩, pre, fun n ⟨x, hx, e⟩ => by
   obtain ⟨v, hv⟩ := (HM.out.keys x).2 hx
   rcases HS.out.2.2.2.2 _ hv with h | ⟨y, hy, e2⟩
   ·cases h
   ·exact ⟨y, hy, e2.trans e⟩, HS.out.2.1⟩
 obtain ⟨v', hym⟩ := HS.out.1.sub (List.mem_of_getElem? hp)
 have hyP : Pm y.toH := (HM.out.keys y).1 ⟨v', hym⟩
 obtain ⟨x1, x2, x3, x4, ho⟩ := IterIs.obj HS.out.1
 have hj2 : J pre w2 := HJ.out pre W w2 _ HS.out.2.1 hg2 (fun r e => by cases e; exact ⟨Nat.le_refl _, _, ho, rfl⟩)
 have hb2 : Below w.heap.size w w2 := HS.out.2.2.1.grown hg2 HS.out.2.2.1.size (fun k e => by cases e; exact HW.out.size)
 have hyr := HRG.out y hyP
 obtain ⟨s, hs⟩ : ∃ s, y.toH = s := ⟨_, rfl⟩
 replace hr : (Instr.next (.pointer (some ⟨w0.heap.size, 0, none⟩)) false 0).run Try.prog W = .ok (.tuple #[.bool true, .agg #[.int .i64 (heldAt s 0), .int .i64 (heldAt s 1), .int .i64 (heldAt s 2), .int .i64 (heldAt s 3)], .bool v]) w2 := by rw [← hs]; exact hr
 replace he2 : (Instr.entry (.pointer (some ⟨w0.heap.size, 0, none⟩))).run Try.prog w2 = .ok (.tuple #[.agg #[.int .i64 (heldAt s 0), .int .i64 (heldAt s 1), .int .i64 (heldAt s 2), .int .i64 (heldAt s 3)], .bool v]) w2 := by rw [← hs]; exact he2
 rw [hs] at hyP hyr
 have HYP := Lib.hid hyP
 have HYR := Lib.hid hyr
 have HSY := Lib.hid hs
 have HI2 := Lib.hid hi2
 have HJ2 := Lib.hid hj2
 have HB2 := Lib.hid hb2
 have HP := Lib.hid hp
 clear hyP hs hi2 hj2 hb2 hp hg2 hs2 ho hym hyr
 have q3 := (H3.out.below HB2.out H3.out.lt).cell 0
 have l3 := (H3.out.below HB2.out H3.out.lt).lt
 gi_wp2
 clear hr he2 q3 l3
 have hb3 : Below w2.heap.size w2 (w2.alloc (.cells #[.int .i64 (heldAt s 0), .int .i64 (heldAt s 1), .int .i64 (heldAt s 2), .int .i64 (heldAt s 3)] 97)) := (Below.refl _ _).alloc (Nat.le_refl _) _
 have hj3 : J pre (w2.alloc (.cells #[.int .i64 (heldAt s 0), .int .i64 (heldAt s 1), .int .i64 (heldAt s 2), .int .i64 (heldAt s 3)] 97)) := HJ.out pre w2 _ none HJ2.out (grown_of_below hb3 none) (fun r e => by cases e)
 have HI3 := Lib.hid (HI2.out.below hb3 HI2.out.map.lt HI2.out.lt)
 have HB3 := Lib.hid (HB2.out.trans (hb3.mono HB2.out.size))
 have HJ3 := Lib.hid hj3
 clear hb3 hj3 HJ2 HI2 HB2
 generalize (w2.alloc (.cells #[.int .i64 (heldAt s 0), .int .i64 (heldAt s 1), .int .i64 (heldAt s 2), .int .i64 (heldAt s 3)] 97)) = w3 at *
 refine wpIn_loop (fun a W' => W' = w3 ∧ ∃ k : Nat, k ≤ 4 ∧ FrG2 (.func (.yield l) #[] #[]) (.pointer (some ⟨g1, 0, none⟩)) (.pointer (some ⟨g2, 0, none⟩)) (.pointer (some ⟨g3, 0, none⟩)) (.pointer (some ⟨w0.heap.size, 0, none⟩)) (.int .i64 (F - sumK s k)) (.agg #[.int .i64 (heldAt s 0), .int .i64 (heldAt s 1), .int .i64 (heldAt s 2), .int .i64 (heldAt s 3)]) (.int .i64 k) a)
  (fun a _ => 4 - (intOf (a.tmps.getD 25 undef)).toNat) ?_ ?_
 ·exact ⟨rfl, 0, by omega, by rw [show F - sumK s 0 = F from by simp [sumK]]; constructor⟩
 rintro a W' ⟨rfl, k, hk, ha⟩
 cases ha
 by_cases hk4 : k < 4
 ·have hix : ∀ z : World, (Instr.index 97 (.agg #[.int .i64 (heldAt s 0), .int .i64 (heldAt s 1), .int .i64 (heldAt s 2), .int .i64 (heldAt s 3)]) (.int .i64 (k : Int))).run Try.prog z = .ok (.int .i64 (heldAt s (k : Int))) z := fun z => by
   rcases (show k = 0 ∨ k = 1 ∨ k = 2 ∨ k = 3 by omega) with rfl | rfl | rfl | rfl <;> kernel_rfl
  have hsk := sumK_bd HYR.out (Nat.le_of_lt hk4)
  have hsb := HYR.out k hk4
  have hfl := HFL.out
  have HIX := Lib.hid (hix W')
  have hix2 := hix W'
  clear hix
  gi_wp2
  refine ⟨⟨trivial, k + 1, hk4, by rw [show F - sumK s (k + 1) = F - sumK s k - heldAt s (k : Int) from by rw [sumK]; omega, show ((k + 1 : Nat) : Int) = (k : Int) + 1 from by omega]; constructor⟩, ?_⟩
  simp [intOf]
  omega
 obtain rfl : k = 4 := by omega
 have e4 : sumK s 4 = sumH s := by simp [sumK, sumH]
 rw [e4]
 obtain ⟨fn, tmps, assign, body, hy, hR⟩ := HY.out pre ⟨F - sumH s, y, by rw [HSY.out]; exact ⟨HYP.out, rfl⟩⟩ W' HJ3.out (by
  have h1 := HS.out.2.2.2.1
  have h2 := (List.getElem?_eq_some_iff.1 HP.out).1
  omega)
 unfold encI at hy
 dsimp only at hy
 have HR := Lib.hid hR
 clear hR hk hk4 e4
 gi_wp2
 refine ⟨fun _ => by omega, HR.out.mono ?_⟩
 rintro e W3 ⟨rfl, hJ3, hk3, _⟩
 have HJ4 := Lib.hid hJ3
 have HI4 := Lib.hid (HI3.out.walks hk3.2.1)
 have HB4 := Lib.hid (HB3.out.trans hk3.1)
 clear hJ3 hk3 hy
 gi_wp2
 refine ⟨⟨left.eraseIdx i, _, Lib.hid ⟨HI4.out, HJ4.out, HB4.out, ?_, fun p hp => ?_⟩, by constructor⟩, ?_⟩
 ·have h1 := HS.out.2.2.2.1
  have h2 := (List.getElem?_eq_some_iff.1 HP.out).1
  rw [List.length_append, List.length_eraseIdx_of_lt h2, List.length_singleton]
  omega
 ·rcases HS.out.2.2.2.2 p hp with h | ⟨z, hz, e⟩
  ·rcases List.mem_cons.1 ((perm_erase HP.out).mem_iff.2 h) with rfl | h
   ·exact .inr ⟨_, List.mem_append_right _ (List.mem_singleton_self _), by dsimp only; rw [HSY.out]⟩
   ·exact .inl h
  ·exact .inr ⟨z, List.mem_append_left _ hz, e⟩
 ·have h2 := (List.getElem?_eq_some_iff.1 HP.out).1
  rw [HI4.out.left_eq, HS.out.1.left_eq, List.length_eraseIdx_of_lt h2]
  omega

theorem enters_gone1 (args : Array Value) (W : World) : (callFunc 54 args).run Try.prog W = .ok (.enter 54 args) W := by
 simp [go_sem]
/-- What Gone hands back. -/
def GoneOut (w : World) (m : Mix) (fountain : Int) (e : Ending) (w' : World) : Prop := ∃ lo hi ee : Int, e = .returned (.tuple #[.agg #[.int .i64 lo, .int .i64 hi], .int .i64 ee]) ∧ GoneIs m fountain (lo, hi) ee ∧ Below w.heap.size w w'
def filledK (m : Mix) (f : Int) (k : Nat) : Int := (m.acts.take k).foldl (fun n x => if x.kind = 1 ∧ x.fr = f then n + x.drops else n) 0
theorem filledK_succ {m : Mix} {f : Int} {k : Nat} {x : MAct} (hx : m.acts[k]? = some x) : filledK m f (k + 1) = if x.kind = 1 ∧ x.fr = f then filledK m f k + x.drops else filledK m f k := by
 unfold filledK
 rw [List.take_add_one, hx]
 simp [List.foldl_append]
theorem filledK_all {m : Mix} {f : Int} {k : Nat} (hk : m.acts.length = k) : filledK m f k = filledM m f := by
 unfold filledK filledM
 rw [← hk, List.take_length]
theorem filledK_bd {T : Tb} {f : Int} (hok : TbOk T) : ∀ {k : Nat}, k ≤ T.m.acts.length → 0 ≤ filledK T.m f k ∧ filledK T.m f k ≤ 2000 * k
 | 0, _ => by simp [filledK]
 | k + 1, hk => by
  have h1 := filledK_bd (f := f) hok (k := k) (by omega)
  obtain ⟨x, hx⟩ : ∃ x, T.m.acts[k]? = some x := ⟨_, List.getElem?_eq_getElem (by omega)⟩
  obtain ⟨all, hA⟩ := hok.at_ hx
  have h2 := hA.size
  rw [filledK_succ hx]
  split
  ·rename_i h
   unfold sizeA at h2
   rw [if_neg (by omega)] at h2
   omega
  ·omega
theorem gon_rng {T : Tb} {f : Int} {k : Nat} (hok : TbOk T) (hk : k < T.L.length) : ∀ y : D4, Truth T.m f T.L k y.toH → ∀ q : Nat, q < 4 → 0 ≤ heldAt y.toH q ∧ heldAt y.toH q ≤ 12 := fun y h q hq => by
 have hL : T.L[k]? = some T.L[k] := List.getElem?_eq_getElem hk
 have hr := allM_range hok.all hok.vess (okMix_ves hok.ok) hL
 have h2 := h.fits hok.all hok.vess hL
 have a := h2.le q hq
 have b := hr.2 q
 omega
theorem gonq_some {T : Tb} {f F : Int} {k : Nat} (hok : TbOk T) (ht : Truth T.m f T.L 0 zeroH) (hk : T.m.acts.length = k) : ∃ n, GonQ (Truth T.m f T.L k) F n := by
 obtain ⟨s, hs⟩ := truth_all ht (Nat.le_of_eq hk.symm)
 have hL : T.L[k]? = some (T.L[k]'(by have := hok.long; omega)) := List.getElem?_eq_getElem _
 have e2 := toH_ofH (hs.fits hok.all hok.vess hL).lh
 exact ⟨_, ofH s, by rw [e2]; exact hs, rfl⟩
theorem gonq_gonp {T : Tb} {m : Mix} {f : Int} {k : Nat} (hTm : T.m = m) (hok : TbOk T) (hk : m.acts.length = k) : ∀ n, GonQ (Truth T.m f T.L k) (filledM m f) n ↔ GoneP m f T.L n := fun n => by
 subst hTm
 unfold GonQ GoneP
 rw [hk]
 constructor
 ·rintro ⟨y, h1, h2⟩
  exact ⟨y.toH, h1, h2.symm⟩
 ·rintro ⟨s, h1, h2⟩
  have hL : T.L[k]? = some (T.L[k]'(by have := hok.long; omega)) := List.getElem?_eq_getElem _
  have e2 := toH_ofH (h1.fits hok.all hok.vess hL).lh
  exact ⟨ofH s, by rw [e2]; exact h1, by rw [e2]; exact h2.symm⟩
inductive FrL (v0 v1 v2 v4 v5 v8 v9 v39 v40 v41 : Value) : Act → Prop
 | mk (u3 u6 u7 u10 u11 u12 u13 u14 u15 u16 u17 u18 u19 u20 u21 u22 u23 u24 u25 u26 u27 u28 u29 u30 u31 u32 u33 u34 u35 u36 u37 u38 u42 u43 u44 u45 u46 u47 u48 u49 u50 u51 u52 u53 u54 u55 u56 u57 u58 u59 : Value) : FrL v0 v1 v2 v4 v5 v8 v9 v39 v40 v41 { tmps := #[v0, v1, v2, u3, v4, v5, u6, u7, v8, v9, u10, u11, u12, u13, u14, u15, u16, u17, u18, u19, u20, u21, u22, u23, u24, u25, u26, u27, u28, u29, u30, u31, u32, u33, u34, u35, u36, u37, u38, v39, v40, v41, u42, u43, u44, u45, u46, u47, u48, u49, u50, u51, u52, u53, u54, u55, u56, u57, u58, u59], defers := [] }

set_option maxRecDepth 100000 in
set_option maxHeartbeats 8000000 in
theorem gone_any (Av : Option Addr) (nv cv : Nat) (Aa : Option Addr) (na ca : Nat) (At : Option Addr) (nt ct : Nat) (m : Mix) (fountain : Int) (w : World) (h : MixS w Av nv Aa na At nt m) :
  CallsIn Fence.wide 9 Try.prog 11 #[.agg #[.int .i64 m.fountains, .slice Av nv cv, .slice Aa na ca, .slice At nt ct], .int .i64 fountain] w (GoneOut w m fountain) := by
 have HM := Lib.hid h
 have HLA := Lib.hid h.at_.lenA
 clear h
 refine callsIn_of_wp Try.func11 rfl trivial ?_ rfl
 simp only [Try.ntmps11, List.size_toArray, List.length_cons, List.length_nil, Nat.reduceAdd, Nat.reduceSub, Array.replicate_succ, Array.replicate_zero, List.push_toArray, List.append_toArray, List.nil_append, List.cons_append]
 gi_upto_region 1 with fail
 have HLay := Lib.hid (Lay.two w 26 #[.int .i64 m.fountains, .slice Av nv cv, .slice Aa na ca, .slice At nt ct] 30 #[.int .i64 0, .int .i64 0])
 generalize ((w.alloc (.cells #[.int .i64 m.fountains, .slice Av nv cv, .slice Aa na ca, .slice At nt ct] 26)).alloc (.cells #[.int .i64 0, .int .i64 0] 30)) = w0 at *
 have x0_0 := (HLay.out.blk 0 rfl).cell 0
 have x0_1 := (HLay.out.blk 0 rfl).cell 1
 have x0_2 := (HLay.out.blk 0 rfl).cell 2
 have x0_3 := (HLay.out.blk 0 rfl).cell 3
 have l0_ := HLay.out.lt 0 rfl
 gi_wp2
 clear x0_0 x0_1 x0_2 x0_3 l0_
 refine ⟨trivial, (callsIn_wide.2 (MixS.laid (HM.out.up HLay.out.1))).mono ?_⟩
 rintro e W1 ⟨pp, rfl, hb, hp⟩
 have HP := Lib.hid hp
 clear hp
 replace HLay := Lib.hid (HLay.out.below hb)
 clear hb
 cases hk : okMix m with
 | false =>
  have HF : Hid (GoneIs m fountain (0, 0) 40) := Lib.hid (.inl ⟨by unfold goneM; rw [if_neg (by rw [hk]; decide)]; decide, rfl, by unfold goneM; rw [if_neg (by rw [hk]; decide)]⟩)
  clear hk HP
  have x1_0 := (HLay.out.blk 1 rfl).cell 0
  have z1_0 := (HLay.out.blk 1 rfl).frozen 0
  have x1_1 := (HLay.out.blk 1 rfl).cell 1
  have z1_1 := (HLay.out.blk 1 rfl).frozen 1
  have l1_ := HLay.out.lt 1 rfl
  gi_wp2
  have R2 := ret2' (HLay.out.blk 1 rfl) HLay.out.1 (HLay.out.ge 1 rfl) (.int .i64 (0)) (.int .i64 (0))
  have v0 := R2.1.cell 0
  have v1 := R2.1.cell 1
  refine bodyPost_ret (v := .tuple #[.agg #[.int .i64 (0), .int .i64 (0)], .int .i64 (40)]) (by simp [results, Try.results11, go_sem, v0, v1]) rfl ?_
  exact ⟨_, _, _, rfl, HF.out, R2.2.1⟩
 | true =>
  obtain ⟨g, AA, nl, cl, L, rfl, hg, hL, hT⟩ := HP.out hk
  obtain ⟨T, hTT⟩ : ∃ T : Tb, T = ⟨g, Av, nv, cv, Aa, na, ca, At, nt, ct, AA, nl, cl, m, L⟩ := ⟨_, rfl⟩
  have hTg : g = T.g := by rw [hTT]
  have hTm : T.m = m := by rw [hTT]
  have HTL : Hid (allM m m.acts = some T.L) := Lib.hid (by rw [hTT]; exact hL)
  rw [← hTT] at hT
  subst hTg
  have HOK : Hid (TbOk T) := Lib.hid ⟨by rw [hTm]; exact hk, by rw [hTm]; exact HTL.out⟩
  have HK := Lib.hid hk
  have HT := Lib.hid hT.at_
  have HTM := Lib.hid hTm
  clear HP hTT hL hg hT hk hTm
  have x0_0 := (HLay.out.blk 0 rfl).cell 0
  have x0_1 := (HLay.out.blk 0 rfl).cell 1
  have x0_2 := (HLay.out.blk 0 rfl).cell 2
  have x0_3 := (HLay.out.blk 0 rfl).cell 3
  have l0_ := HLay.out.lt 0 rfl
  gi_wp2
  clear x0_0 x0_1 x0_2 x0_3 l0_
  have Y := IntsAt.new W1 3 [fountain] (W1.heap.size + 1) (by omega)
  have hb1 : Below W1.heap.size W1 (W1.alloc (.cells #[.int .i64 fountain] 3)) := (Below.refl _ _).alloc (Nat.le_refl _) _
  have hc := in_any 1 m.fountains (some ⟨W1.heap.size, 0, none⟩) 1 1 [fountain] _ (Y.more (by simp)) (by decide)
  refine ⟨trivial, (callsIn_wide.2 hc).mono ?_⟩
  clear hc Y
  rintro e W19 ⟨rfl, hb⟩
  have hbb := hb1.trans (hb.mono hb1.size)
  clear hb hb1
  replace HLay := Lib.hid (HLay.out.below hbb)
  replace HT := Lib.hid (HT.out.below hbb)
  clear hbb
  by_cases hq : 1 ≤ fountain ∧ fountain ≤ m.fountains
  ·
   have hi : inB 1 m.fountains [fountain] = true := by rw [inB_one]; exact decide_eq_true hq
   rw [hi]
   have HGM : Hid (goneM m fountain = 0) := Lib.hid (by unfold goneM; rw [if_pos HK.out, if_pos hq])
   clear hq hi
   gi_wp2
   have HTD := Lib.hid HT.out
   refine ⟨trivial, (callsIn_wide.2 (callsIn_wide.1 (told_in T fountain W19 HTD.out HOK.out))).mono ?_⟩
   rintro e W2 ⟨gU, b, A, n, c, rs, ms, rfl, hb, htr, hn, hcan, hb0⟩
   have HTR := Lib.hid htr
   have HN := Lib.hid hn
   have HCN := Lib.hid hcan
   have HBB := Lib.hid hb0
   clear htr hn hcan hb0
   replace HLay := Lib.hid (HLay.out.below hb)
   replace HT := Lib.hid (HT.out.below hb)
   clear hb
   gi_upto_region 7 with fail
   obtain ⟨V3, hV⟩ : ∃ V, (W2.alloc (.cells #[.pointer (some ⟨gU, 0, none⟩)] 86)) = V := ⟨_, rfl⟩
   rw [hV]
   have hb := fbox_bel hV
   have hnew := fbox_blk hV
   have hge := HLay.out.bel.size
   replace HLay := Lib.hid (HLay.out.below hb)
   replace HT := Lib.hid (HT.out.below hb)
   replace HTR := Lib.hid (HTR.out.below hb)
   replace HLay := Lib.hid (HLay.out.add hge hnew)
   clear hnew hge hb hV
   obtain ⟨G4, hG⟩ : ∃ g, W2.heap.size = g := ⟨_, rfl⟩
   rw [hG] at HLay ⊢
   clear hG
   replace HLay := Lib.hid (show Lay w V3 [(w.heap.size, 26, #[.int .i64 m.fountains, .slice Av nv cv, .slice Aa na ca, .slice At nt ct]), (w.heap.size + 1, 30, #[.int .i64 0, .int .i64 0]), (G4, 86, #[.pointer (some ⟨gU, 0, none⟩)])] from HLay.out)
   cases b with
   | false =>
    have HF : Hid (GoneIs m fountain (0, 0) 8) := Lib.hid (.inr ⟨HGM.out, T.L, HTL.out, .inl ⟨fun h => by have h2 := HBB.out; rw [HTM.out] at h2; simp [h] at h2, rfl, rfl⟩⟩)
    have x1_0 := (HLay.out.blk 1 rfl).cell 0
    have z1_0 := (HLay.out.blk 1 rfl).frozen 0
    have x1_1 := (HLay.out.blk 1 rfl).cell 1
    have z1_1 := (HLay.out.blk 1 rfl).frozen 1
    have l1_ := HLay.out.lt 1 rfl
    gi_wp2
    have R2 := ret2' (HLay.out.blk 1 rfl) HLay.out.1 (HLay.out.ge 1 rfl) (.int .i64 (0)) (.int .i64 (0))
    have v0 := R2.1.cell 0
    have v1 := R2.1.cell 1
    refine bodyPost_ret (v := .tuple #[.agg #[.int .i64 (0), .int .i64 (0)], .int .i64 (8)]) (by simp [results, Try.results11, go_sem, v0, v1]) rfl ?_
    exact ⟨_, _, _, rfl, HF.out, R2.2.1⟩
   | true =>
    have HTT : Hid (Truth m fountain T.L 0 zeroH) := Lib.hid (by have h := HBB.out; rw [HTM.out] at h; simpa using h)
    have hkl : na < T.L.length := by have h1 := HOK.out.long; have h2 := HLA.out; rw [HTM.out] at h1; omega
    have hn := HN.out
    rw [HTM.out] at hn
    have hkr : na < rs.length := by have h := HTR.out.own.len; have h2 := HLA.out; simp at h; omega
    have hkm : na < ms.length := by have h := HTR.out.len; have h2 := HLA.out; omega
    have HRK : Hid (rs[na]? = some rs[na]) := Lib.hid (List.getElem?_eq_getElem hkr)
    have HMK : Hid (ms[na]? = some ms[na]) := Lib.hid (List.getElem?_eq_getElem hkm)
    have HCK := Lib.hid (HCN.out na _ HMK.out)
    have HML : Hid (ms[na].length ≤ 28561) := Lib.hid (can_small' HTM.out HOK.out (Nat.le_of_eq HLA.out.symm) (HTR.out.maps na _ _ HRK.out HMK.out) (by rw [← HTM.out]; exact HCK.out))
    have HEX : Hid (∃ n, GonQ (Truth T.m fountain T.L na) (filledM m fountain) n) := Lib.hid (gonq_some HOK.out (by rw [HTM.out]; exact HTT.out) (by rw [HTM.out]; exact HLA.out))
    have HF : Hid (∀ lo hi : Int, IsSpan (GonQ (Truth T.m fountain T.L na) (filledM m fountain)) (lo, hi) → GoneIs m fountain (lo, hi) 0) := Lib.hid fun lo hi hs => .inr ⟨HGM.out, T.L, HTL.out, .inr ⟨HTT.out, rfl, hs.congr (gonq_gonp HTM.out HOK.out HLA.out)⟩⟩
    have HRG := Lib.hid (gon_rng HOK.out hkl (f := fountain))
    have HTRA := Lib.hid (HTR.out.at_ HT.out)
    clear hkl hn HCN HBB HN HTR
    have x0_0 := (HLay.out.blk 0 rfl).cell 0
    have x0_1 := (HLay.out.blk 0 rfl).cell 1
    have x0_2 := (HLay.out.blk 0 rfl).cell 2
    have x0_3 := (HLay.out.blk 0 rfl).cell 3
    have l0_ := HLay.out.lt 0 rfl
    gi_upto_region 10 with fail
    clear x0_0 x0_1 x0_2 x0_3 l0_
    obtain ⟨V9, hV⟩ : ∃ V, (V3.alloc (.cells #[.int .i64 0] 3)) = V := ⟨_, rfl⟩
    rw [hV]
    have HB9 := Lib.hid (fbox_bel hV)
    have HN9 := Lib.hid (fbox_blk hV)
    obtain ⟨G9, hG⟩ : ∃ g, V3.heap.size = g := ⟨_, rfl⟩
    rw [hG] at HN9 ⊢
    have HG9 := Lib.hid hG
    clear hV hG
    have x2 := ((HLay.out.blk 0 rfl).below HB9.out (HLay.out.lt 0 rfl)).cell 2
    have x2l := ((HLay.out.blk 0 rfl).below HB9.out (HLay.out.lt 0 rfl)).lt
    gi_wp2
    clear x2 x2l
    refine wpIn_loop (fun a W => ∃ k : Nat, Hid (k ≤ na ∧ Below V3.heap.size V3 W ∧ Blk W G9 3 #[.int .i64 (filledK m fountain k)]) ∧ FrL (.agg #[.int .i64 m.fountains, .slice Av nv cv, .slice Aa na ca, .slice At nt ct]) (.int .i64 fountain) (.pointer (some ⟨w.heap.size, 0, none⟩)) (.pointer (some ⟨w.heap.size + 1, 0, none⟩)) (.int .i64 0) (.pointer (some ⟨G4, 0, none⟩)) (.pointer (some ⟨G9, 0, none⟩)) (.slice Aa na ca) (.int .i64 na) (.int .i64 k) a)
     (fun a _ => na - (intOf (a.tmps.getD 41 undef)).toNat) ?_ ?_
    ·exact ⟨0, Lib.hid ⟨by omega, HB9.out, HN9.out⟩, by constructor⟩
    clear HB9 HN9
    rintro a W ⟨k, HS, ha⟩
    cases ha
    by_cases hlt : k < na
    ·obtain ⟨x, hx⟩ : ∃ x, m.acts[k]? = some x := ⟨_, List.getElem?_eq_getElem (by have := HLA.out; omega)⟩
     obtain ⟨b, off, x', hAa, hbB, hx', c0, c1, c2, c3⟩ := ((HM.out.at_.below HLay.out.1).more HLay.out.1.size).act hlt
     rw [hx] at hx'
     obtain rfl := Option.some.inj hx'
     have HBA : Hid (b < V3.heap.size) := Lib.hid hbB
     replace c0 := (HS.out.2.1.cell (p := ⟨b, off + k * 4, none⟩) hbB).trans c0
     replace c1 := (HS.out.2.1.cell (p := ⟨b, off + k * 4 + 1, none⟩) hbB).trans c1
     replace c2 := (HS.out.2.1.cell (p := ⟨b, off + k * 4 + 2, none⟩) hbB).trans c2
     replace c3 := (HS.out.2.1.cell (p := ⟨b, off + k * 4 + 3, none⟩) hbB).trans c3
     rw [hAa]
     gi_upto_region 13 with fail
     clear c0 c1 c2 c3
     have hbx : Below W.heap.size W (W.alloc (.cells #[.int .i64 x.kind, .int .i64 x.fr, .int .i64 x.to, .int .i64 x.drops] 67)) := (Below.refl _ _).alloc (Nat.le_refl _) _
     have hnx := Blk.new W 67 #[.int .i64 x.kind, .int .i64 x.fr, .int .i64 x.to, .int .i64 x.drops]
     obtain ⟨gx, hgx⟩ : ∃ g, W.heap.size = g := ⟨_, rfl⟩
     generalize (W.alloc (.cells #[.int .i64 x.kind, .int .i64 x.fr, .int .i64 x.to, .int .i64 x.drops] 67)) = W1 at *
     rw [hgx] at hnx ⊢
     have h9 : Blk W1 G9 3 #[.int .i64 (filledK m fountain k)] := HS.out.2.2.below hbx HS.out.2.2.lt
     have y0 := hnx.cell 0
     have y1 := hnx.cell 1
     have y2 := hnx.cell 2
     have y3 := hnx.cell 3
     have yl := hnx.lt
     have z9 := h9.cell 0
     have zl := h9.lt
     have zf := h9.frozen 0
     have HB1 := Lib.hid (HS.out.2.1.trans (hbx.mono HS.out.2.1.size))
     have H9 := Lib.hid h9
     clear h9 hbx hnx
     have HX := Lib.hid hx
     have hbd := filledK_bd (f := fountain) HOK.out (k := k) (by rw [HTM.out, HLA.out]; omega)
     have hbd2 := filledK_bd (f := fountain) HOK.out (k := k + 1) (by rw [HTM.out, HLA.out]; omega)
     rw [HTM.out] at hbd hbd2
     have hk12 : k + 1 ≤ 12 := by have h1 := HOK.out.acts; rw [HTM.out, HLA.out] at h1; omega
     have hsc := filledK_succ (f := fountain) hx
     clear hx
     by_cases hc : x.kind = 1 ∧ x.fr = fountain
     ·rw [if_pos hc] at hsc
      rw [hsc] at hbd2
      obtain ⟨hc1, hc2⟩ := hc
      gi_wp2
      refine ⟨⟨k + 1, Lib.hid ⟨hlt, HB1.out.setCell (by have := HG9.out; show V3.heap.size ≤ G9; omega) _, by rw [hsc]; exact H9.out.set_ 0 _⟩, by rw [show ((k + 1 : Nat) : Int) = (k : Int) + 1 from by omega]; constructor⟩, ?_⟩
      simp [intOf]
      omega
     ·rw [if_neg hc] at hsc
      have hdone : Hid (k + 1 ≤ na ∧ Below V3.heap.size V3 W1 ∧ Blk W1 G9 3 #[.int .i64 (filledK m fountain (k + 1))]) := Lib.hid ⟨hlt, HB1.out, by rw [hsc]; exact H9.out⟩
      clear hsc
      gi_wp2
      all_goals
       refine ⟨⟨k + 1, hdone, by rw [show ((k + 1 : Nat) : Int) = (k : Int) + 1 from by omega]; constructor⟩, ?_⟩
       simp [intOf]
       omega
    have hkn : na = k := by have := HS.out.1; omega
    subst hkn
    have hfk := HS.out.2.2
    rw [filledK_all HLA.out] at hfk
    have HFD : Hid (0 ≤ filledM m fountain ∧ filledM m fountain ≤ 1000000) := Lib.hid (by
     have h1 := filledK_bd (f := fountain) HOK.out (k := na) (by rw [HTM.out, HLA.out]; exact Nat.le_refl _)
     have h2 := HOK.out.acts
     rw [HTM.out] at h1 h2
     rw [HLA.out] at h2
     rw [filledK_all HLA.out] at h1
     omega)
    have hge : w.heap.size ≤ G9 := by have h1 := HG9.out; have h2 := HLay.out.1.size; omega
    replace HLay := Lib.hid ((HLay.out.below HS.out.2.1).add hge hfk)
    replace HTRA := Lib.hid (HTRA.out.below HS.out.2.1)
    replace HLay := Lib.hid (show Lay w W [(w.heap.size, 26, #[.int .i64 m.fountains, .slice Av nv cv, .slice Aa na ca, .slice At nt ct]), (w.heap.size + 1, 30, #[.int .i64 0, .int .i64 0]), (G4, 86, #[.pointer (some ⟨gU, 0, none⟩)]), (G9, 3, #[.int .i64 (filledM m fountain)])] from HLay.out)
    clear hge hfk hlt HS HG9
    gi_wp2
    refine ⟨trivial, (callsIn_wide.2 (between_any 54 #[.pointer (some ⟨G4, 0, none⟩), .pointer (some ⟨w.heap.size, 0, none⟩), .pointer (some ⟨G9, 0, none⟩)] ms[na].length W (by have := HML.out; omega) enters_gone1 HEX.out (fun w1 hw1 nq hnq => gone1_own nq (by omega) gU T fountain A n c rs ms G4 (w.heap.size) G9 rs[na] ms[na] (Truth T.m fountain T.L na) (filledM m fountain) m Av nv cv Aa na ca At nt ct w1 (HTRA.out.below hw1) ((HLay.out.below hw1).blk 2 rfl) ((HLay.out.below hw1).blk 0 rfl) ((HLay.out.below hw1).blk 3 rfl) HRK.out HMK.out HCK.out HRG.out HFD.out))).mono ?_⟩
    rintro e W5 ⟨lo, hi, rfl, hsp, hb⟩
    have HSP := Lib.hid (HF.out lo hi hsp)
    clear hsp
    replace HLay := Lib.hid (HLay.out.below hb)
    clear hb
    have x1_0 := (HLay.out.blk 1 rfl).cell 0
    have z1_0 := (HLay.out.blk 1 rfl).frozen 0
    have x1_1 := (HLay.out.blk 1 rfl).cell 1
    have z1_1 := (HLay.out.blk 1 rfl).frozen 1
    have l1_ := HLay.out.lt 1 rfl
    gi_wp2
    have R2 := ret2' (HLay.out.blk 1 rfl) HLay.out.1 (HLay.out.ge 1 rfl) (.int .i64 (lo)) (.int .i64 (hi))
    have v0 := R2.1.cell 0
    have v1 := R2.1.cell 1
    refine bodyPost_ret (v := .tuple #[.agg #[.int .i64 (lo), .int .i64 (hi)], .int .i64 (0)]) (by simp [results, Try.results11, go_sem, v0, v1]) rfl ?_
    exact ⟨lo, hi, 0, rfl, HSP.out, R2.2.1⟩
  ·
   have hi : inB 1 m.fountains [fountain] = false := by rw [inB_one]; exact decide_eq_false hq
   rw [hi]
   have HF : Hid (GoneIs m fountain (0, 0) 2) := Lib.hid (.inl ⟨by unfold goneM; rw [if_pos HK.out, if_neg hq]; decide, rfl, by unfold goneM; rw [if_pos HK.out, if_neg hq]⟩)
   clear hq hi
   have x1_0 := (HLay.out.blk 1 rfl).cell 0
   have z1_0 := (HLay.out.blk 1 rfl).frozen 0
   have x1_1 := (HLay.out.blk 1 rfl).cell 1
   have z1_1 := (HLay.out.blk 1 rfl).frozen 1
   have l1_ := HLay.out.lt 1 rfl
   gi_wp2
   have R2 := ret2' (HLay.out.blk 1 rfl) HLay.out.1 (HLay.out.ge 1 rfl) (.int .i64 (0)) (.int .i64 (0))
   have v0 := R2.1.cell 0
   have v1 := R2.1.cell 1
   refine bodyPost_ret (v := .tuple #[.agg #[.int .i64 (0), .int .i64 (0)], .int .i64 (2)]) (by simp [results, Try.results11, go_sem, v0, v1]) rfl ?_
   exact ⟨_, _, _, rfl, HF.out, R2.2.1⟩

end Go.Proofs.Ythofngceiecniaa
/- append onto an empty slice without room: nothing that lay is touched. -/
namespace Go.Proofs.Ythofngceiecniaa
open Go.RowKit

theorem run_append_fresh {P : Program} (w : World) (ty : TypeId) {base : Nat} {t e : TypeId} {z : Value} {size bytes : Nat} (EE : ElemAt P t e z size bytes) {ad : Addr} (hown : Own w base e size (some ad) 0 0 [])
  {A2 : Option Addr} {m c B : Nat} {news : List Value} (hR : Reads w B size A2 m news) (h1 : ∀ u ∈ news, u.oneCell' = true) (h63 : m ≤ maxLen) (hbytes : m * bytes ≤ 140737488355328) (hbase : base ≤ w.heap.size) :
  ∃ A' cap' w', (Builtin.append_ #[t, t] ty #[.slice (some ad) 0 0, .slice A2 m c]).run P w = .ok (.slice A' m cap') w' ∧ Own w' base e size A' m cap' news ∧ Below w.heap.size w w' ∧ (A' = some ad ∨ A' = some ⟨w.heap.size, 0, none⟩) := by
 obtain ⟨A', cap', w', hr, h2, h3, h4⟩ := run_append_any (P := P) w ty EE hown hR (c := c) h1 (by omega) (by simpa using hbytes) hbase
 rw [Nat.zero_add] at hr h2
 rw [List.nil_append] at h2
 refine ⟨A', cap', w', hr, h2, ?_, h4⟩
 obtain ⟨i, E⟩ := EE
 rcases Nat.eq_zero_or_pos m with h0 | h0
 ·subst h0
  have hne : news = [] := List.eq_nil_of_length_eq_zero (by rw [hR.1]; simp)
  have hw : w' = w := by
   cases A2 with
   | none =>
    simp [Builtin.append_, run_underlying E.und, sizeOf, typeInfo, E.info, Builtin.lenOf, Builtin.firstCells, storeCells] at hr
    exact hr.2.symm
   | some a2 =>
    simp [Builtin.append_, run_underlying E.und, sizeOf, typeInfo, E.info, Builtin.lenOf, Builtin.firstCells, storeCells, loadCells, loadCellsFrom] at hr
    exact hr.2.symm
  rw [hw]
  exact Below.refl _ _
 ·obtain ⟨B1, cap1, w1, hr1, _, h31, _⟩ := run_append_any (P := P) w ty ⟨i, E⟩ (Own.none_ w base e size) hR (c := c) h1 (by omega) (by simpa using hbytes) hbase
  have hm0 : ¬ (m = 0) := by omega
  have h63i : ¬ (9223372036854775807 < (m : Int)) := by unfold maxLen at h63; omega
  have hcap : Builtin.nextslicecap m 0 = m := by unfold Builtin.nextslicecap; rw [if_pos (by omega)]
  have h48 : ¬ (281474976710656 < m * i.bytes) := by rw [E.ibytes]; omega
  have e1 : (Builtin.append_ #[t, t] ty #[.slice (some ad) 0 0, .slice A2 m c]).run P w = (Builtin.append_ #[t, t] ty #[.slice none 0 0, .slice A2 m c]).run P w := by
   simp [Builtin.append_, run_underlying E.und, sizeOf, typeInfo, E.info, Builtin.lenOf, Builtin.firstCells, hm0, h63i, hcap, h48, loadCells, loadCellsFrom]
  rw [e1] at hr
  rw [Nat.zero_add, hr] at hr1
  cases hr1
  exact (Below.refl _ _).grown h31 (Nat.le_refl _) (fun k hk => by cases hk)
theorem wpListIn_append_fresh {F : Fence} {nn : Nat} {P : Program} {w : World} {ops : Array Oper} {rest : List Oper} {o : Oper} {a : Act} {Q : Exit → Act → World → Prop} (hgd : o.guard = none) (s x : Operand) {t e : TypeId}
  (ho : o.op = .call { callee := .builtin .append, args := #[s, x], argTypes := #[t, t] })
  {z : Value} {size bytes : Nat} (EE : ElemAt P t e z size bytes) {base : Nat} {ad : Addr} (hs : a.eval s = .slice (some ad) 0 0) (hown : Own w base e size (some ad) 0 0 [])
  {A2 : Option Addr} {m c B : Nat} {news : List Value} (hx : a.eval x = .slice A2 m c) (hR : Reads w B size A2 m news) (h1 : ∀ u ∈ news, u.oneCell' = true) (h63 : m ≤ maxLen) (hbytes : m * bytes ≤ 140737488355328) (hbase : base ≤ w.heap.size)
  (h : ∀ A' cap' w', Own w' base e size A' m cap' news → Below w.heap.size w w' → (A' = some ad ∨ A' = some ⟨w.heap.size, 0, none⟩) → wpListIn F nn P ops Q rest (a.put o.dst (.slice A' m cap')) w') :
  wpListIn F nn P ops Q (o :: rest) a w := by
 refine wpListIn_plain hgd fun K hK => ?_
 obtain ⟨A', cap', w', hr, h2, h3, h4⟩ := run_append_fresh (P := P) w o.type EE hown hR (c := c) h1 h63 hbytes hbase
 unfold Oper.wpIn
 refine ⟨?_, ?_⟩
 ·simp [Oper.about, ho, resolve, Target.leads, Sem.run_pure]
 ·rw [Oper.semAt_plain F _ _ (by rw [ho]; intro c hc'; cases hc')]
  unfold execOp
  simp only [ho, resolve, invoke, builtin, Sem.run_bind, Sem.run_pure, Result.andThen_ok, List.map_toArray, List.map_cons, List.map_nil, hs, hx, hr]
  exact hK _ _ (h A' cap' w' h2 h3 h4)
end Go.Proofs.Ythofngceiecniaa
/- aguadorref04.Twin. -/
namespace Go.Proofs.Ythofngceiecniaa
open Go.RowKit

structure TwGh where
 e1 : Nat
 e2 : Nat
 e3 : Nat
 A1 : Option Addr
 c1 : Nat
 A2 : Option Addr
 c2 : Nat
 A3 : Option Addr
 c3 : Nat
/-- Mixed water whose three slices the call owns. -/
structure MixNew (w : World) (base : Nat) (A1 : Option Addr) (nv c1 : Nat) (A2 : Option Addr) (na c2 : Nat) (A3 : Option Addr) (nt c3 : Nat) (m : Mix) : Prop where
 v : Own w base 80 2 A1 nv c1 (m.vessels.flatMap Vess.vals)
 a : Own w base 67 4 A2 na c2 (m.acts.flatMap MAct.vals)
 t : Own w base 65 6 A3 nt c3 (m.tastes.flatMap Tast.vals)
def TwinOut (w : World) (nv na nt : Nat) (m : Mix) (e : Ending) (w' : World) : Prop :=
 ∃ A1 c1 A2 c2 A3 c3, e = .returned (.agg #[.int .i64 m.fountains, .slice A1 nv c1, .slice A2 na c2, .slice A3 nt c3]) ∧ MixNew w' w.heap.size A1 nv c1 A2 na c2 A3 nt c3 m ∧ Below w.heap.size w w'
set_option maxRecDepth 100000 in
set_option maxHeartbeats 16000000 in
theorem twin_in (Av : Option Addr) (nv cv : Nat) (Aa : Option Addr) (na ca : Nat) (At : Option Addr) (nt ct : Nat) (m : Mix) (w : World) (h : MixS w Av nv Aa na At nt m) :
  CallsIn Fence.wide 9 Try.prog 8 #[.agg #[.int .i64 m.fountains, .slice Av nv cv, .slice Aa na ca, .slice At nt ct]] w (TwinOut w nv na nt m) := by
 have HM := Lib.hid h
 have hnv := h.hv
 have hna := h.ha
 have hnt := h.ht
 clear h
 refine callsIn_of_wp Try.func8 rfl trivial ?_ rfl
 simp only [Try.ntmps8, List.size_toArray, List.length_cons, List.length_nil, Nat.reduceAdd, Nat.reduceSub, Array.replicate_succ, Array.replicate_zero, List.push_toArray, List.append_toArray, List.nil_append, List.cons_append]
 gi_wp2
 have HLay := Lib.hid (Lay.two w 26 #[.int .i64 m.fountains, .slice Av nv cv, .slice Aa na ca, .slice At nt ct] 26 #[.int .i64 0, .slice none 0 0, .slice none 0 0, .slice none 0 0])
 generalize ((w.alloc (.cells #[.int .i64 m.fountains, .slice Av nv cv, .slice Aa na ca, .slice At nt ct] 26)).alloc (.cells #[.int .i64 0, .slice none 0 0, .slice none 0 0, .slice none 0 0] 26)) = w0 at *
 have HB0 := Lib.hid HLay.out.1
 have HX0 := Lib.hid (HLay.out.blk 0 rfl)
 have HZ0 := Lib.hid (HLay.out.blk 1 rfl)
 clear HLay
 refine wpIn_region_stepsD (by kernel_rfl) (by kernel_rfl) (fun σ : TwGh × (Nat → Value) => { tmps := #[.agg #[.int .i64 m.fountains, .slice Av nv cv, .slice Aa na ca, .slice At nt ct], .pointer (some ⟨w.heap.size, 0, none⟩), .pointer (some ⟨w.heap.size + 1, 0, none⟩), σ.2 3, σ.2 4, σ.2 5, σ.2 6, σ.2 7, σ.2 8, σ.2 9, σ.2 10, σ.2 11, σ.2 12, σ.2 13, σ.2 14, σ.2 15, σ.2 16, σ.2 17], defers := [] })
  (fun L σ W => (Below w.heap.size w W) ∧ (Blk W w.heap.size 26 #[.int .i64 m.fountains, .slice Av nv cv, .slice Aa na ca, .slice At nt ct]) ∧ (L 15 = false → Blk W (w.heap.size + 1) 26 #[.int .i64 0, .slice none 0 0, .slice none 0 0, .slice none 0 0]) ∧ (L 15 = true → Blk W (w.heap.size + 1) 26 #[.int .i64 m.fountains, .slice σ.1.A1 nv σ.1.c1, .slice σ.1.A2 na σ.1.c2, .slice σ.1.A3 nt σ.1.c3]) ∧ (L 2 = true → L 5 = false → Own W (w.heap.size + 2) 80 2 (some ⟨σ.1.e1, 0, none⟩) 0 0 []) ∧ (L 6 = true → L 9 = false → Own W (w.heap.size + 2) 67 4 (some ⟨σ.1.e2, 0, none⟩) 0 0 []) ∧ (L 10 = true → L 13 = false → Own W (w.heap.size + 2) 65 6 (some ⟨σ.1.e3, 0, none⟩) 0 0 []) ∧ (L 5 = true → Own W (w.heap.size + 2) 80 2 σ.1.A1 nv σ.1.c1 (m.vessels.flatMap Vess.vals)) ∧ (L 9 = true → Own W (w.heap.size + 2) 67 4 σ.1.A2 na σ.1.c2 (m.acts.flatMap MAct.vals)) ∧ (L 13 = true → Own W (w.heap.size + 2) 65 6 σ.1.A3 nt σ.1.c3 (m.tastes.flatMap Tast.vals)) ∧ (L 0 = true → σ.2 3 = .pointer (some ⟨w.heap.size, 0, none⟩)) ∧ (L 1 = true → σ.2 4 = .int .i64 m.fountains) ∧ (L 2 = true → σ.2 5 = .slice (some ⟨σ.1.e1, 0, none⟩) 0 0) ∧ (L 3 = true → σ.2 6 = .pointer (some ⟨w.heap.size, 1, none⟩)) ∧ (L 4 = true → σ.2 7 = .slice Av nv cv) ∧ (L 5 = true → σ.2 8 = .slice σ.1.A1 nv σ.1.c1) ∧ (L 6 = true → σ.2 9 = .slice (some ⟨σ.1.e2, 0, none⟩) 0 0) ∧ (L 7 = true → σ.2 10 = .pointer (some ⟨w.heap.size, 2, none⟩)) ∧ (L 8 = true → σ.2 11 = .slice Aa na ca) ∧ (L 9 = true → σ.2 12 = .slice σ.1.A2 na σ.1.c2) ∧ (L 10 = true → σ.2 13 = .slice (some ⟨σ.1.e3, 0, none⟩) 0 0) ∧ (L 11 = true → σ.2 14 = .pointer (some ⟨w.heap.size, 3, none⟩)) ∧ (L 12 = true → σ.2 15 = .slice At nt ct) ∧ (L 13 = true → σ.2 16 = .slice σ.1.A3 nt σ.1.c3) ∧ (L 14 = true → σ.2 17 = .agg #[.int .i64 m.fountains, .slice σ.1.A1 nv σ.1.c1, .slice σ.1.A2 na σ.1.c2, .slice σ.1.A3 nt σ.1.c3]))
  (⟨0, 0, 0, none, 0, none, 0, none, 0⟩, fun k => undef) rfl ?_ ?_ ?_
 ·exact ⟨below_drewN HB0.out 1, HX0.out.drewN 1, (fun _ => HZ0.out.drewN 1), (fun h => by cases h), (fun h => by cases h), (fun h => by cases h), (fun h => by cases h), (fun h => by cases h), (fun h => by cases h), (fun h => by cases h), (fun h => by cases h), (fun h => by cases h), (fun h => by cases h), (fun h => by cases h), (fun h => by cases h), (fun h => by cases h), (fun h => by cases h), (fun h => by cases h), (fun h => by cases h), (fun h => by cases h), (fun h => by cases h), (fun h => by cases h), (fun h => by cases h), (fun h => by cases h), (fun h => by cases h)⟩
 ·refine ⟨?_, ?_, ?_, ?_, ?_, ?_, ?_, ?_, ?_, ?_, ?_, ?_, ?_, ?_, ?_, ?_, trivial⟩
  ·rintro L ⟨gh, s⟩ W hu hd hdn ⟨g1, m0, gz0, gz1, q1, q2, q3, o1, o2, o3, f0, f1, f2, f3, f4, f5, f6, f7, f8, f9, f10, f11, f12, f13, f14⟩ K Q hK
   try dsimp only at g1 m0 gz0 gz1 q1 q2 q3 o1 o2 o3 f0 f1 f2 f3 f4 f5 f6 f7 f8 f9 f10 f11 f12 f13 f14 ⊢
   have hxl := HX0.out.lt
   have HF := Lib.hid (show (Below w.heap.size w W) ∧ (Blk W w.heap.size 26 #[.int .i64 m.fountains, .slice Av nv cv, .slice Aa na ca, .slice At nt ct]) ∧ (L 15 = false → Blk W (w.heap.size + 1) 26 #[.int .i64 0, .slice none 0 0, .slice none 0 0, .slice none 0 0]) ∧ (L 15 = true → Blk W (w.heap.size + 1) 26 #[.int .i64 m.fountains, .slice gh.A1 nv gh.c1, .slice gh.A2 na gh.c2, .slice gh.A3 nt gh.c3]) ∧ (L 2 = true → L 5 = false → Own W (w.heap.size + 2) 80 2 (some ⟨gh.e1, 0, none⟩) 0 0 []) ∧ (L 6 = true → L 9 = false → Own W (w.heap.size + 2) 67 4 (some ⟨gh.e2, 0, none⟩) 0 0 []) ∧ (L 10 = true → L 13 = false → Own W (w.heap.size + 2) 65 6 (some ⟨gh.e3, 0, none⟩) 0 0 []) ∧ (L 5 = true → Own W (w.heap.size + 2) 80 2 gh.A1 nv gh.c1 (m.vessels.flatMap Vess.vals)) ∧ (L 9 = true → Own W (w.heap.size + 2) 67 4 gh.A2 na gh.c2 (m.acts.flatMap MAct.vals)) ∧ (L 13 = true → Own W (w.heap.size + 2) 65 6 gh.A3 nt gh.c3 (m.tastes.flatMap Tast.vals)) ∧ (L 0 = true → s 3 = .pointer (some ⟨w.heap.size, 0, none⟩)) ∧ (L 1 = true → s 4 = .int .i64 m.fountains) ∧ (L 2 = true → s 5 = .slice (some ⟨gh.e1, 0, none⟩) 0 0) ∧ (L 3 = true → s 6 = .pointer (some ⟨w.heap.size, 1, none⟩)) ∧ (L 4 = true → s 7 = .slice Av nv cv) ∧ (L 5 = true → s 8 = .slice gh.A1 nv gh.c1) ∧ (L 6 = true → s 9 = .slice (some ⟨gh.e2, 0, none⟩) 0 0) ∧ (L 7 = true → s 10 = .pointer (some ⟨w.heap.size, 2, none⟩)) ∧ (L 8 = true → s 11 = .slice Aa na ca) ∧ (L 9 = true → s 12 = .slice gh.A2 na gh.c2) ∧ (L 10 = true → s 13 = .slice (some ⟨gh.e3, 0, none⟩) 0 0) ∧ (L 11 = true → s 14 = .pointer (some ⟨w.heap.size, 3, none⟩)) ∧ (L 12 = true → s 15 = .slice At nt ct) ∧ (L 13 = true → s 16 = .slice gh.A3 nt gh.c3) ∧ (L 14 = true → s 17 = .agg #[.int .i64 m.fountains, .slice gh.A1 nv gh.c1, .slice gh.A2 na gh.c2, .slice gh.A3 nt gh.c3]) from ⟨g1, m0, gz0, gz1, q1, q2, q3, o1, o2, o3, f0, f1, f2, f3, f4, f5, f6, f7, f8, f9, f10, f11, f12, f13, f14⟩)
   clear f14 f13 f12 f11 f10 f9 f8 f7 f6 f5 f4 f3 f2 f1 f0 o3 o2 o1 q3 q2 q1 gz1 gz0 m0 g1 hd
   try simp only
   gi_wp2
   obtain ⟨g1, m0, gz0, gz1, q1, q2, q3, o1, o2, o3, f0, f1, f2, f3, f4, f5, f6, f7, f8, f9, f10, f11, f12, f13, f14⟩ := HF.out
   exact hK (gh, (upd s 3 (.pointer (some ⟨w.heap.size, 0, none⟩)))) _ ⟨g1, m0, gz0, gz1, q1, q2, q3, o1, o2, o3, (fun _ => rfl), f1, f2, f3, f4, f5, f6, f7, f8, f9, f10, f11, f12, f13, f14⟩
  ·rintro L ⟨gh, s⟩ W hu hd hdn ⟨g1, m0, gz0, gz1, q1, q2, q3, o1, o2, o3, f0, f1, f2, f3, f4, f5, f6, f7, f8, f9, f10, f11, f12, f13, f14⟩ K Q hK
   try dsimp only at g1 m0 gz0 gz1 q1 q2 q3 o1 o2 o3 f0 f1 f2 f3 f4 f5 f6 f7 f8 f9 f10 f11 f12 f13 f14 ⊢
   have e0 := f0 (hd.at_ 0 rfl)
   have c0 : W.cell? ⟨w.heap.size, 0, none⟩ = some (.int .i64 m.fountains) := m0.cell 0
   have HF := Lib.hid (show (Below w.heap.size w W) ∧ (Blk W w.heap.size 26 #[.int .i64 m.fountains, .slice Av nv cv, .slice Aa na ca, .slice At nt ct]) ∧ (L 15 = false → Blk W (w.heap.size + 1) 26 #[.int .i64 0, .slice none 0 0, .slice none 0 0, .slice none 0 0]) ∧ (L 15 = true → Blk W (w.heap.size + 1) 26 #[.int .i64 m.fountains, .slice gh.A1 nv gh.c1, .slice gh.A2 na gh.c2, .slice gh.A3 nt gh.c3]) ∧ (L 2 = true → L 5 = false → Own W (w.heap.size + 2) 80 2 (some ⟨gh.e1, 0, none⟩) 0 0 []) ∧ (L 6 = true → L 9 = false → Own W (w.heap.size + 2) 67 4 (some ⟨gh.e2, 0, none⟩) 0 0 []) ∧ (L 10 = true → L 13 = false → Own W (w.heap.size + 2) 65 6 (some ⟨gh.e3, 0, none⟩) 0 0 []) ∧ (L 5 = true → Own W (w.heap.size + 2) 80 2 gh.A1 nv gh.c1 (m.vessels.flatMap Vess.vals)) ∧ (L 9 = true → Own W (w.heap.size + 2) 67 4 gh.A2 na gh.c2 (m.acts.flatMap MAct.vals)) ∧ (L 13 = true → Own W (w.heap.size + 2) 65 6 gh.A3 nt gh.c3 (m.tastes.flatMap Tast.vals)) ∧ (L 0 = true → s 3 = .pointer (some ⟨w.heap.size, 0, none⟩)) ∧ (L 1 = true → s 4 = .int .i64 m.fountains) ∧ (L 2 = true → s 5 = .slice (some ⟨gh.e1, 0, none⟩) 0 0) ∧ (L 3 = true → s 6 = .pointer (some ⟨w.heap.size, 1, none⟩)) ∧ (L 4 = true → s 7 = .slice Av nv cv) ∧ (L 5 = true → s 8 = .slice gh.A1 nv gh.c1) ∧ (L 6 = true → s 9 = .slice (some ⟨gh.e2, 0, none⟩) 0 0) ∧ (L 7 = true → s 10 = .pointer (some ⟨w.heap.size, 2, none⟩)) ∧ (L 8 = true → s 11 = .slice Aa na ca) ∧ (L 9 = true → s 12 = .slice gh.A2 na gh.c2) ∧ (L 10 = true → s 13 = .slice (some ⟨gh.e3, 0, none⟩) 0 0) ∧ (L 11 = true → s 14 = .pointer (some ⟨w.heap.size, 3, none⟩)) ∧ (L 12 = true → s 15 = .slice At nt ct) ∧ (L 13 = true → s 16 = .slice gh.A3 nt gh.c3) ∧ (L 14 = true → s 17 = .agg #[.int .i64 m.fountains, .slice gh.A1 nv gh.c1, .slice gh.A2 na gh.c2, .slice gh.A3 nt gh.c3]) from ⟨g1, m0, gz0, gz1, q1, q2, q3, o1, o2, o3, f0, f1, f2, f3, f4, f5, f6, f7, f8, f9, f10, f11, f12, f13, f14⟩)
   clear f14 f13 f12 f11 f10 f9 f8 f7 f6 f5 f4 f3 f2 f1 f0 o3 o2 o1 q3 q2 q1 gz1 gz0 m0 g1 hd
   try simp only at e0 ⊢
   gi_wp2
   obtain ⟨g1, m0, gz0, gz1, q1, q2, q3, o1, o2, o3, f0, f1, f2, f3, f4, f5, f6, f7, f8, f9, f10, f11, f12, f13, f14⟩ := HF.out
   exact hK (gh, (upd (upd s 3 (.pointer (some ⟨w.heap.size, 0, none⟩))) 4 (.int .i64 m.fountains))) _ ⟨g1, m0, gz0, gz1, q1, q2, q3, o1, o2, o3, (fun _ => rfl), (fun _ => rfl), f2, f3, f4, f5, f6, f7, f8, f9, f10, f11, f12, f13, f14⟩
  ·rintro L ⟨gh, s⟩ W hu hd hdn ⟨g1, m0, gz0, gz1, q1, q2, q3, o1, o2, o3, f0, f1, f2, f3, f4, f5, f6, f7, f8, f9, f10, f11, f12, f13, f14⟩ K Q hK
   try dsimp only at g1 m0 gz0 gz1 q1 q2 q3 o1 o2 o3 f0 f1 f2 f3 f4 f5 f6 f7 f8 f9 f10 f11 f12 f13 f14 ⊢
   have h15 : L 15 = false := by
    cases hc : L 15 with
    | false => rfl
    | true => exact hdn.no 15 2 hc rfl hu
   have hWq : w.heap.size + 2 ≤ W.heap.size := (gz0 h15).lt
   have HWq := Lib.hid hWq
   clear hWq
   have HF := Lib.hid (show (Below w.heap.size w W) ∧ (Blk W w.heap.size 26 #[.int .i64 m.fountains, .slice Av nv cv, .slice Aa na ca, .slice At nt ct]) ∧ (L 15 = false → Blk W (w.heap.size + 1) 26 #[.int .i64 0, .slice none 0 0, .slice none 0 0, .slice none 0 0]) ∧ (L 15 = true → Blk W (w.heap.size + 1) 26 #[.int .i64 m.fountains, .slice gh.A1 nv gh.c1, .slice gh.A2 na gh.c2, .slice gh.A3 nt gh.c3]) ∧ (L 2 = true → L 5 = false → Own W (w.heap.size + 2) 80 2 (some ⟨gh.e1, 0, none⟩) 0 0 []) ∧ (L 6 = true → L 9 = false → Own W (w.heap.size + 2) 67 4 (some ⟨gh.e2, 0, none⟩) 0 0 []) ∧ (L 10 = true → L 13 = false → Own W (w.heap.size + 2) 65 6 (some ⟨gh.e3, 0, none⟩) 0 0 []) ∧ (L 5 = true → Own W (w.heap.size + 2) 80 2 gh.A1 nv gh.c1 (m.vessels.flatMap Vess.vals)) ∧ (L 9 = true → Own W (w.heap.size + 2) 67 4 gh.A2 na gh.c2 (m.acts.flatMap MAct.vals)) ∧ (L 13 = true → Own W (w.heap.size + 2) 65 6 gh.A3 nt gh.c3 (m.tastes.flatMap Tast.vals)) ∧ (L 0 = true → s 3 = .pointer (some ⟨w.heap.size, 0, none⟩)) ∧ (L 1 = true → s 4 = .int .i64 m.fountains) ∧ (L 2 = true → s 5 = .slice (some ⟨gh.e1, 0, none⟩) 0 0) ∧ (L 3 = true → s 6 = .pointer (some ⟨w.heap.size, 1, none⟩)) ∧ (L 4 = true → s 7 = .slice Av nv cv) ∧ (L 5 = true → s 8 = .slice gh.A1 nv gh.c1) ∧ (L 6 = true → s 9 = .slice (some ⟨gh.e2, 0, none⟩) 0 0) ∧ (L 7 = true → s 10 = .pointer (some ⟨w.heap.size, 2, none⟩)) ∧ (L 8 = true → s 11 = .slice Aa na ca) ∧ (L 9 = true → s 12 = .slice gh.A2 na gh.c2) ∧ (L 10 = true → s 13 = .slice (some ⟨gh.e3, 0, none⟩) 0 0) ∧ (L 11 = true → s 14 = .pointer (some ⟨w.heap.size, 3, none⟩)) ∧ (L 12 = true → s 15 = .slice At nt ct) ∧ (L 13 = true → s 16 = .slice gh.A3 nt gh.c3) ∧ (L 14 = true → s 17 = .agg #[.int .i64 m.fountains, .slice gh.A1 nv gh.c1, .slice gh.A2 na gh.c2, .slice gh.A3 nt gh.c3]) from ⟨g1, m0, gz0, gz1, q1, q2, q3, o1, o2, o3, f0, f1, f2, f3, f4, f5, f6, f7, f8, f9, f10, f11, f12, f13, f14⟩)
   clear f14 f13 f12 f11 f10 f9 f8 f7 f6 f5 f4 f3 f2 f1 f0 o3 o2 o1 q3 q2 q1 gz1 gz0 m0 g1 hd
   try simp only
   gi_wp2
   obtain ⟨g1, m0, gz0, gz1, q1, q2, q3, o1, o2, o3, f0, f1, f2, f3, f4, f5, f6, f7, f8, f9, f10, f11, f12, f13, f14⟩ := HF.out
   have hb : Below W.heap.size W (W.alloc (.cells #[] 80)) := (Below.refl _ _).alloc (Nat.le_refl _) _
   exact hK ({ gh with e1 := W.heap.size }, (upd s 5 (.slice (some ⟨W.heap.size, 0, none⟩) 0 0))) _ ⟨(g1.trans (hb.mono g1.size)), (m0.below hb m0.lt), (fun h => (gz0 h).below hb (gz0 h).lt), (fun h => (gz1 h).below hb (gz1 h).lt), (fun _ _ => World.ownsRow_made W #[] 0 HWq.out (Nat.zero_le _) (by simp)), (fun h q => (q2 h q).below hb (Nat.le_refl _)), (fun h q => (q3 h q).below hb (Nat.le_refl _)), (fun h => (o1 h).below hb (Nat.le_refl _)), (fun h => (o2 h).below hb (Nat.le_refl _)), (fun h => (o3 h).below hb (Nat.le_refl _)), f0, f1, (fun _ => rfl), f3, f4, f5, f6, f7, f8, f9, f10, f11, f12, f13, f14⟩
  ·rintro L ⟨gh, s⟩ W hu hd hdn ⟨g1, m0, gz0, gz1, q1, q2, q3, o1, o2, o3, f0, f1, f2, f3, f4, f5, f6, f7, f8, f9, f10, f11, f12, f13, f14⟩ K Q hK
   try dsimp only at g1 m0 gz0 gz1 q1 q2 q3 o1 o2 o3 f0 f1 f2 f3 f4 f5 f6 f7 f8 f9 f10 f11 f12 f13 f14 ⊢
   have HF := Lib.hid (show (Below w.heap.size w W) ∧ (Blk W w.heap.size 26 #[.int .i64 m.fountains, .slice Av nv cv, .slice Aa na ca, .slice At nt ct]) ∧ (L 15 = false → Blk W (w.heap.size + 1) 26 #[.int .i64 0, .slice none 0 0, .slice none 0 0, .slice none 0 0]) ∧ (L 15 = true → Blk W (w.heap.size + 1) 26 #[.int .i64 m.fountains, .slice gh.A1 nv gh.c1, .slice gh.A2 na gh.c2, .slice gh.A3 nt gh.c3]) ∧ (L 2 = true → L 5 = false → Own W (w.heap.size + 2) 80 2 (some ⟨gh.e1, 0, none⟩) 0 0 []) ∧ (L 6 = true → L 9 = false → Own W (w.heap.size + 2) 67 4 (some ⟨gh.e2, 0, none⟩) 0 0 []) ∧ (L 10 = true → L 13 = false → Own W (w.heap.size + 2) 65 6 (some ⟨gh.e3, 0, none⟩) 0 0 []) ∧ (L 5 = true → Own W (w.heap.size + 2) 80 2 gh.A1 nv gh.c1 (m.vessels.flatMap Vess.vals)) ∧ (L 9 = true → Own W (w.heap.size + 2) 67 4 gh.A2 na gh.c2 (m.acts.flatMap MAct.vals)) ∧ (L 13 = true → Own W (w.heap.size + 2) 65 6 gh.A3 nt gh.c3 (m.tastes.flatMap Tast.vals)) ∧ (L 0 = true → s 3 = .pointer (some ⟨w.heap.size, 0, none⟩)) ∧ (L 1 = true → s 4 = .int .i64 m.fountains) ∧ (L 2 = true → s 5 = .slice (some ⟨gh.e1, 0, none⟩) 0 0) ∧ (L 3 = true → s 6 = .pointer (some ⟨w.heap.size, 1, none⟩)) ∧ (L 4 = true → s 7 = .slice Av nv cv) ∧ (L 5 = true → s 8 = .slice gh.A1 nv gh.c1) ∧ (L 6 = true → s 9 = .slice (some ⟨gh.e2, 0, none⟩) 0 0) ∧ (L 7 = true → s 10 = .pointer (some ⟨w.heap.size, 2, none⟩)) ∧ (L 8 = true → s 11 = .slice Aa na ca) ∧ (L 9 = true → s 12 = .slice gh.A2 na gh.c2) ∧ (L 10 = true → s 13 = .slice (some ⟨gh.e3, 0, none⟩) 0 0) ∧ (L 11 = true → s 14 = .pointer (some ⟨w.heap.size, 3, none⟩)) ∧ (L 12 = true → s 15 = .slice At nt ct) ∧ (L 13 = true → s 16 = .slice gh.A3 nt gh.c3) ∧ (L 14 = true → s 17 = .agg #[.int .i64 m.fountains, .slice gh.A1 nv gh.c1, .slice gh.A2 na gh.c2, .slice gh.A3 nt gh.c3]) from ⟨g1, m0, gz0, gz1, q1, q2, q3, o1, o2, o3, f0, f1, f2, f3, f4, f5, f6, f7, f8, f9, f10, f11, f12, f13, f14⟩)
   clear f14 f13 f12 f11 f10 f9 f8 f7 f6 f5 f4 f3 f2 f1 f0 o3 o2 o1 q3 q2 q1 gz1 gz0 m0 g1 hd
   try simp only
   gi_wp2
   obtain ⟨g1, m0, gz0, gz1, q1, q2, q3, o1, o2, o3, f0, f1, f2, f3, f4, f5, f6, f7, f8, f9, f10, f11, f12, f13, f14⟩ := HF.out
   exact hK (gh, (upd s 6 (.pointer (some ⟨w.heap.size, 1, none⟩)))) _ ⟨g1, m0, gz0, gz1, q1, q2, q3, o1, o2, o3, f0, f1, f2, (fun _ => rfl), f4, f5, f6, f7, f8, f9, f10, f11, f12, f13, f14⟩
  ·rintro L ⟨gh, s⟩ W hu hd hdn ⟨g1, m0, gz0, gz1, q1, q2, q3, o1, o2, o3, f0, f1, f2, f3, f4, f5, f6, f7, f8, f9, f10, f11, f12, f13, f14⟩ K Q hK
   try dsimp only at g1 m0 gz0 gz1 q1 q2 q3 o1 o2 o3 f0 f1 f2 f3 f4 f5 f6 f7 f8 f9 f10 f11 f12 f13 f14 ⊢
   have e3 := f3 (hd.at_ 3 rfl)
   have c0 : W.cell? ⟨w.heap.size, 1, none⟩ = some (.slice Av nv cv) := m0.cell 1
   have HF := Lib.hid (show (Below w.heap.size w W) ∧ (Blk W w.heap.size 26 #[.int .i64 m.fountains, .slice Av nv cv, .slice Aa na ca, .slice At nt ct]) ∧ (L 15 = false → Blk W (w.heap.size + 1) 26 #[.int .i64 0, .slice none 0 0, .slice none 0 0, .slice none 0 0]) ∧ (L 15 = true → Blk W (w.heap.size + 1) 26 #[.int .i64 m.fountains, .slice gh.A1 nv gh.c1, .slice gh.A2 na gh.c2, .slice gh.A3 nt gh.c3]) ∧ (L 2 = true → L 5 = false → Own W (w.heap.size + 2) 80 2 (some ⟨gh.e1, 0, none⟩) 0 0 []) ∧ (L 6 = true → L 9 = false → Own W (w.heap.size + 2) 67 4 (some ⟨gh.e2, 0, none⟩) 0 0 []) ∧ (L 10 = true → L 13 = false → Own W (w.heap.size + 2) 65 6 (some ⟨gh.e3, 0, none⟩) 0 0 []) ∧ (L 5 = true → Own W (w.heap.size + 2) 80 2 gh.A1 nv gh.c1 (m.vessels.flatMap Vess.vals)) ∧ (L 9 = true → Own W (w.heap.size + 2) 67 4 gh.A2 na gh.c2 (m.acts.flatMap MAct.vals)) ∧ (L 13 = true → Own W (w.heap.size + 2) 65 6 gh.A3 nt gh.c3 (m.tastes.flatMap Tast.vals)) ∧ (L 0 = true → s 3 = .pointer (some ⟨w.heap.size, 0, none⟩)) ∧ (L 1 = true → s 4 = .int .i64 m.fountains) ∧ (L 2 = true → s 5 = .slice (some ⟨gh.e1, 0, none⟩) 0 0) ∧ (L 3 = true → s 6 = .pointer (some ⟨w.heap.size, 1, none⟩)) ∧ (L 4 = true → s 7 = .slice Av nv cv) ∧ (L 5 = true → s 8 = .slice gh.A1 nv gh.c1) ∧ (L 6 = true → s 9 = .slice (some ⟨gh.e2, 0, none⟩) 0 0) ∧ (L 7 = true → s 10 = .pointer (some ⟨w.heap.size, 2, none⟩)) ∧ (L 8 = true → s 11 = .slice Aa na ca) ∧ (L 9 = true → s 12 = .slice gh.A2 na gh.c2) ∧ (L 10 = true → s 13 = .slice (some ⟨gh.e3, 0, none⟩) 0 0) ∧ (L 11 = true → s 14 = .pointer (some ⟨w.heap.size, 3, none⟩)) ∧ (L 12 = true → s 15 = .slice At nt ct) ∧ (L 13 = true → s 16 = .slice gh.A3 nt gh.c3) ∧ (L 14 = true → s 17 = .agg #[.int .i64 m.fountains, .slice gh.A1 nv gh.c1, .slice gh.A2 na gh.c2, .slice gh.A3 nt gh.c3]) from ⟨g1, m0, gz0, gz1, q1, q2, q3, o1, o2, o3, f0, f1, f2, f3, f4, f5, f6, f7, f8, f9, f10, f11, f12, f13, f14⟩)
   clear f14 f13 f12 f11 f10 f9 f8 f7 f6 f5 f4 f3 f2 f1 f0 o3 o2 o1 q3 q2 q1 gz1 gz0 m0 g1 hd
   try simp only at e3 ⊢
   gi_wp2
   obtain ⟨g1, m0, gz0, gz1, q1, q2, q3, o1, o2, o3, f0, f1, f2, f3, f4, f5, f6, f7, f8, f9, f10, f11, f12, f13, f14⟩ := HF.out
   exact hK (gh, (upd (upd s 6 (.pointer (some ⟨w.heap.size, 1, none⟩))) 7 (.slice Av nv cv))) _ ⟨g1, m0, gz0, gz1, q1, q2, q3, o1, o2, o3, f0, f1, f2, (fun _ => rfl), (fun _ => rfl), f5, f6, f7, f8, f9, f10, f11, f12, f13, f14⟩
  ·rintro L ⟨gh, s⟩ W hu hd hdn ⟨g1, m0, gz0, gz1, q1, q2, q3, o1, o2, o3, f0, f1, f2, f3, f4, f5, f6, f7, f8, f9, f10, f11, f12, f13, f14⟩ K Q hK
   try dsimp only at g1 m0 gz0 gz1 q1 q2 q3 o1 o2 o3 f0 f1 f2 f3 f4 f5 f6 f7 f8 f9 f10 f11 f12 f13 f14 ⊢
   have e2 := f2 (hd.at_ 2 rfl)
   have e4 := f4 (hd.at_ 4 rfl)
   have h15 : L 15 = false := by
    cases hc : L 15 with
    | false => rfl
    | true => exact hdn.no 15 5 hc rfl hu
   have h14 : L 14 = false := by
    cases hc : L 14 with
    | false => rfl
    | true => exact hdn.no 14 5 hc rfl hu
   have hWq : w.heap.size + 2 ≤ W.heap.size := (gz0 h15).lt
   have HWq := Lib.hid hWq
   clear hWq
   have HE := Lib.hid (q1 (hd.at_ 2 rfl) hu)
   have HG1 := Lib.hid g1
   have HF := Lib.hid (show (Below w.heap.size w W) ∧ (Blk W w.heap.size 26 #[.int .i64 m.fountains, .slice Av nv cv, .slice Aa na ca, .slice At nt ct]) ∧ (L 15 = false → Blk W (w.heap.size + 1) 26 #[.int .i64 0, .slice none 0 0, .slice none 0 0, .slice none 0 0]) ∧ (L 15 = true → Blk W (w.heap.size + 1) 26 #[.int .i64 m.fountains, .slice gh.A1 nv gh.c1, .slice gh.A2 na gh.c2, .slice gh.A3 nt gh.c3]) ∧ (L 2 = true → L 5 = false → Own W (w.heap.size + 2) 80 2 (some ⟨gh.e1, 0, none⟩) 0 0 []) ∧ (L 6 = true → L 9 = false → Own W (w.heap.size + 2) 67 4 (some ⟨gh.e2, 0, none⟩) 0 0 []) ∧ (L 10 = true → L 13 = false → Own W (w.heap.size + 2) 65 6 (some ⟨gh.e3, 0, none⟩) 0 0 []) ∧ (L 5 = true → Own W (w.heap.size + 2) 80 2 gh.A1 nv gh.c1 (m.vessels.flatMap Vess.vals)) ∧ (L 9 = true → Own W (w.heap.size + 2) 67 4 gh.A2 na gh.c2 (m.acts.flatMap MAct.vals)) ∧ (L 13 = true → Own W (w.heap.size + 2) 65 6 gh.A3 nt gh.c3 (m.tastes.flatMap Tast.vals)) ∧ (L 0 = true → s 3 = .pointer (some ⟨w.heap.size, 0, none⟩)) ∧ (L 1 = true → s 4 = .int .i64 m.fountains) ∧ (L 2 = true → s 5 = .slice (some ⟨gh.e1, 0, none⟩) 0 0) ∧ (L 3 = true → s 6 = .pointer (some ⟨w.heap.size, 1, none⟩)) ∧ (L 4 = true → s 7 = .slice Av nv cv) ∧ (L 5 = true → s 8 = .slice gh.A1 nv gh.c1) ∧ (L 6 = true → s 9 = .slice (some ⟨gh.e2, 0, none⟩) 0 0) ∧ (L 7 = true → s 10 = .pointer (some ⟨w.heap.size, 2, none⟩)) ∧ (L 8 = true → s 11 = .slice Aa na ca) ∧ (L 9 = true → s 12 = .slice gh.A2 na gh.c2) ∧ (L 10 = true → s 13 = .slice (some ⟨gh.e3, 0, none⟩) 0 0) ∧ (L 11 = true → s 14 = .pointer (some ⟨w.heap.size, 3, none⟩)) ∧ (L 12 = true → s 15 = .slice At nt ct) ∧ (L 13 = true → s 16 = .slice gh.A3 nt gh.c3) ∧ (L 14 = true → s 17 = .agg #[.int .i64 m.fountains, .slice gh.A1 nv gh.c1, .slice gh.A2 na gh.c2, .slice gh.A3 nt gh.c3]) from ⟨g1, m0, gz0, gz1, q1, q2, q3, o1, o2, o3, f0, f1, f2, f3, f4, f5, f6, f7, f8, f9, f10, f11, f12, f13, f14⟩)
   clear f14 f13 f12 f11 f10 f9 f8 f7 f6 f5 f4 f3 f2 f1 f0 o3 o2 o1 q3 q2 q1 gz1 gz0 m0 g1 hd
   try simp only at e2 e4 ⊢
   gi_wp2_with (first | (gi_at_builtin; refine wpListIn_append_fresh rfl (.tmp 5) (.tmp 7) (by rfl) elem_vess e2 HE.out e4 ((HM.out.at_.up HG1.out).vessels) (vess_one m.vessels) (by unfold maxLen; omega) (by omega) HWq.out ?_) | fail)
   rintro AN cN W1 hO hb hA
   gi_wp2
   obtain ⟨g1, m0, gz0, gz1, q1, q2, q3, o1, o2, o3, f0, f1, f2, f3, f4, f5, f6, f7, f8, f9, f10, f11, f12, f13, f14⟩ := HF.out
   exact hK ({ gh with A1 := AN, c1 := cN }, (upd (upd (upd s 5 (.slice (some ⟨gh.e1, 0, none⟩) 0 0)) 7 (.slice Av nv cv)) 8 (.slice AN nv cN))) _ ⟨(g1.trans (hb.mono g1.size)), (m0.below hb m0.lt), (fun h => (gz0 h).below hb (gz0 h).lt), (fun h => absurd (h15.symm.trans h) (by decide)), (fun _ h => by cases h), (fun h q => (q2 h q).below hb (Nat.le_refl _)), (fun h q => (q3 h q).below hb (Nat.le_refl _)), (fun _ => hO), (fun h => (o2 h).below hb (Nat.le_refl _)), (fun h => (o3 h).below hb (Nat.le_refl _)), f0, f1, (fun _ => rfl), f3, (fun _ => rfl), (fun _ => rfl), f6, f7, f8, f9, f10, f11, f12, f13, (fun h => absurd (h14.symm.trans h) (by decide))⟩
  ·rintro L ⟨gh, s⟩ W hu hd hdn ⟨g1, m0, gz0, gz1, q1, q2, q3, o1, o2, o3, f0, f1, f2, f3, f4, f5, f6, f7, f8, f9, f10, f11, f12, f13, f14⟩ K Q hK
   try dsimp only at g1 m0 gz0 gz1 q1 q2 q3 o1 o2 o3 f0 f1 f2 f3 f4 f5 f6 f7 f8 f9 f10 f11 f12 f13 f14 ⊢
   have h15 : L 15 = false := by
    cases hc : L 15 with
    | false => rfl
    | true => exact hdn.no 15 6 hc rfl hu
   have hWq : w.heap.size + 2 ≤ W.heap.size := (gz0 h15).lt
   have HWq := Lib.hid hWq
   clear hWq
   have HF := Lib.hid (show (Below w.heap.size w W) ∧ (Blk W w.heap.size 26 #[.int .i64 m.fountains, .slice Av nv cv, .slice Aa na ca, .slice At nt ct]) ∧ (L 15 = false → Blk W (w.heap.size + 1) 26 #[.int .i64 0, .slice none 0 0, .slice none 0 0, .slice none 0 0]) ∧ (L 15 = true → Blk W (w.heap.size + 1) 26 #[.int .i64 m.fountains, .slice gh.A1 nv gh.c1, .slice gh.A2 na gh.c2, .slice gh.A3 nt gh.c3]) ∧ (L 2 = true → L 5 = false → Own W (w.heap.size + 2) 80 2 (some ⟨gh.e1, 0, none⟩) 0 0 []) ∧ (L 6 = true → L 9 = false → Own W (w.heap.size + 2) 67 4 (some ⟨gh.e2, 0, none⟩) 0 0 []) ∧ (L 10 = true → L 13 = false → Own W (w.heap.size + 2) 65 6 (some ⟨gh.e3, 0, none⟩) 0 0 []) ∧ (L 5 = true → Own W (w.heap.size + 2) 80 2 gh.A1 nv gh.c1 (m.vessels.flatMap Vess.vals)) ∧ (L 9 = true → Own W (w.heap.size + 2) 67 4 gh.A2 na gh.c2 (m.acts.flatMap MAct.vals)) ∧ (L 13 = true → Own W (w.heap.size + 2) 65 6 gh.A3 nt gh.c3 (m.tastes.flatMap Tast.vals)) ∧ (L 0 = true → s 3 = .pointer (some ⟨w.heap.size, 0, none⟩)) ∧ (L 1 = true → s 4 = .int .i64 m.fountains) ∧ (L 2 = true → s 5 = .slice (some ⟨gh.e1, 0, none⟩) 0 0) ∧ (L 3 = true → s 6 = .pointer (some ⟨w.heap.size, 1, none⟩)) ∧ (L 4 = true → s 7 = .slice Av nv cv) ∧ (L 5 = true → s 8 = .slice gh.A1 nv gh.c1) ∧ (L 6 = true → s 9 = .slice (some ⟨gh.e2, 0, none⟩) 0 0) ∧ (L 7 = true → s 10 = .pointer (some ⟨w.heap.size, 2, none⟩)) ∧ (L 8 = true → s 11 = .slice Aa na ca) ∧ (L 9 = true → s 12 = .slice gh.A2 na gh.c2) ∧ (L 10 = true → s 13 = .slice (some ⟨gh.e3, 0, none⟩) 0 0) ∧ (L 11 = true → s 14 = .pointer (some ⟨w.heap.size, 3, none⟩)) ∧ (L 12 = true → s 15 = .slice At nt ct) ∧ (L 13 = true → s 16 = .slice gh.A3 nt gh.c3) ∧ (L 14 = true → s 17 = .agg #[.int .i64 m.fountains, .slice gh.A1 nv gh.c1, .slice gh.A2 na gh.c2, .slice gh.A3 nt gh.c3]) from ⟨g1, m0, gz0, gz1, q1, q2, q3, o1, o2, o3, f0, f1, f2, f3, f4, f5, f6, f7, f8, f9, f10, f11, f12, f13, f14⟩)
   clear f14 f13 f12 f11 f10 f9 f8 f7 f6 f5 f4 f3 f2 f1 f0 o3 o2 o1 q3 q2 q1 gz1 gz0 m0 g1 hd
   try simp only
   gi_wp2
   obtain ⟨g1, m0, gz0, gz1, q1, q2, q3, o1, o2, o3, f0, f1, f2, f3, f4, f5, f6, f7, f8, f9, f10, f11, f12, f13, f14⟩ := HF.out
   have hb : Below W.heap.size W (W.alloc (.cells #[] 67)) := (Below.refl _ _).alloc (Nat.le_refl _) _
   exact hK ({ gh with e2 := W.heap.size }, (upd s 9 (.slice (some ⟨W.heap.size, 0, none⟩) 0 0))) _ ⟨(g1.trans (hb.mono g1.size)), (m0.below hb m0.lt), (fun h => (gz0 h).below hb (gz0 h).lt), (fun h => (gz1 h).below hb (gz1 h).lt), (fun h q => (q1 h q).below hb (Nat.le_refl _)), (fun _ _ => World.ownsRow_made W #[] 0 HWq.out (Nat.zero_le _) (by simp)), (fun h q => (q3 h q).below hb (Nat.le_refl _)), (fun h => (o1 h).below hb (Nat.le_refl _)), (fun h => (o2 h).below hb (Nat.le_refl _)), (fun h => (o3 h).below hb (Nat.le_refl _)), f0, f1, f2, f3, f4, f5, (fun _ => rfl), f7, f8, f9, f10, f11, f12, f13, f14⟩
  ·rintro L ⟨gh, s⟩ W hu hd hdn ⟨g1, m0, gz0, gz1, q1, q2, q3, o1, o2, o3, f0, f1, f2, f3, f4, f5, f6, f7, f8, f9, f10, f11, f12, f13, f14⟩ K Q hK
   try dsimp only at g1 m0 gz0 gz1 q1 q2 q3 o1 o2 o3 f0 f1 f2 f3 f4 f5 f6 f7 f8 f9 f10 f11 f12 f13 f14 ⊢
   have HF := Lib.hid (show (Below w.heap.size w W) ∧ (Blk W w.heap.size 26 #[.int .i64 m.fountains, .slice Av nv cv, .slice Aa na ca, .slice At nt ct]) ∧ (L 15 = false → Blk W (w.heap.size + 1) 26 #[.int .i64 0, .slice none 0 0, .slice none 0 0, .slice none 0 0]) ∧ (L 15 = true → Blk W (w.heap.size + 1) 26 #[.int .i64 m.fountains, .slice gh.A1 nv gh.c1, .slice gh.A2 na gh.c2, .slice gh.A3 nt gh.c3]) ∧ (L 2 = true → L 5 = false → Own W (w.heap.size + 2) 80 2 (some ⟨gh.e1, 0, none⟩) 0 0 []) ∧ (L 6 = true → L 9 = false → Own W (w.heap.size + 2) 67 4 (some ⟨gh.e2, 0, none⟩) 0 0 []) ∧ (L 10 = true → L 13 = false → Own W (w.heap.size + 2) 65 6 (some ⟨gh.e3, 0, none⟩) 0 0 []) ∧ (L 5 = true → Own W (w.heap.size + 2) 80 2 gh.A1 nv gh.c1 (m.vessels.flatMap Vess.vals)) ∧ (L 9 = true → Own W (w.heap.size + 2) 67 4 gh.A2 na gh.c2 (m.acts.flatMap MAct.vals)) ∧ (L 13 = true → Own W (w.heap.size + 2) 65 6 gh.A3 nt gh.c3 (m.tastes.flatMap Tast.vals)) ∧ (L 0 = true → s 3 = .pointer (some ⟨w.heap.size, 0, none⟩)) ∧ (L 1 = true → s 4 = .int .i64 m.fountains) ∧ (L 2 = true → s 5 = .slice (some ⟨gh.e1, 0, none⟩) 0 0) ∧ (L 3 = true → s 6 = .pointer (some ⟨w.heap.size, 1, none⟩)) ∧ (L 4 = true → s 7 = .slice Av nv cv) ∧ (L 5 = true → s 8 = .slice gh.A1 nv gh.c1) ∧ (L 6 = true → s 9 = .slice (some ⟨gh.e2, 0, none⟩) 0 0) ∧ (L 7 = true → s 10 = .pointer (some ⟨w.heap.size, 2, none⟩)) ∧ (L 8 = true → s 11 = .slice Aa na ca) ∧ (L 9 = true → s 12 = .slice gh.A2 na gh.c2) ∧ (L 10 = true → s 13 = .slice (some ⟨gh.e3, 0, none⟩) 0 0) ∧ (L 11 = true → s 14 = .pointer (some ⟨w.heap.size, 3, none⟩)) ∧ (L 12 = true → s 15 = .slice At nt ct) ∧ (L 13 = true → s 16 = .slice gh.A3 nt gh.c3) ∧ (L 14 = true → s 17 = .agg #[.int .i64 m.fountains, .slice gh.A1 nv gh.c1, .slice gh.A2 na gh.c2, .slice gh.A3 nt gh.c3]) from ⟨g1, m0, gz0, gz1, q1, q2, q3, o1, o2, o3, f0, f1, f2, f3, f4, f5, f6, f7, f8, f9, f10, f11, f12, f13, f14⟩)
   clear f14 f13 f12 f11 f10 f9 f8 f7 f6 f5 f4 f3 f2 f1 f0 o3 o2 o1 q3 q2 q1 gz1 gz0 m0 g1 hd
   try simp only
   gi_wp2
   obtain ⟨g1, m0, gz0, gz1, q1, q2, q3, o1, o2, o3, f0, f1, f2, f3, f4, f5, f6, f7, f8, f9, f10, f11, f12, f13, f14⟩ := HF.out
   exact hK (gh, (upd s 10 (.pointer (some ⟨w.heap.size, 2, none⟩)))) _ ⟨g1, m0, gz0, gz1, q1, q2, q3, o1, o2, o3, f0, f1, f2, f3, f4, f5, f6, (fun _ => rfl), f8, f9, f10, f11, f12, f13, f14⟩
  ·rintro L ⟨gh, s⟩ W hu hd hdn ⟨g1, m0, gz0, gz1, q1, q2, q3, o1, o2, o3, f0, f1, f2, f3, f4, f5, f6, f7, f8, f9, f10, f11, f12, f13, f14⟩ K Q hK
   try dsimp only at g1 m0 gz0 gz1 q1 q2 q3 o1 o2 o3 f0 f1 f2 f3 f4 f5 f6 f7 f8 f9 f10 f11 f12 f13 f14 ⊢
   have e7 := f7 (hd.at_ 7 rfl)
   have c0 : W.cell? ⟨w.heap.size, 2, none⟩ = some (.slice Aa na ca) := m0.cell 2
   have HF := Lib.hid (show (Below w.heap.size w W) ∧ (Blk W w.heap.size 26 #[.int .i64 m.fountains, .slice Av nv cv, .slice Aa na ca, .slice At nt ct]) ∧ (L 15 = false → Blk W (w.heap.size + 1) 26 #[.int .i64 0, .slice none 0 0, .slice none 0 0, .slice none 0 0]) ∧ (L 15 = true → Blk W (w.heap.size + 1) 26 #[.int .i64 m.fountains, .slice gh.A1 nv gh.c1, .slice gh.A2 na gh.c2, .slice gh.A3 nt gh.c3]) ∧ (L 2 = true → L 5 = false → Own W (w.heap.size + 2) 80 2 (some ⟨gh.e1, 0, none⟩) 0 0 []) ∧ (L 6 = true → L 9 = false → Own W (w.heap.size + 2) 67 4 (some ⟨gh.e2, 0, none⟩) 0 0 []) ∧ (L 10 = true → L 13 = false → Own W (w.heap.size + 2) 65 6 (some ⟨gh.e3, 0, none⟩) 0 0 []) ∧ (L 5 = true → Own W (w.heap.size + 2) 80 2 gh.A1 nv gh.c1 (m.vessels.flatMap Vess.vals)) ∧ (L 9 = true → Own W (w.heap.size + 2) 67 4 gh.A2 na gh.c2 (m.acts.flatMap MAct.vals)) ∧ (L 13 = true → Own W (w.heap.size + 2) 65 6 gh.A3 nt gh.c3 (m.tastes.flatMap Tast.vals)) ∧ (L 0 = true → s 3 = .pointer (some ⟨w.heap.size, 0, none⟩)) ∧ (L 1 = true → s 4 = .int .i64 m.fountains) ∧ (L 2 = true → s 5 = .slice (some ⟨gh.e1, 0, none⟩) 0 0) ∧ (L 3 = true → s 6 = .pointer (some ⟨w.heap.size, 1, none⟩)) ∧ (L 4 = true → s 7 = .slice Av nv cv) ∧ (L 5 = true → s 8 = .slice gh.A1 nv gh.c1) ∧ (L 6 = true → s 9 = .slice (some ⟨gh.e2, 0, none⟩) 0 0) ∧ (L 7 = true → s 10 = .pointer (some ⟨w.heap.size, 2, none⟩)) ∧ (L 8 = true → s 11 = .slice Aa na ca) ∧ (L 9 = true → s 12 = .slice gh.A2 na gh.c2) ∧ (L 10 = true → s 13 = .slice (some ⟨gh.e3, 0, none⟩) 0 0) ∧ (L 11 = true → s 14 = .pointer (some ⟨w.heap.size, 3, none⟩)) ∧ (L 12 = true → s 15 = .slice At nt ct) ∧ (L 13 = true → s 16 = .slice gh.A3 nt gh.c3) ∧ (L 14 = true → s 17 = .agg #[.int .i64 m.fountains, .slice gh.A1 nv gh.c1, .slice gh.A2 na gh.c2, .slice gh.A3 nt gh.c3]) from ⟨g1, m0, gz0, gz1, q1, q2, q3, o1, o2, o3, f0, f1, f2, f3, f4, f5, f6, f7, f8, f9, f10, f11, f12, f13, f14⟩)
   clear f14 f13 f12 f11 f10 f9 f8 f7 f6 f5 f4 f3 f2 f1 f0 o3 o2 o1 q3 q2 q1 gz1 gz0 m0 g1 hd
   try simp only at e7 ⊢
   gi_wp2
   obtain ⟨g1, m0, gz0, gz1, q1, q2, q3, o1, o2, o3, f0, f1, f2, f3, f4, f5, f6, f7, f8, f9, f10, f11, f12, f13, f14⟩ := HF.out
   exact hK (gh, (upd (upd s 10 (.pointer (some ⟨w.heap.size, 2, none⟩))) 11 (.slice Aa na ca))) _ ⟨g1, m0, gz0, gz1, q1, q2, q3, o1, o2, o3, f0, f1, f2, f3, f4, f5, f6, (fun _ => rfl), (fun _ => rfl), f9, f10, f11, f12, f13, f14⟩
  ·rintro L ⟨gh, s⟩ W hu hd hdn ⟨g1, m0, gz0, gz1, q1, q2, q3, o1, o2, o3, f0, f1, f2, f3, f4, f5, f6, f7, f8, f9, f10, f11, f12, f13, f14⟩ K Q hK
   try dsimp only at g1 m0 gz0 gz1 q1 q2 q3 o1 o2 o3 f0 f1 f2 f3 f4 f5 f6 f7 f8 f9 f10 f11 f12 f13 f14 ⊢
   have e6 := f6 (hd.at_ 6 rfl)
   have e8 := f8 (hd.at_ 8 rfl)
   have h15 : L 15 = false := by
    cases hc : L 15 with
    | false => rfl
    | true => exact hdn.no 15 9 hc rfl hu
   have h14 : L 14 = false := by
    cases hc : L 14 with
    | false => rfl
    | true => exact hdn.no 14 9 hc rfl hu
   have hWq : w.heap.size + 2 ≤ W.heap.size := (gz0 h15).lt
   have HWq := Lib.hid hWq
   clear hWq
   have HE := Lib.hid (q2 (hd.at_ 6 rfl) hu)
   have HG1 := Lib.hid g1
   have HF := Lib.hid (show (Below w.heap.size w W) ∧ (Blk W w.heap.size 26 #[.int .i64 m.fountains, .slice Av nv cv, .slice Aa na ca, .slice At nt ct]) ∧ (L 15 = false → Blk W (w.heap.size + 1) 26 #[.int .i64 0, .slice none 0 0, .slice none 0 0, .slice none 0 0]) ∧ (L 15 = true → Blk W (w.heap.size + 1) 26 #[.int .i64 m.fountains, .slice gh.A1 nv gh.c1, .slice gh.A2 na gh.c2, .slice gh.A3 nt gh.c3]) ∧ (L 2 = true → L 5 = false → Own W (w.heap.size + 2) 80 2 (some ⟨gh.e1, 0, none⟩) 0 0 []) ∧ (L 6 = true → L 9 = false → Own W (w.heap.size + 2) 67 4 (some ⟨gh.e2, 0, none⟩) 0 0 []) ∧ (L 10 = true → L 13 = false → Own W (w.heap.size + 2) 65 6 (some ⟨gh.e3, 0, none⟩) 0 0 []) ∧ (L 5 = true → Own W (w.heap.size + 2) 80 2 gh.A1 nv gh.c1 (m.vessels.flatMap Vess.vals)) ∧ (L 9 = true → Own W (w.heap.size + 2) 67 4 gh.A2 na gh.c2 (m.acts.flatMap MAct.vals)) ∧ (L 13 = true → Own W (w.heap.size + 2) 65 6 gh.A3 nt gh.c3 (m.tastes.flatMap Tast.vals)) ∧ (L 0 = true → s 3 = .pointer (some ⟨w.heap.size, 0, none⟩)) ∧ (L 1 = true → s 4 = .int .i64 m.fountains) ∧ (L 2 = true → s 5 = .slice (some ⟨gh.e1, 0, none⟩) 0 0) ∧ (L 3 = true → s 6 = .pointer (some ⟨w.heap.size, 1, none⟩)) ∧ (L 4 = true → s 7 = .slice Av nv cv) ∧ (L 5 = true → s 8 = .slice gh.A1 nv gh.c1) ∧ (L 6 = true → s 9 = .slice (some ⟨gh.e2, 0, none⟩) 0 0) ∧ (L 7 = true → s 10 = .pointer (some ⟨w.heap.size, 2, none⟩)) ∧ (L 8 = true → s 11 = .slice Aa na ca) ∧ (L 9 = true → s 12 = .slice gh.A2 na gh.c2) ∧ (L 10 = true → s 13 = .slice (some ⟨gh.e3, 0, none⟩) 0 0) ∧ (L 11 = true → s 14 = .pointer (some ⟨w.heap.size, 3, none⟩)) ∧ (L 12 = true → s 15 = .slice At nt ct) ∧ (L 13 = true → s 16 = .slice gh.A3 nt gh.c3) ∧ (L 14 = true → s 17 = .agg #[.int .i64 m.fountains, .slice gh.A1 nv gh.c1, .slice gh.A2 na gh.c2, .slice gh.A3 nt gh.c3]) from ⟨g1, m0, gz0, gz1, q1, q2, q3, o1, o2, o3, f0, f1, f2, f3, f4, f5, f6, f7, f8, f9, f10, f11, f12, f13, f14⟩)
   clear f14 f13 f12 f11 f10 f9 f8 f7 f6 f5 f4 f3 f2 f1 f0 o3 o2 o1 q3 q2 q1 gz1 gz0 m0 g1 hd
   try simp only at e6 e8 ⊢
   gi_wp2_with (first | (gi_at_builtin; refine wpListIn_append_fresh rfl (.tmp 9) (.tmp 11) (by rfl) elem_act e6 HE.out e8 ((HM.out.at_.up HG1.out).acts) (act_one m.acts) (by unfold maxLen; omega) (by omega) HWq.out ?_) | fail)
   rintro AN cN W1 hO hb hA
   gi_wp2
   obtain ⟨g1, m0, gz0, gz1, q1, q2, q3, o1, o2, o3, f0, f1, f2, f3, f4, f5, f6, f7, f8, f9, f10, f11, f12, f13, f14⟩ := HF.out
   exact hK ({ gh with A2 := AN, c2 := cN }, (upd (upd (upd s 9 (.slice (some ⟨gh.e2, 0, none⟩) 0 0)) 11 (.slice Aa na ca)) 12 (.slice AN na cN))) _ ⟨(g1.trans (hb.mono g1.size)), (m0.below hb m0.lt), (fun h => (gz0 h).below hb (gz0 h).lt), (fun h => absurd (h15.symm.trans h) (by decide)), (fun h q => (q1 h q).below hb (Nat.le_refl _)), (fun _ h => by cases h), (fun h q => (q3 h q).below hb (Nat.le_refl _)), (fun h => (o1 h).below hb (Nat.le_refl _)), (fun _ => hO), (fun h => (o3 h).below hb (Nat.le_refl _)), f0, f1, f2, f3, f4, f5, (fun _ => rfl), f7, (fun _ => rfl), (fun _ => rfl), f10, f11, f12, f13, (fun h => absurd (h14.symm.trans h) (by decide))⟩
  ·rintro L ⟨gh, s⟩ W hu hd hdn ⟨g1, m0, gz0, gz1, q1, q2, q3, o1, o2, o3, f0, f1, f2, f3, f4, f5, f6, f7, f8, f9, f10, f11, f12, f13, f14⟩ K Q hK
   try dsimp only at g1 m0 gz0 gz1 q1 q2 q3 o1 o2 o3 f0 f1 f2 f3 f4 f5 f6 f7 f8 f9 f10 f11 f12 f13 f14 ⊢
   have h15 : L 15 = false := by
    cases hc : L 15 with
    | false => rfl
    | true => exact hdn.no 15 10 hc rfl hu
   have hWq : w.heap.size + 2 ≤ W.heap.size := (gz0 h15).lt
   have HWq := Lib.hid hWq
   clear hWq
   have HF := Lib.hid (show (Below w.heap.size w W) ∧ (Blk W w.heap.size 26 #[.int .i64 m.fountains, .slice Av nv cv, .slice Aa na ca, .slice At nt ct]) ∧ (L 15 = false → Blk W (w.heap.size + 1) 26 #[.int .i64 0, .slice none 0 0, .slice none 0 0, .slice none 0 0]) ∧ (L 15 = true → Blk W (w.heap.size + 1) 26 #[.int .i64 m.fountains, .slice gh.A1 nv gh.c1, .slice gh.A2 na gh.c2, .slice gh.A3 nt gh.c3]) ∧ (L 2 = true → L 5 = false → Own W (w.heap.size + 2) 80 2 (some ⟨gh.e1, 0, none⟩) 0 0 []) ∧ (L 6 = true → L 9 = false → Own W (w.heap.size + 2) 67 4 (some ⟨gh.e2, 0, none⟩) 0 0 []) ∧ (L 10 = true → L 13 = false → Own W (w.heap.size + 2) 65 6 (some ⟨gh.e3, 0, none⟩) 0 0 []) ∧ (L 5 = true → Own W (w.heap.size + 2) 80 2 gh.A1 nv gh.c1 (m.vessels.flatMap Vess.vals)) ∧ (L 9 = true → Own W (w.heap.size + 2) 67 4 gh.A2 na gh.c2 (m.acts.flatMap MAct.vals)) ∧ (L 13 = true → Own W (w.heap.size + 2) 65 6 gh.A3 nt gh.c3 (m.tastes.flatMap Tast.vals)) ∧ (L 0 = true → s 3 = .pointer (some ⟨w.heap.size, 0, none⟩)) ∧ (L 1 = true → s 4 = .int .i64 m.fountains) ∧ (L 2 = true → s 5 = .slice (some ⟨gh.e1, 0, none⟩) 0 0) ∧ (L 3 = true → s 6 = .pointer (some ⟨w.heap.size, 1, none⟩)) ∧ (L 4 = true → s 7 = .slice Av nv cv) ∧ (L 5 = true → s 8 = .slice gh.A1 nv gh.c1) ∧ (L 6 = true → s 9 = .slice (some ⟨gh.e2, 0, none⟩) 0 0) ∧ (L 7 = true → s 10 = .pointer (some ⟨w.heap.size, 2, none⟩)) ∧ (L 8 = true → s 11 = .slice Aa na ca) ∧ (L 9 = true → s 12 = .slice gh.A2 na gh.c2) ∧ (L 10 = true → s 13 = .slice (some ⟨gh.e3, 0, none⟩) 0 0) ∧ (L 11 = true → s 14 = .pointer (some ⟨w.heap.size, 3, none⟩)) ∧ (L 12 = true → s 15 = .slice At nt ct) ∧ (L 13 = true → s 16 = .slice gh.A3 nt gh.c3) ∧ (L 14 = true → s 17 = .agg #[.int .i64 m.fountains, .slice gh.A1 nv gh.c1, .slice gh.A2 na gh.c2, .slice gh.A3 nt gh.c3]) from ⟨g1, m0, gz0, gz1, q1, q2, q3, o1, o2, o3, f0, f1, f2, f3, f4, f5, f6, f7, f8, f9, f10, f11, f12, f13, f14⟩)
   clear f14 f13 f12 f11 f10 f9 f8 f7 f6 f5 f4 f3 f2 f1 f0 o3 o2 o1 q3 q2 q1 gz1 gz0 m0 g1 hd
   try simp only
   gi_wp2
   obtain ⟨g1, m0, gz0, gz1, q1, q2, q3, o1, o2, o3, f0, f1, f2, f3, f4, f5, f6, f7, f8, f9, f10, f11, f12, f13, f14⟩ := HF.out
   have hb : Below W.heap.size W (W.alloc (.cells #[] 65)) := (Below.refl _ _).alloc (Nat.le_refl _) _
   exact hK ({ gh with e3 := W.heap.size }, (upd s 13 (.slice (some ⟨W.heap.size, 0, none⟩) 0 0))) _ ⟨(g1.trans (hb.mono g1.size)), (m0.below hb m0.lt), (fun h => (gz0 h).below hb (gz0 h).lt), (fun h => (gz1 h).below hb (gz1 h).lt), (fun h q => (q1 h q).below hb (Nat.le_refl _)), (fun h q => (q2 h q).below hb (Nat.le_refl _)), (fun _ _ => World.ownsRow_made W #[] 0 HWq.out (Nat.zero_le _) (by simp)), (fun h => (o1 h).below hb (Nat.le_refl _)), (fun h => (o2 h).below hb (Nat.le_refl _)), (fun h => (o3 h).below hb (Nat.le_refl _)), f0, f1, f2, f3, f4, f5, f6, f7, f8, f9, (fun _ => rfl), f11, f12, f13, f14⟩
  ·rintro L ⟨gh, s⟩ W hu hd hdn ⟨g1, m0, gz0, gz1, q1, q2, q3, o1, o2, o3, f0, f1, f2, f3, f4, f5, f6, f7, f8, f9, f10, f11, f12, f13, f14⟩ K Q hK
   try dsimp only at g1 m0 gz0 gz1 q1 q2 q3 o1 o2 o3 f0 f1 f2 f3 f4 f5 f6 f7 f8 f9 f10 f11 f12 f13 f14 ⊢
   have HF := Lib.hid (show (Below w.heap.size w W) ∧ (Blk W w.heap.size 26 #[.int .i64 m.fountains, .slice Av nv cv, .slice Aa na ca, .slice At nt ct]) ∧ (L 15 = false → Blk W (w.heap.size + 1) 26 #[.int .i64 0, .slice none 0 0, .slice none 0 0, .slice none 0 0]) ∧ (L 15 = true → Blk W (w.heap.size + 1) 26 #[.int .i64 m.fountains, .slice gh.A1 nv gh.c1, .slice gh.A2 na gh.c2, .slice gh.A3 nt gh.c3]) ∧ (L 2 = true → L 5 = false → Own W (w.heap.size + 2) 80 2 (some ⟨gh.e1, 0, none⟩) 0 0 []) ∧ (L 6 = true → L 9 = false → Own W (w.heap.size + 2) 67 4 (some ⟨gh.e2, 0, none⟩) 0 0 []) ∧ (L 10 = true → L 13 = false → Own W (w.heap.size + 2) 65 6 (some ⟨gh.e3, 0, none⟩) 0 0 []) ∧ (L 5 = true → Own W (w.heap.size + 2) 80 2 gh.A1 nv gh.c1 (m.vessels.flatMap Vess.vals)) ∧ (L 9 = true → Own W (w.heap.size + 2) 67 4 gh.A2 na gh.c2 (m.acts.flatMap MAct.vals)) ∧ (L 13 = true → Own W (w.heap.size + 2) 65 6 gh.A3 nt gh.c3 (m.tastes.flatMap Tast.vals)) ∧ (L 0 = true → s 3 = .pointer (some ⟨w.heap.size, 0, none⟩)) ∧ (L 1 = true → s 4 = .int .i64 m.fountains) ∧ (L 2 = true → s 5 = .slice (some ⟨gh.e1, 0, none⟩) 0 0) ∧ (L 3 = true → s 6 = .pointer (some ⟨w.heap.size, 1, none⟩)) ∧ (L 4 = true → s 7 = .slice Av nv cv) ∧ (L 5 = true → s 8 = .slice gh.A1 nv gh.c1) ∧ (L 6 = true → s 9 = .slice (some ⟨gh.e2, 0, none⟩) 0 0) ∧ (L 7 = true → s 10 = .pointer (some ⟨w.heap.size, 2, none⟩)) ∧ (L 8 = true → s 11 = .slice Aa na ca) ∧ (L 9 = true → s 12 = .slice gh.A2 na gh.c2) ∧ (L 10 = true → s 13 = .slice (some ⟨gh.e3, 0, none⟩) 0 0) ∧ (L 11 = true → s 14 = .pointer (some ⟨w.heap.size, 3, none⟩)) ∧ (L 12 = true → s 15 = .slice At nt ct) ∧ (L 13 = true → s 16 = .slice gh.A3 nt gh.c3) ∧ (L 14 = true → s 17 = .agg #[.int .i64 m.fountains, .slice gh.A1 nv gh.c1, .slice gh.A2 na gh.c2, .slice gh.A3 nt gh.c3]) from ⟨g1, m0, gz0, gz1, q1, q2, q3, o1, o2, o3, f0, f1, f2, f3, f4, f5, f6, f7, f8, f9, f10, f11, f12, f13, f14⟩)
   clear f14 f13 f12 f11 f10 f9 f8 f7 f6 f5 f4 f3 f2 f1 f0 o3 o2 o1 q3 q2 q1 gz1 gz0 m0 g1 hd
   try simp only
   gi_wp2
   obtain ⟨g1, m0, gz0, gz1, q1, q2, q3, o1, o2, o3, f0, f1, f2, f3, f4, f5, f6, f7, f8, f9, f10, f11, f12, f13, f14⟩ := HF.out
   exact hK (gh, (upd s 14 (.pointer (some ⟨w.heap.size, 3, none⟩)))) _ ⟨g1, m0, gz0, gz1, q1, q2, q3, o1, o2, o3, f0, f1, f2, f3, f4, f5, f6, f7, f8, f9, f10, (fun _ => rfl), f12, f13, f14⟩
  ·rintro L ⟨gh, s⟩ W hu hd hdn ⟨g1, m0, gz0, gz1, q1, q2, q3, o1, o2, o3, f0, f1, f2, f3, f4, f5, f6, f7, f8, f9, f10, f11, f12, f13, f14⟩ K Q hK
   try dsimp only at g1 m0 gz0 gz1 q1 q2 q3 o1 o2 o3 f0 f1 f2 f3 f4 f5 f6 f7 f8 f9 f10 f11 f12 f13 f14 ⊢
   have e11 := f11 (hd.at_ 11 rfl)
   have c0 : W.cell? ⟨w.heap.size, 3, none⟩ = some (.slice At nt ct) := m0.cell 3
   have HF := Lib.hid (show (Below w.heap.size w W) ∧ (Blk W w.heap.size 26 #[.int .i64 m.fountains, .slice Av nv cv, .slice Aa na ca, .slice At nt ct]) ∧ (L 15 = false → Blk W (w.heap.size + 1) 26 #[.int .i64 0, .slice none 0 0, .slice none 0 0, .slice none 0 0]) ∧ (L 15 = true → Blk W (w.heap.size + 1) 26 #[.int .i64 m.fountains, .slice gh.A1 nv gh.c1, .slice gh.A2 na gh.c2, .slice gh.A3 nt gh.c3]) ∧ (L 2 = true → L 5 = false → Own W (w.heap.size + 2) 80 2 (some ⟨gh.e1, 0, none⟩) 0 0 []) ∧ (L 6 = true → L 9 = false → Own W (w.heap.size + 2) 67 4 (some ⟨gh.e2, 0, none⟩) 0 0 []) ∧ (L 10 = true → L 13 = false → Own W (w.heap.size + 2) 65 6 (some ⟨gh.e3, 0, none⟩) 0 0 []) ∧ (L 5 = true → Own W (w.heap.size + 2) 80 2 gh.A1 nv gh.c1 (m.vessels.flatMap Vess.vals)) ∧ (L 9 = true → Own W (w.heap.size + 2) 67 4 gh.A2 na gh.c2 (m.acts.flatMap MAct.vals)) ∧ (L 13 = true → Own W (w.heap.size + 2) 65 6 gh.A3 nt gh.c3 (m.tastes.flatMap Tast.vals)) ∧ (L 0 = true → s 3 = .pointer (some ⟨w.heap.size, 0, none⟩)) ∧ (L 1 = true → s 4 = .int .i64 m.fountains) ∧ (L 2 = true → s 5 = .slice (some ⟨gh.e1, 0, none⟩) 0 0) ∧ (L 3 = true → s 6 = .pointer (some ⟨w.heap.size, 1, none⟩)) ∧ (L 4 = true → s 7 = .slice Av nv cv) ∧ (L 5 = true → s 8 = .slice gh.A1 nv gh.c1) ∧ (L 6 = true → s 9 = .slice (some ⟨gh.e2, 0, none⟩) 0 0) ∧ (L 7 = true → s 10 = .pointer (some ⟨w.heap.size, 2, none⟩)) ∧ (L 8 = true → s 11 = .slice Aa na ca) ∧ (L 9 = true → s 12 = .slice gh.A2 na gh.c2) ∧ (L 10 = true → s 13 = .slice (some ⟨gh.e3, 0, none⟩) 0 0) ∧ (L 11 = true → s 14 = .pointer (some ⟨w.heap.size, 3, none⟩)) ∧ (L 12 = true → s 15 = .slice At nt ct) ∧ (L 13 = true → s 16 = .slice gh.A3 nt gh.c3) ∧ (L 14 = true → s 17 = .agg #[.int .i64 m.fountains, .slice gh.A1 nv gh.c1, .slice gh.A2 na gh.c2, .slice gh.A3 nt gh.c3]) from ⟨g1, m0, gz0, gz1, q1, q2, q3, o1, o2, o3, f0, f1, f2, f3, f4, f5, f6, f7, f8, f9, f10, f11, f12, f13, f14⟩)
   clear f14 f13 f12 f11 f10 f9 f8 f7 f6 f5 f4 f3 f2 f1 f0 o3 o2 o1 q3 q2 q1 gz1 gz0 m0 g1 hd
   try simp only at e11 ⊢
   gi_wp2
   obtain ⟨g1, m0, gz0, gz1, q1, q2, q3, o1, o2, o3, f0, f1, f2, f3, f4, f5, f6, f7, f8, f9, f10, f11, f12, f13, f14⟩ := HF.out
   exact hK (gh, (upd (upd s 14 (.pointer (some ⟨w.heap.size, 3, none⟩))) 15 (.slice At nt ct))) _ ⟨g1, m0, gz0, gz1, q1, q2, q3, o1, o2, o3, f0, f1, f2, f3, f4, f5, f6, f7, f8, f9, f10, (fun _ => rfl), (fun _ => rfl), f13, f14⟩
  ·rintro L ⟨gh, s⟩ W hu hd hdn ⟨g1, m0, gz0, gz1, q1, q2, q3, o1, o2, o3, f0, f1, f2, f3, f4, f5, f6, f7, f8, f9, f10, f11, f12, f13, f14⟩ K Q hK
   try dsimp only at g1 m0 gz0 gz1 q1 q2 q3 o1 o2 o3 f0 f1 f2 f3 f4 f5 f6 f7 f8 f9 f10 f11 f12 f13 f14 ⊢
   have e10 := f10 (hd.at_ 10 rfl)
   have e12 := f12 (hd.at_ 12 rfl)
   have h15 : L 15 = false := by
    cases hc : L 15 with
    | false => rfl
    | true => exact hdn.no 15 13 hc rfl hu
   have h14 : L 14 = false := by
    cases hc : L 14 with
    | false => rfl
    | true => exact hdn.no 14 13 hc rfl hu
   have hWq : w.heap.size + 2 ≤ W.heap.size := (gz0 h15).lt
   have HWq := Lib.hid hWq
   clear hWq
   have HE := Lib.hid (q3 (hd.at_ 10 rfl) hu)
   have HG1 := Lib.hid g1
   have HF := Lib.hid (show (Below w.heap.size w W) ∧ (Blk W w.heap.size 26 #[.int .i64 m.fountains, .slice Av nv cv, .slice Aa na ca, .slice At nt ct]) ∧ (L 15 = false → Blk W (w.heap.size + 1) 26 #[.int .i64 0, .slice none 0 0, .slice none 0 0, .slice none 0 0]) ∧ (L 15 = true → Blk W (w.heap.size + 1) 26 #[.int .i64 m.fountains, .slice gh.A1 nv gh.c1, .slice gh.A2 na gh.c2, .slice gh.A3 nt gh.c3]) ∧ (L 2 = true → L 5 = false → Own W (w.heap.size + 2) 80 2 (some ⟨gh.e1, 0, none⟩) 0 0 []) ∧ (L 6 = true → L 9 = false → Own W (w.heap.size + 2) 67 4 (some ⟨gh.e2, 0, none⟩) 0 0 []) ∧ (L 10 = true → L 13 = false → Own W (w.heap.size + 2) 65 6 (some ⟨gh.e3, 0, none⟩) 0 0 []) ∧ (L 5 = true → Own W (w.heap.size + 2) 80 2 gh.A1 nv gh.c1 (m.vessels.flatMap Vess.vals)) ∧ (L 9 = true → Own W (w.heap.size + 2) 67 4 gh.A2 na gh.c2 (m.acts.flatMap MAct.vals)) ∧ (L 13 = true → Own W (w.heap.size + 2) 65 6 gh.A3 nt gh.c3 (m.tastes.flatMap Tast.vals)) ∧ (L 0 = true → s 3 = .pointer (some ⟨w.heap.size, 0, none⟩)) ∧ (L 1 = true → s 4 = .int .i64 m.fountains) ∧ (L 2 = true → s 5 = .slice (some ⟨gh.e1, 0, none⟩) 0 0) ∧ (L 3 = true → s 6 = .pointer (some ⟨w.heap.size, 1, none⟩)) ∧ (L 4 = true → s 7 = .slice Av nv cv) ∧ (L 5 = true → s 8 = .slice gh.A1 nv gh.c1) ∧ (L 6 = true → s 9 = .slice (some ⟨gh.e2, 0, none⟩) 0 0) ∧ (L 7 = true → s 10 = .pointer (some ⟨w.heap.size, 2, none⟩)) ∧ (L 8 = true → s 11 = .slice Aa na ca) ∧ (L 9 = true → s 12 = .slice gh.A2 na gh.c2) ∧ (L 10 = true → s 13 = .slice (some ⟨gh.e3, 0, none⟩) 0 0) ∧ (L 11 = true → s 14 = .pointer (some ⟨w.heap.size, 3, none⟩)) ∧ (L 12 = true → s 15 = .slice At nt ct) ∧ (L 13 = true → s 16 = .slice gh.A3 nt gh.c3) ∧ (L 14 = true → s 17 = .agg #[.int .i64 m.fountains, .slice gh.A1 nv gh.c1, .slice gh.A2 na gh.c2, .slice gh.A3 nt gh.c3]) from ⟨g1, m0, gz0, gz1, q1, q2, q3, o1, o2, o3, f0, f1, f2, f3, f4, f5, f6, f7, f8, f9, f10, f11, f12, f13, f14⟩)
   clear f14 f13 f12 f11 f10 f9 f8 f7 f6 f5 f4 f3 f2 f1 f0 o3 o2 o1 q3 q2 q1 gz1 gz0 m0 g1 hd
   try simp only at e10 e12 ⊢
   gi_wp2_with (first | (gi_at_builtin; refine wpListIn_append_fresh rfl (.tmp 13) (.tmp 15) (by rfl) elem_tast e10 HE.out e12 ((HM.out.at_.up HG1.out).tastes) (tast_one m.tastes) (by unfold maxLen; omega) (by omega) HWq.out ?_) | fail)
   rintro AN cN W1 hO hb hA
   gi_wp2
   obtain ⟨g1, m0, gz0, gz1, q1, q2, q3, o1, o2, o3, f0, f1, f2, f3, f4, f5, f6, f7, f8, f9, f10, f11, f12, f13, f14⟩ := HF.out
   exact hK ({ gh with A3 := AN, c3 := cN }, (upd (upd (upd s 13 (.slice (some ⟨gh.e3, 0, none⟩) 0 0)) 15 (.slice At nt ct)) 16 (.slice AN nt cN))) _ ⟨(g1.trans (hb.mono g1.size)), (m0.below hb m0.lt), (fun h => (gz0 h).below hb (gz0 h).lt), (fun h => absurd (h15.symm.trans h) (by decide)), (fun h q => (q1 h q).below hb (Nat.le_refl _)), (fun h q => (q2 h q).below hb (Nat.le_refl _)), (fun _ h => by cases h), (fun h => (o1 h).below hb (Nat.le_refl _)), (fun h => (o2 h).below hb (Nat.le_refl _)), (fun _ => hO), f0, f1, f2, f3, f4, f5, f6, f7, f8, f9, (fun _ => rfl), f11, (fun _ => rfl), (fun _ => rfl), (fun h => absurd (h14.symm.trans h) (by decide))⟩
  ·rintro L ⟨gh, s⟩ W hu hd hdn ⟨g1, m0, gz0, gz1, q1, q2, q3, o1, o2, o3, f0, f1, f2, f3, f4, f5, f6, f7, f8, f9, f10, f11, f12, f13, f14⟩ K Q hK
   try dsimp only at g1 m0 gz0 gz1 q1 q2 q3 o1 o2 o3 f0 f1 f2 f3 f4 f5 f6 f7 f8 f9 f10 f11 f12 f13 f14 ⊢
   have e1 := f1 (hd.at_ 1 rfl)
   have e5 := f5 (hd.at_ 5 rfl)
   have e9 := f9 (hd.at_ 9 rfl)
   have e13 := f13 (hd.at_ 13 rfl)
   have HF := Lib.hid (show (Below w.heap.size w W) ∧ (Blk W w.heap.size 26 #[.int .i64 m.fountains, .slice Av nv cv, .slice Aa na ca, .slice At nt ct]) ∧ (L 15 = false → Blk W (w.heap.size + 1) 26 #[.int .i64 0, .slice none 0 0, .slice none 0 0, .slice none 0 0]) ∧ (L 15 = true → Blk W (w.heap.size + 1) 26 #[.int .i64 m.fountains, .slice gh.A1 nv gh.c1, .slice gh.A2 na gh.c2, .slice gh.A3 nt gh.c3]) ∧ (L 2 = true → L 5 = false → Own W (w.heap.size + 2) 80 2 (some ⟨gh.e1, 0, none⟩) 0 0 []) ∧ (L 6 = true → L 9 = false → Own W (w.heap.size + 2) 67 4 (some ⟨gh.e2, 0, none⟩) 0 0 []) ∧ (L 10 = true → L 13 = false → Own W (w.heap.size + 2) 65 6 (some ⟨gh.e3, 0, none⟩) 0 0 []) ∧ (L 5 = true → Own W (w.heap.size + 2) 80 2 gh.A1 nv gh.c1 (m.vessels.flatMap Vess.vals)) ∧ (L 9 = true → Own W (w.heap.size + 2) 67 4 gh.A2 na gh.c2 (m.acts.flatMap MAct.vals)) ∧ (L 13 = true → Own W (w.heap.size + 2) 65 6 gh.A3 nt gh.c3 (m.tastes.flatMap Tast.vals)) ∧ (L 0 = true → s 3 = .pointer (some ⟨w.heap.size, 0, none⟩)) ∧ (L 1 = true → s 4 = .int .i64 m.fountains) ∧ (L 2 = true → s 5 = .slice (some ⟨gh.e1, 0, none⟩) 0 0) ∧ (L 3 = true → s 6 = .pointer (some ⟨w.heap.size, 1, none⟩)) ∧ (L 4 = true → s 7 = .slice Av nv cv) ∧ (L 5 = true → s 8 = .slice gh.A1 nv gh.c1) ∧ (L 6 = true → s 9 = .slice (some ⟨gh.e2, 0, none⟩) 0 0) ∧ (L 7 = true → s 10 = .pointer (some ⟨w.heap.size, 2, none⟩)) ∧ (L 8 = true → s 11 = .slice Aa na ca) ∧ (L 9 = true → s 12 = .slice gh.A2 na gh.c2) ∧ (L 10 = true → s 13 = .slice (some ⟨gh.e3, 0, none⟩) 0 0) ∧ (L 11 = true → s 14 = .pointer (some ⟨w.heap.size, 3, none⟩)) ∧ (L 12 = true → s 15 = .slice At nt ct) ∧ (L 13 = true → s 16 = .slice gh.A3 nt gh.c3) ∧ (L 14 = true → s 17 = .agg #[.int .i64 m.fountains, .slice gh.A1 nv gh.c1, .slice gh.A2 na gh.c2, .slice gh.A3 nt gh.c3]) from ⟨g1, m0, gz0, gz1, q1, q2, q3, o1, o2, o3, f0, f1, f2, f3, f4, f5, f6, f7, f8, f9, f10, f11, f12, f13, f14⟩)
   clear f14 f13 f12 f11 f10 f9 f8 f7 f6 f5 f4 f3 f2 f1 f0 o3 o2 o1 q3 q2 q1 gz1 gz0 m0 g1 hd
   try simp only at e1 e5 e9 e13 ⊢
   gi_wp2
   obtain ⟨g1, m0, gz0, gz1, q1, q2, q3, o1, o2, o3, f0, f1, f2, f3, f4, f5, f6, f7, f8, f9, f10, f11, f12, f13, f14⟩ := HF.out
   exact hK (gh, (upd (upd (upd (upd (upd s 4 (.int .i64 m.fountains)) 8 (.slice gh.A1 nv gh.c1)) 12 (.slice gh.A2 na gh.c2)) 16 (.slice gh.A3 nt gh.c3)) 17 (.agg #[.int .i64 m.fountains, .slice gh.A1 nv gh.c1, .slice gh.A2 na gh.c2, .slice gh.A3 nt gh.c3]))) _ ⟨g1, m0, gz0, gz1, q1, q2, q3, o1, o2, o3, f0, (fun _ => rfl), f2, f3, f4, (fun _ => rfl), f6, f7, f8, (fun _ => rfl), f10, f11, f12, (fun _ => rfl), (fun _ => rfl)⟩
  ·rintro L ⟨gh, s⟩ W hu hd hdn ⟨g1, m0, gz0, gz1, q1, q2, q3, o1, o2, o3, f0, f1, f2, f3, f4, f5, f6, f7, f8, f9, f10, f11, f12, f13, f14⟩ K Q hK
   try dsimp only at g1 m0 gz0 gz1 q1 q2 q3 o1 o2 o3 f0 f1 f2 f3 f4 f5 f6 f7 f8 f9 f10 f11 f12 f13 f14 ⊢
   have e14 := f14 (hd.at_ 14 rfl)
   have MB := gz0 hu
   have y0 := MB.cell 0
   have z0 := MB.frozen 0
   have y1 := MB.cell 1
   have z1 := MB.frozen 1
   have y2 := MB.cell 2
   have z2 := MB.frozen 2
   have y3 := MB.cell 3
   have z3 := MB.frozen 3
   have rl := MB.lt
   have HMB := Lib.hid MB
   clear MB
   have HD5 := Lib.hid (hd.at_ 5 rfl)
   have HD9 := Lib.hid (hd.at_ 9 rfl)
   have HD13 := Lib.hid (hd.at_ 13 rfl)
   have HF := Lib.hid (show (Below w.heap.size w W) ∧ (Blk W w.heap.size 26 #[.int .i64 m.fountains, .slice Av nv cv, .slice Aa na ca, .slice At nt ct]) ∧ (L 15 = false → Blk W (w.heap.size + 1) 26 #[.int .i64 0, .slice none 0 0, .slice none 0 0, .slice none 0 0]) ∧ (L 15 = true → Blk W (w.heap.size + 1) 26 #[.int .i64 m.fountains, .slice gh.A1 nv gh.c1, .slice gh.A2 na gh.c2, .slice gh.A3 nt gh.c3]) ∧ (L 2 = true → L 5 = false → Own W (w.heap.size + 2) 80 2 (some ⟨gh.e1, 0, none⟩) 0 0 []) ∧ (L 6 = true → L 9 = false → Own W (w.heap.size + 2) 67 4 (some ⟨gh.e2, 0, none⟩) 0 0 []) ∧ (L 10 = true → L 13 = false → Own W (w.heap.size + 2) 65 6 (some ⟨gh.e3, 0, none⟩) 0 0 []) ∧ (L 5 = true → Own W (w.heap.size + 2) 80 2 gh.A1 nv gh.c1 (m.vessels.flatMap Vess.vals)) ∧ (L 9 = true → Own W (w.heap.size + 2) 67 4 gh.A2 na gh.c2 (m.acts.flatMap MAct.vals)) ∧ (L 13 = true → Own W (w.heap.size + 2) 65 6 gh.A3 nt gh.c3 (m.tastes.flatMap Tast.vals)) ∧ (L 0 = true → s 3 = .pointer (some ⟨w.heap.size, 0, none⟩)) ∧ (L 1 = true → s 4 = .int .i64 m.fountains) ∧ (L 2 = true → s 5 = .slice (some ⟨gh.e1, 0, none⟩) 0 0) ∧ (L 3 = true → s 6 = .pointer (some ⟨w.heap.size, 1, none⟩)) ∧ (L 4 = true → s 7 = .slice Av nv cv) ∧ (L 5 = true → s 8 = .slice gh.A1 nv gh.c1) ∧ (L 6 = true → s 9 = .slice (some ⟨gh.e2, 0, none⟩) 0 0) ∧ (L 7 = true → s 10 = .pointer (some ⟨w.heap.size, 2, none⟩)) ∧ (L 8 = true → s 11 = .slice Aa na ca) ∧ (L 9 = true → s 12 = .slice gh.A2 na gh.c2) ∧ (L 10 = true → s 13 = .slice (some ⟨gh.e3, 0, none⟩) 0 0) ∧ (L 11 = true → s 14 = .pointer (some ⟨w.heap.size, 3, none⟩)) ∧ (L 12 = true → s 15 = .slice At nt ct) ∧ (L 13 = true → s 16 = .slice gh.A3 nt gh.c3) ∧ (L 14 = true → s 17 = .agg #[.int .i64 m.fountains, .slice gh.A1 nv gh.c1, .slice gh.A2 na gh.c2, .slice gh.A3 nt gh.c3]) from ⟨g1, m0, gz0, gz1, q1, q2, q3, o1, o2, o3, f0, f1, f2, f3, f4, f5, f6, f7, f8, f9, f10, f11, f12, f13, f14⟩)
   clear f14 f13 f12 f11 f10 f9 f8 f7 f6 f5 f4 f3 f2 f1 f0 o3 o2 o1 q3 q2 q1 gz1 gz0 m0 g1 hd
   try simp only at e14 ⊢
   gi_wp2
   obtain ⟨g1, m0, gz0, gz1, q1, q2, q3, o1, o2, o3, f0, f1, f2, f3, f4, f5, f6, f7, f8, f9, f10, f11, f12, f13, f14⟩ := HF.out
   have R4 := ret4' HMB.out (Below.refl (w.heap.size + 1) W) (Nat.le_refl _) (.int .i64 m.fountains) (.slice gh.A1 nv gh.c1) (.slice gh.A2 na gh.c2) (.slice gh.A3 nt gh.c3)
   have hne : ∀ {e : TypeId} {size n cap : Nat} {A : Option Addr} {xs : List Value}, Own W (w.heap.size + 2) e size A n cap xs → ∀ a, A = some a → some a.block ≠ some (w.heap.size + 1) := fun ho a ha e => by have := (ho.lt ha).1; have := Option.some.inj e; omega
   exact hK (gh, (upd s 17 (.agg #[.int .i64 m.fountains, .slice gh.A1 nv gh.c1, .slice gh.A2 na gh.c2, .slice gh.A3 nt gh.c3]))) _ ⟨(g1.trans (R4.2.1.mono (by omega))), (m0.grown R4.2.2 (by simp)), (fun h => by cases h), (fun _ => R4.1), (fun _ h => absurd (HD5.out.symm.trans h) (by decide)), (fun _ h => absurd (HD9.out.symm.trans h) (by decide)), (fun _ h => absurd (HD13.out.symm.trans h) (by decide)), (fun h => (o1 h).grown R4.2.2 (hne (o1 h))), (fun h => (o2 h).grown R4.2.2 (hne (o2 h))), (fun h => (o3 h).grown R4.2.2 (hne (o3 h))), f0, f1, f2, f3, f4, f5, f6, f7, f8, f9, f10, f11, f12, f13, (fun _ => rfl)⟩
 ·rintro L ⟨gh, s⟩ W hall ⟨g1, m0, gz0, gz1, q1, q2, q3, o1, o2, o3, f0, f1, f2, f3, f4, f5, f6, f7, f8, f9, f10, f11, f12, f13, f14⟩
  have GO1 := Lib.hid (o1 (hall 5 (by decide)))
  have GO2 := Lib.hid (o2 (hall 9 (by decide)))
  have GO3 := Lib.hid (o3 (hall 13 (by decide)))
  have GZ := Lib.hid (gz1 (hall 15 (by decide)))
  have G1 := Lib.hid g1
  clear f14 f13 f12 f11 f10 f9 f8 f7 f6 f5 f4 f3 f2 f1 f0 o3 o2 o1 q3 q2 q1 gz1 gz0 m0 g1 hall
  simp only
  gi_wp2
  have v0 := GZ.out.cell 0
  have v1 := GZ.out.cell 1
  have v2 := GZ.out.cell 2
  have v3 := GZ.out.cell 3
  refine bodyPost_ret (v := .agg #[.int .i64 m.fountains, .slice gh.A1 nv gh.c1, .slice gh.A2 na gh.c2, .slice gh.A3 nt gh.c3]) (by simp [results, Try.results8, go_sem, v0, v1, v2, v3]) rfl ?_
  exact ⟨gh.A1, gh.c1, gh.A2, gh.c2, gh.A3, gh.c3, rfl, ⟨GO1.out.mono (by omega), GO2.out.mono (by omega), GO3.out.mono (by omega)⟩, G1.out⟩

end Go.Proofs.Ythofngceiecniaa
