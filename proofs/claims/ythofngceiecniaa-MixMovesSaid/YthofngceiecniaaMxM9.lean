/- Part 9 of the texts of this claim, joined. -/
import Derived.Lib.SmallJoins
import Derived.Sort.CutIn
import Derived.IntWalk
import Derived.Test.YthofngceiecniaaMxM8
set_option linter.unusedVariables false
/- The answer's Played. -/
namespace Go.Proofs.Ythofngceiecniaa
open Go.RowKit

theorem info_state : (Try.prog.info? 110).map (fun i => (i.zero, i.size, i.bytes)) = some (some (.agg #[.int .i64 0, .int .i64 0, .int .i64 0, .int .i64 0]), 4, 32) := by kernel_rfl
theorem elem_state : ElemAt Try.prog 106 110 (.agg #[.int .i64 0, .int .i64 0, .int .i64 0, .int .i64 0]) 4 32 := by
 obtain ⟨i0, hi, hz0, hz1, hz2⟩ := info_parts info_state
 exact ⟨i0, Try.underlying106, hi, hz0, hz1, hz2, rfl, by decide⟩
def PlA (w W : World) (mc : Array Value) (A4 : Option Addr) (k c4 : Nat) (L : List Held) (m : Mix) : Prop :=
 Lay w W [(w.heap.size, 26, mc)] ∧ Own W (w.heap.size + 1) 110 4 A4 (k + 1) c4 (L.flatMap heldC) ∧ allM m (m.acts.take k) = some L ∧ ∀ (j : Nat) (s : Held), L[j]? = some s → s.length = 4 ∧ ∀ q : Nat, 0 ≤ heldAt s q ∧ heldAt s q ≤ 12
theorem pla_first {w W : World} {mc : Array Value} {m : Mix} (h : Lay w W [(w.heap.size, 26, mc), (w.heap.size + 1, 110, #[.int .i64 0, .int .i64 0, .int .i64 0, .int .i64 0])]) : PlA w W mc (some ⟨w.heap.size + 1, 0, none⟩) 0 1 [zeroH] m := by
 refine ⟨⟨h.1, fun b hb => h.2 b (by simp only [List.mem_cons, List.not_mem_nil, or_false] at hb; simp [hb])⟩, ⟨rfl, .inr ⟨w.heap.size + 1, 1, _, rfl, Nat.le_refl _, h.blk 1 rfl, Nat.le_refl _, by unfold maxLen; omega, rfl, rfl⟩⟩, rfl, ?_⟩
 intro j u hu
 match j, hu with
 | 0, hu =>
  have e : zeroH = u := by simpa using hu
  rw [← e]
  exact zero_range
theorem pla_step {w W W' : World} {mc : Array Value} {A4 A9 : Option Addr} {k c4 c9 : Nat} {L : List Held} {m : Mix} {x : MAct} {s s2 : Held} (HLAP : mc = mc) (h : PlA w W mc A4 k c4 L m) (hx : m.acts[k]? = some x) (hs : L[k]? = some s) (hd : doneM m s x = some s2) (hz : VesOk m) (hv : m.vessels.length ≤ 4)
  (hl : Lay w W' [(w.heap.size, 26, mc)]) (ho : Own W' (w.heap.size + 1) 110 4 A9 (k + 1 + 1) c9 (L.flatMap heldC ++ heldC s2)) : PlA w W' mc A9 (k + 1) c9 (L ++ [s2]) m := by
 refine ⟨hl, by rw [List.flatMap_append]; simpa using ho, by rw [allM_take hx h.2.2.1 hs, hd]; rfl, fun j u hu => ?_⟩
 by_cases hj : j < L.length
 ·rw [List.getElem?_append_left hj] at hu
  exact h.2.2.2 j u hu
 ·rw [List.getElem?_append_right (by omega)] at hu
  have hj0 : j - L.length = 0 := by
   have := (List.getElem?_eq_some_iff.1 hu).1
   simp at this
   omega
  rw [hj0] at hu
  have e : s2 = u := by simpa using hu
  rw [← e]
  have := h.2.2.2 k s hs
  exact done_range hv hz this.1 this.2 hd
/-- What Played tells. -/
def PlayedOut (w : World) (m : Mix) (e : Ending) (w' : World) : Prop :=
 Below w.heap.size w w' ∧ ∃ A n c b L, e = .returned (.tuple #[.slice A n c, .bool b]) ∧ ((b = true ∧ allM m m.acts = some L ∧ Reads w' w'.heap.size 4 A n (L.flatMap heldC)) ∨ (b = false ∧ A = none ∧ allM m m.acts = none))
set_option maxRecDepth 100000 in
set_option maxHeartbeats 16000000 in
theorem rplayed_in (Av : Option Addr) (nv cv : Nat) (Aa : Option Addr) (na ca : Nat) (At : Option Addr) (nt ct : Nat) (m : Mix) (w : World) (h : MixS w Av nv Aa na At nt m) (hz : VesOk m) (hn4 : nv ≤ 4) (hna : na ≤ 1000) :
  CallsIn Fence.wide 9 Try.prog 48 #[.agg #[.int .i64 m.fountains, .slice Av nv cv, .slice Aa na ca, .slice At nt ct]] w (PlayedOut w m) := by
 have HM := Lib.hid h
 have HZ := Lib.hid hz
 have HLA := Lib.hid h.at_.lenA
 clear h hz
 refine callsIn_of_wp Try.func48 rfl trivial ?_ rfl
 simp only [Try.ntmps48, List.size_toArray, List.length_cons, List.length_nil, Nat.reduceAdd, Nat.reduceSub, Array.replicate_succ, Array.replicate_zero, List.push_toArray, List.append_toArray, List.nil_append, List.cons_append]
 gi_wp2
 have HLay := Lib.hid (Lay.two w 26 #[.int .i64 m.fountains, .slice Av nv cv, .slice Aa na ca, .slice At nt ct] 110 #[.int .i64 0, .int .i64 0, .int .i64 0, .int .i64 0])
 generalize ((w.alloc (.cells #[.int .i64 m.fountains, .slice Av nv cv, .slice Aa na ca, .slice At nt ct] 26)).alloc (.cells #[.int .i64 0, .int .i64 0, .int .i64 0, .int .i64 0] 110)) = w0 at *
 gi_loopw [4, 14] (fun v4 i wr => ∃ (k : Nat) (A4 : Option Addr) (c4 : Nat) (L : List Held), k ≤ na ∧ i = .int .i64 k ∧ v4 = .slice A4 (k + 1) c4 ∧ Hid (PlA w wr #[.int .i64 m.fountains, .slice Av nv cv, .slice Aa na ca, .slice At nt ct] A4 k c4 L m))
  (fun _ i _ => na - (intOf i).toNat)
 case atStart => exact ⟨0, _, _, _, by omega, rfl, rfl, Lib.hid (pla_first HLay.out)⟩
 case round =>
  clear HLay
  obtain ⟨k, A4, c4, L, hk, rfl, rfl, HS⟩ := hrel
  have HLay := Lib.hid HS.out.1
  by_cases hlt : k < na
  ·
   obtain ⟨b, off, x, rfl, hbB, hx, hc0, hc1, hc2, hc3⟩ := (HM.out.at_.below HLay.out.1).act hlt
   have hlen : L.length = k + 1 := by
    have := allM_len m _ L HS.out.2.2.1
    rw [List.length_take, Nat.min_eq_left (by have := HLA.out; omega)] at this
    exact this
   have hs : L[k]? = some (L[k]'(by omega)) := List.getElem?_eq_getElem (by omega)
   obtain ⟨s, hs'⟩ : ∃ s, L[k]'(by omega) = s := ⟨_, rfl⟩
   rw [hs'] at hs
   have HX := Lib.hid hx
   have HSS := Lib.hid hs
   have HR := Lib.hid (HS.out.2.2.2 k s hs)
   obtain ⟨b4, o4, s', hA4, hb4, hs2, hcl⟩ := recs_cell heldC_k (by omega) (HS.out.2.1.reads (Nat.le_refl _)) (show k < k + 1 by omega)
   rw [hs] at hs2
   obtain rfl : s = s' := Option.some.inj hs2
   subst hA4
   have HCL := Lib.hid hcl
   have HB4 := Lib.hid hb4
   have HOW := Lib.hid HS.out.2.1
   clear hx hs hs' hlen hs2 hcl hb4
   gi_upto_region 5 with fail
   clear hc0 hc1 hc2 hc3
   have HWR : Hid (wr = wr) := Lib.hid rfl
   obtain ⟨V1, hV⟩ : ∃ V, (wr.alloc (.cells #[.int .i64 x.kind, .int .i64 x.fr, .int .i64 x.to, .int .i64 x.drops] 67)) = V := ⟨_, rfl⟩
   rw [hV]
   have hb := fbox_bel hV
   have hnew := fbox_blk hV
   have hge := HLay.out.bel.size
   replace HLay := Lib.hid (HLay.out.below hb)
   replace HOW := Lib.hid (HOW.out.below hb (Nat.le_refl _))
   replace HLay := Lib.hid (HLay.out.add hge hnew)
   clear hnew hge hb hV
   obtain ⟨G2, hG⟩ : ∃ g, wr.heap.size = g := ⟨_, rfl⟩
   rw [hG] at HLay ⊢
   clear hG
   have HLay0 := Lib.hid HLay.out
   have HOW0 := Lib.hid HOW.out
   have HB5 : Hid (b4 < V1.heap.size ∧ ∀ (j : Nat) (u : Value), (heldC s)[j]? = some u → V1.cell? ⟨b4, o4 + k * 4 + j, none⟩ = some u) := Lib.hid ⟨(HOW0.out.lt rfl).2, fun j u hu => by
    obtain ⟨b', o', s', e1, e2, e3, e4⟩ := recs_cell heldC_k (by omega) (HOW0.out.reads (Nat.le_refl _)) (show k < k + 1 by omega)
    rw [HSS.out] at e3
    obtain rfl : s = s' := Option.some.inj e3
    cases e1
    exact e4 j u hu⟩
   refine wpIn_flow_new [([true, true, true, true, true, true], 6)] [false, false, false, false, false, false, false, true, true, true, false, false, true] [false, false, false, false, false, false, false, false, false, false, false, true] 10 (fun b => .pointer (some ⟨b, 0, none⟩)) 110 #[.int .i64 0, .int .i64 0, .int .i64 0, .int .i64 0] (by kernel_rfl) (by kernel_rfl) (by kernel_rfl) (below_drewN (Below.refl _ _) 1) rfl rfl rfl (fun _ _ => rfl) (fun _ _ => rfl) ?_
   refine wpFlow_cons (A := ?AF1) rfl ?hq1 ?_
   case hq1 =>
    rintro σ hσ of hof hcl
    have HOF := Lib.hid hof
    have HCL := Lib.hid hcl
    clear hof hcl
    have c0_ : ∀ z, (of z).cell? ⟨w.heap.size, 0, none⟩ = some (.int .i64 m.fountains) := fun z => ((HLay.out.below (HOF.out z)).blk 0 rfl).cell 0
    have c1_ : ∀ z, (of z).cell? ⟨w.heap.size, 1, none⟩ = some (.slice Av nv cv) := fun z => ((HLay.out.below (HOF.out z)).blk 0 rfl).cell 1
    have c2_ : ∀ z, (of z).cell? ⟨w.heap.size, 2, none⟩ = some (.slice (some ⟨b, off, none⟩) na ca) := fun z => ((HLay.out.below (HOF.out z)).blk 0 rfl).cell 2
    have c3_ : ∀ z, (of z).cell? ⟨w.heap.size, 3, none⟩ = some (.slice At nt ct) := fun z => ((HLay.out.below (HOF.out z)).blk 0 rfl).cell 3
    have c4_ : ∀ z, (of z).cell? ⟨G2, 0, none⟩ = some (.int .i64 x.kind) := fun z => ((HLay.out.below (HOF.out z)).blk 1 rfl).cell 0
    have c5_ : ∀ z, (of z).cell? ⟨G2, 1, none⟩ = some (.int .i64 x.fr) := fun z => ((HLay.out.below (HOF.out z)).blk 1 rfl).cell 1
    have c6_ : ∀ z, (of z).cell? ⟨G2, 2, none⟩ = some (.int .i64 x.to) := fun z => ((HLay.out.below (HOF.out z)).blk 1 rfl).cell 2
    have c7_ : ∀ z, (of z).cell? ⟨G2, 3, none⟩ = some (.int .i64 x.drops) := fun z => ((HLay.out.below (HOF.out z)).blk 1 rfl).cell 3
    have hfw : ∀ f, Fence.wide.fn f := fun _ => trivial
    have r0 : ∀ z, (of z).cell? ⟨b4, o4 + k * 4, none⟩ = some (.int .i64 (heldAt s 0)) := fun z => ((HOF.out z).cell (p := ⟨b4, o4 + k * 4, none⟩) HB5.out.1).trans (HB5.out.2 0 _ rfl)
    have r1 : ∀ z, (of z).cell? ⟨b4, o4 + k * 4 + 1, none⟩ = some (.int .i64 (heldAt s 1)) := fun z => ((HOF.out z).cell (p := ⟨b4, o4 + k * 4 + 1, none⟩) HB5.out.1).trans (HB5.out.2 1 _ rfl)
    have r2 : ∀ z, (of z).cell? ⟨b4, o4 + k * 4 + 2, none⟩ = some (.int .i64 (heldAt s 2)) := fun z => ((HOF.out z).cell (p := ⟨b4, o4 + k * 4 + 2, none⟩) HB5.out.1).trans (HB5.out.2 2 _ rfl)
    have r3 : ∀ z, (of z).cell? ⟨b4, o4 + k * 4 + 3, none⟩ = some (.int .i64 (heldAt s 3)) := fun z => ((HOF.out z).cell (p := ⟨b4, o4 + k * 4 + 3, none⟩) HB5.out.1).trans (HB5.out.2 3 _ rfl)
    have hkk : k < k + 1 := by omega
    simp only [pickB]
    repeat (gi_big_quiet_step (fail))
    refine wpQuietIn_nil ?_
    exact rfl
   intro W3 hW
   replace HLay := Lib.hid (HLay.out.below hW)
   replace HOW := Lib.hid (HOW.out.below hW (Nat.le_refl _))
   clear hW
   gi_wp2
   refine ⟨trivial, (callsIn_wide.2 (callsIn_wide.1 (rdone_in Av nv cv (some ⟨b, off, none⟩) na ca At nt ct m s x W3 (HM.out.up HLay.out.1) HZ.out hn4 HR.out.1 HR.out.2))).mono ?_⟩
   rintro e W4 ⟨hb, s2, bb, rfl, hd⟩
   replace HLay := Lib.hid (HLay.out.below hb)
   replace HOW := Lib.hid (HOW.out.below hb (Nat.le_refl _))
   have HD := Lib.hid hd
   clear hd
   gi_wp2
   refine ⟨trivial, hb, ?_⟩
   clear hb
   refine wpFlow_nil (A := ?AF2) ?hq2 ?_
   case hq2 =>
    rintro σ hσ of hof hcl
    have HOF := Lib.hid hof
    have HCL := Lib.hid hcl
    clear hof hcl
    have c0_ : ∀ z, (of z).cell? ⟨w.heap.size, 0, none⟩ = some (.int .i64 m.fountains) := fun z => ((HLay.out.below (HOF.out z)).blk 0 rfl).cell 0
    have c1_ : ∀ z, (of z).cell? ⟨w.heap.size, 1, none⟩ = some (.slice Av nv cv) := fun z => ((HLay.out.below (HOF.out z)).blk 0 rfl).cell 1
    have c2_ : ∀ z, (of z).cell? ⟨w.heap.size, 2, none⟩ = some (.slice (some ⟨b, off, none⟩) na ca) := fun z => ((HLay.out.below (HOF.out z)).blk 0 rfl).cell 2
    have c3_ : ∀ z, (of z).cell? ⟨w.heap.size, 3, none⟩ = some (.slice At nt ct) := fun z => ((HLay.out.below (HOF.out z)).blk 0 rfl).cell 3
    have c4_ : ∀ z, (of z).cell? ⟨G2, 0, none⟩ = some (.int .i64 x.kind) := fun z => ((HLay.out.below (HOF.out z)).blk 1 rfl).cell 0
    have c5_ : ∀ z, (of z).cell? ⟨G2, 1, none⟩ = some (.int .i64 x.fr) := fun z => ((HLay.out.below (HOF.out z)).blk 1 rfl).cell 1
    have c6_ : ∀ z, (of z).cell? ⟨G2, 2, none⟩ = some (.int .i64 x.to) := fun z => ((HLay.out.below (HOF.out z)).blk 1 rfl).cell 2
    have c7_ : ∀ z, (of z).cell? ⟨G2, 3, none⟩ = some (.int .i64 x.drops) := fun z => ((HLay.out.below (HOF.out z)).blk 1 rfl).cell 3
    have hfw : ∀ f, Fence.wide.fn f := fun _ => trivial
    simp only [pickB]
    repeat (gi_big_quiet_step (fail))
    refine wpQuietIn_nil ?_
    exact rfl
   intro bN W5 hW hbg hbb hbi
   replace HLay := Lib.hid (HLay.out.below hW)
   replace HOW := Lib.hid (HOW.out.below hW (Nat.le_refl _))
   have c0 := hbb.cell 0
   have z0 := hbb.frozen 0
   have c1 := hbb.cell 1
   have z1 := hbb.frozen 1
   have c2 := hbb.cell 2
   have z2 := hbb.frozen 2
   have c3 := hbb.cell 3
   have z3 := hbb.frozen 3
   have hbl := hbb.lt
   have hbw : w.heap.size ≤ bN := Nat.le_trans (HLay0.out.1.size) hbg
   simp only [pickB]
   refine wpT_cons ?_
   gi_wp2
   refine wpT_nil ?_
   have R3 := ret4' hbb (Below.refl bN W5) (Nat.le_refl _) (.int .i64 (heldAt s2 0)) (.int .i64 (heldAt s2 1)) (.int .i64 (heldAt s2 2)) (.int .i64 (heldAt s2 3))
   have HLay9 := Lib.hid (Lay.add (w := w) (bs := [(w.heap.size, 26, #[.int .i64 m.fountains, .slice Av nv cv, .slice (some ⟨b, off, none⟩) na ca, .slice At nt ct]), (G2, 67, #[.int .i64 x.kind, .int .i64 x.fr, .int .i64 x.to, .int .i64 x.drops])]) ⟨HLay.out.1.trans (R3.2.1.mono hbw), fun p hp => ⟨(HLay.out.2 p hp).1, (HLay.out.2 p hp).2.below R3.2.1 (by have := (HLay0.out.2 p hp).2.lt; omega)⟩⟩ hbw R3.1)
   replace HOW := Lib.hid (HOW.out.grown (row := some bN) R3.2.2 (fun a ha e => by have := (HOW0.out.lt ha).2; have := Option.some.inj e; omega))
   generalize ((((W5.setCell ⟨bN, 0, none⟩ (.int .i64 (heldAt s2 0))).setCell ⟨bN, 1, none⟩ (.int .i64 (heldAt s2 1))).setCell ⟨bN, 2, none⟩ (.int .i64 (heldAt s2 2))).setCell ⟨bN, 3, none⟩ (.int .i64 (heldAt s2 3))) = W99 at *
   clear c0 z0 c1 z1 c2 z2 c3 z3 hbl hbb hW hbg R3
   replace HLay := HLay9
   rcases HD.out with ⟨rfl, hd⟩ | ⟨rfl, hd⟩
   ·
    have HD2 := Lib.hid hd
    clear HD hd
    have x2_0 := (HLay.out.blk 2 rfl).cell 0
    have x2_1 := (HLay.out.blk 2 rfl).cell 1
    have x2_2 := (HLay.out.blk 2 rfl).cell 2
    have x2_3 := (HLay.out.blk 2 rfl).cell 3
    have l2_ := HLay.out.lt 2 rfl
    have HBZ : Hid (w.heap.size + 1 ≤ W99.heap.size) := Lib.hid (HLay.out.lt 0 rfl)
    gi_wp2_with (first | (gi_at_builtin; refine wpListIn_append_any rfl (.tmp 31) (.tmp 33) (by rfl) elem_state rfl (HOW.out.alloc (.cells #[.int .i64 (heldAt s2 0), .int .i64 (heldAt s2 1), .int .i64 (heldAt s2 2), .int .i64 (heldAt s2 3)] 110)) rfl (reads_new W99 110 (heldC s2) rfl) (held_one s2) (by unfold maxLen; omega) (by omega) (by have := HBZ.out; simp; omega) ?_) | fail)
    clear x2_0 x2_1 x2_2 x2_3 l2_
    rintro A9 c9 V6 hown hg hA
    have hrow := own_row HOW.out
    have hla := (show Lay w W99 [(w.heap.size, 26, #[.int .i64 m.fountains, .slice Av nv cv, .slice (some ⟨b, off, none⟩) na ca, .slice At nt ct])] from ⟨HLay.out.1, fun q hq => HLay.out.2 q (by simp only [List.mem_cons, List.not_mem_nil, or_false] at hq; simp [hq])⟩)
    have hla2 := (hla.below ((Below.refl _ _).alloc (Nat.le_refl _) (.cells #[.int .i64 (heldAt s2 0), .int .i64 (heldAt s2 1), .int .i64 (heldAt s2 2), .int .i64 (heldAt s2 3)] 110))).row hg (fun r e => ⟨by have := (hrow r e).1; omega, fun q hq => by have := (hrow r e).1; simp only [List.mem_cons, List.not_mem_nil, or_false] at hq; rw [hq]; dsimp only; omega⟩)
    have HNEW : Hid (PlA w V6 #[.int .i64 m.fountains, .slice Av nv cv, .slice (some ⟨b, off, none⟩) na ca, .slice At nt ct] A9 (k + 1) c9 (L ++ [s2]) m) := Lib.hid (pla_step (HLAP := rfl) HS.out HX.out HSS.out HD2.out HZ.out (by have := HM.out.at_.lenV; omega) hla2 (by simpa using hown))
    clear hown hg hA hrow hla hla2
    gi_wp2
    go_roundw
    case rel => exact ⟨k + 1, A9, c9, L ++ [s2], by omega, by go_num, rfl, HNEW⟩
    case measure => simp [intOf]; omega
   ·
    have HD2 := Lib.hid hd
    clear HD hd
    gi_wp2
    refine bodyPost_ret (v := .tuple #[.slice none 0 0, .bool false]) (by simp [results, Try.results48, go_sem]) rfl ?_
    refine ⟨HLay.out.1, none, 0, 0, false, [], rfl, .inr ⟨rfl, rfl, allM_fail (k := k + 1) ?_⟩⟩
    rw [allM_take HX.out HS.out.2.2.1 HSS.out, HD2.out]
    rfl
  ·
   obtain rfl : na = k := by omega
   gi_wp2
   refine bodyPost_ret (v := .tuple #[.slice A4 (na + 1) c4, .bool true]) (by simp [results, Try.results48, go_sem]) rfl ?_
   have hL : allM m m.acts = some L := by
    have := HS.out.2.2.1
    rwa [List.take_of_length_le (by have := HLA.out; omega)] at this
   exact ⟨HLay.out.1, A4, _, c4, true, L, rfl, .inl ⟨rfl, hL, HS.out.2.1.reads (Nat.le_refl _)⟩⟩

end Go.Proofs.Ythofngceiecniaa
/- The answer's Mix, and Check. -/
namespace Go.Proofs.Ythofngceiecniaa
open Go.RowKit

theorem bad_ids {m : Mix} (h : risB 0 (m.vessels.map (·.id)) = false) : okMix m = false := by unfold okMix; rw [h]; simp
theorem bad_nums {m : Mix} (h : risB 0 (m.tastes.map (·.num)) = false) : okMix m = false := by unfold okMix; rw [h]; simp
theorem ris_at {α : Type} {f : α → Int} {l : List α} {k : Nat} {x : α} (hx : l[k]? = some x) (h : risB 0 ((l.take k).map f) = true) : risB 0 ((l.take (k + 1)).map f) = wiB (f x) (((l.take k).map f).getLast?.getD 0 + 1) 9999 := by
 obtain ⟨hk, rfl⟩ := List.getElem?_eq_some_iff.1 hx
 rw [List.take_succ_eq_append_getElem hk, List.map_append, List.map_cons, List.map_nil, risB_snoc, h, Bool.true_and]
 rfl
theorem last_at {α : Type} {f : α → Int} {l : List α} {k : Nat} {x : α} (hx : l[k]? = some x) : ((l.take (k + 1)).map f).getLast?.getD 0 = f x := by
 obtain ⟨hk, rfl⟩ := List.getElem?_eq_some_iff.1 hx
 rw [List.take_succ_eq_append_getElem hk, List.map_append, List.map_cons, List.map_nil, List.getLast?_concat]
 rfl
theorem ris_take {α : Type} {f : α → Int} {l : List α} {k : Nat} (h : risB 0 ((l.take k).map f) = false) : risB 0 (l.map f) = false := by
 cases h0 : risB 0 (l.map f) with
 | false => rfl
 | true =>
  have := ris_pre (k := k) h0
  rw [← List.map_take] at this
  rw [this] at h
  cases h
theorem all_take {α : Type} {p : α → Bool} {l : List α} {k : Nat} (h : (l.take k).all p = false) : l.all p = false := by
 cases h0 : l.all p with
 | false => rfl
 | true => exact absurd ((all_pre (k := k) h0).symm.trans h) (by decide)
set_option maxRecDepth 100000 in
set_option maxHeartbeats 16000000 in
theorem rmix_any (Av : Option Addr) (nv cv : Nat) (Aa : Option Addr) (na ca : Nat) (At : Option Addr) (nt ct : Nat) (m : Mix) (w : World) (h : MixS w Av nv Aa na At nt m) :
  Calls Try.prog 45 #[.agg #[.int .i64 m.fountains, .slice Av nv cv, .slice Aa na ca, .slice At nt ct]] w fun e w' => e = .returned (.bool (okMix m)) ∧ Below w.heap.size w w' := by
 have HM := Lib.hid h
 have HLV := Lib.hid h.at_.lenV
 have HLA := Lib.hid h.at_.lenA
 have HLT := Lib.hid h.at_.lenT
 have hnv := h.hv
 have hna := h.ha
 have hnt := h.ht
 clear h
 go_enter Try.func45, Try.ntmps45
 go_upto_region 1 with fail
 have HLay := Lib.hid (Lay.one w 26 #[.int .i64 m.fountains, .slice Av nv cv, .slice Aa na ca, .slice At nt ct])
 generalize (w.alloc (.cells #[.int .i64 m.fountains, .slice Av nv cv, .slice Aa na ca, .slice At nt ct] 26)) = w0 at *
 have x0 := (HLay.out.blk 0 rfl).cell 0
 have x1 := (HLay.out.blk 0 rfl).cell 1
 have x2 := (HLay.out.blk 0 rfl).cell 2
 have x3 := (HLay.out.blk 0 rfl).cell 3
 have xl := HLay.out.lt 0 rfl
 go_wp2_with fail
 refine (within_any m.fountains 1 4 w0).mono ?_
 rintro e W1 ⟨rfl, rfl⟩
 by_cases hG : (1 ≤ m.fountains ∧ m.fountains ≤ 4) ∧ m.vessels.length ≤ 4 ∧ m.acts.length ≤ 12 ∧ m.tastes.length ≤ 8
 ·have HG := Lib.hid hG
  have hi : wiB m.fountains 1 4 = true := decide_eq_true hG.1
  have hn4 : nv ≤ 4 := by have := HLV.out; omega
  have hn12 : na ≤ 12 := by have := HLA.out; omega
  have hn8 : nt ≤ 8 := by have := HLT.out; omega
  have d1 : (nv : Int) ≤ 4 := by omega
  have d2 : (na : Int) ≤ 12 := by omega
  have d3 : (nt : Int) ≤ 8 := by omega
  rw [hi]
  clear hi hG
  go_wp2_with fail
  clear d1 d2 d3 x0 x1 x2 x3 xl
  go_loopw [3, 35] (fun v3 i wr => ∃ k : Nat, k ≤ nv ∧ i = .int .i64 k ∧ v3 = .int .i64 (((m.vessels.take k).map (·.id)).getLast?.getD 0) ∧ Hid (Lay w wr [(w.heap.size, 26, #[.int .i64 m.fountains, .slice Av nv cv, .slice Aa na ca, .slice At nt ct])] ∧ (m.vessels.take k).all vessB = true ∧ risB 0 ((m.vessels.take k).map (·.id)) = true))
   (fun _ i _ => nv - (intOf i).toNat)
  case atStart => exact ⟨0, by omega, rfl, rfl, Lib.hid ⟨HLay.out, rfl, rfl⟩⟩
  case round =>
   clear HLay
   obtain ⟨k, hk, rfl, rfl, HS⟩ := hrel
   obtain ⟨hl0, hl1⟩ := ris_last HS.out.2.2
   obtain ⟨p, hp⟩ : ∃ p, ((m.vessels.take k).map (·.id)).getLast?.getD 0 = p := ⟨_, rfl⟩
   have HLay := Lib.hid HS.out.1
   rw [hp] at hl0 hl1 ⊢
   have HP := Lib.hid hp
   clear hp
   have x1 := (HLay.out.blk 0 rfl).cell 1
   have x3 := (HLay.out.blk 0 rfl).cell 3
   have xl := HLay.out.lt 0 rfl
   by_cases hlt : k < nv
   ·clear x1 x3 xl
    obtain ⟨b, off, x, rfl, hbB, hx, hc0, hc1⟩ := (HM.out.at_.below HLay.out.1).vess hlt
    have HX := Lib.hid hx
    clear hx
    go_upto_region 7 with fail
    have hb1 : Below wr.heap.size wr (wr.alloc (.cells #[.int .i64 x.id, .int .i64 x.size] 80)) := (Below.refl _ _).alloc (Nat.le_refl _) _
    have HN := Lib.hid (Blk.new wr 80 #[.int .i64 x.id, .int .i64 x.size])
    obtain ⟨g8, hg8⟩ : ∃ g, wr.heap.size = g := ⟨_, rfl⟩
    generalize wr.alloc (.cells #[.int .i64 x.id, .int .i64 x.size] 80) = wa at *
    have HB1 := Lib.hid hb1
    rw [hg8] at HN ⊢
    have y0 := HN.out.cell 0
    have y1 := HN.out.cell 1
    have yl := HN.out.lt
    clear hb1 hc0 hc1
    have HRS := Lib.hid (ris_at (f := (·.id)) HX.out HS.out.2.2)
    have HAS := Lib.hid (all_step HX.out HS.out.2.1)
    have HLST := Lib.hid (last_at (f := fun v : Vess => v.id) HX.out)
    rw [HP.out] at HRS
    go_wp2_with fail
    refine (within_any x.id (p + 1) 9999 wa).mono ?_
    rintro e W ⟨rfl, rfl⟩
    cases hi : wiB x.id (p + 1) 9999 with
    | false =>
     rw [hi] at HRS
     clear hi
     go_wp2_with fail
     go_ret
     exact ⟨ret_bool (bad_ids (ris_take HRS.out)).symm, HLay.out.1.trans (HB1.out.mono HLay.out.1.size)⟩
    | true =>
     rw [hi] at HRS
     clear hi
     go_wp2_with fail
     refine (within_any x.size 1 12 wa).mono ?_
     rintro e W ⟨rfl, rfl⟩
     have hvs : vessB x = wiB x.size 1 12 := rfl
     rw [hvs] at HAS
     clear hvs
     cases hi : wiB x.size 1 12 with
     | false =>
      rw [hi] at HAS
      clear hi
      go_wp2_with fail
      go_ret
      exact ⟨ret_bool (bad_vess (all_take HAS.out)).symm, HLay.out.1.trans (HB1.out.mono HLay.out.1.size)⟩
     | true =>
      rw [hi] at HAS
      clear hi
      go_wp2_with fail
      go_roundw
      case rel => exact ⟨k + 1, by omega, by go_num, by rw [HLST.out], Lib.hid ⟨HLay.out.below HB1.out, HAS.out, HRS.out⟩⟩
      case measure => simp [intOf]; omega
   ·obtain rfl : nv = k := by omega
    have hz : m.vessels.all vessB = true := by
     have := HS.out.2.1
     rwa [List.take_of_length_le (by have := HLV.out; omega)] at this
    have hr : risB 0 (m.vessels.map (·.id)) = true := by
     have := HS.out.2.2
     rwa [List.take_of_length_le (by have := HLV.out; omega)] at this
    have HZ := Lib.hid hz
    have HRI := Lib.hid hr
    clear hz hr
    go_wp2_with fail
    clear x1 x3 xl HP hl0 hl1
    obtain ⟨wo, rfl⟩ : ∃ wo, wo = wr := ⟨_, rfl⟩
    go_loopw [3, 57] (fun v3 i wr => ∃ k : Nat, k ≤ nt ∧ i = .int .i64 k ∧ v3 = .int .i64 (((m.tastes.take k).map (·.num)).getLast?.getD 0) ∧ Hid (Lay w wr [(w.heap.size, 26, #[.int .i64 m.fountains, .slice Av nv cv, .slice Aa na ca, .slice At nt ct])] ∧ (m.tastes.take k).all (tastB m) = true ∧ risB 0 ((m.tastes.take k).map (·.num)) = true))
     (fun _ i _ => nt - (intOf i).toNat)
    case atStart => exact ⟨0, by omega, rfl, rfl, Lib.hid ⟨HLay.out, rfl, rfl⟩⟩
    case round =>
     clear HLay HS
     obtain ⟨k, hk2, rfl, rfl, HS⟩ := hrel
     obtain ⟨hl0, hl1⟩ := ris_last HS.out.2.2
     obtain ⟨p, hp⟩ : ∃ p, ((m.tastes.take k).map (·.num)).getLast?.getD 0 = p := ⟨_, rfl⟩
     have HLay := Lib.hid HS.out.1
     rw [hp] at hl0 hl1 ⊢
     have HP := Lib.hid hp
     clear hp
     have x0 := (HLay.out.blk 0 rfl).cell 0
     have x1 := (HLay.out.blk 0 rfl).cell 1
     have x2 := (HLay.out.blk 0 rfl).cell 2
     have x3 := (HLay.out.blk 0 rfl).cell 3
     have xl := HLay.out.lt 0 rfl
     by_cases hlt : k < nt
     ·clear x0 x1 x2 x3 xl
      obtain ⟨b, off, x, rfl, hbB, hx, hc0, hc1, hc2, hc3, hc4, hc5⟩ := (HM.out.at_.below HLay.out.1).tast hlt
      have HX := Lib.hid hx
      clear hx
      go_upto_region 15 with fail
      have hb1 : Below wr.heap.size wr (wr.alloc (.cells #[.int .i64 x.num, .int .i64 x.vessel, .int .i64 x.after, .int .i64 x.fountain, .int .i64 x.lo, .int .i64 x.hi] 65)) := (Below.refl _ _).alloc (Nat.le_refl _) _
      have HN := Lib.hid (Blk.new wr 65 #[.int .i64 x.num, .int .i64 x.vessel, .int .i64 x.after, .int .i64 x.fountain, .int .i64 x.lo, .int .i64 x.hi])
      obtain ⟨g8, hg8⟩ : ∃ g, wr.heap.size = g := ⟨_, rfl⟩
      generalize wr.alloc (.cells #[.int .i64 x.num, .int .i64 x.vessel, .int .i64 x.after, .int .i64 x.fountain, .int .i64 x.lo, .int .i64 x.hi] 65) = wa at *
      have HB1 := Lib.hid hb1
      rw [hg8] at HN ⊢
      have y0 := HN.out.cell 0
      have y1 := HN.out.cell 1
      have yl := HN.out.lt
      have HLA1 := Lib.hid (HLay.out.below HB1.out)
      have x0 := (HLA1.out.blk 0 rfl).cell 0
      have x1 := (HLA1.out.blk 0 rfl).cell 1
      have x2 := (HLA1.out.blk 0 rfl).cell 2
      have x3 := (HLA1.out.blk 0 rfl).cell 3
      have xl := HLA1.out.lt 0 rfl
      clear hb1 hc0 hc1 hc2 hc3 hc4 hc5
      have HRS := Lib.hid (ris_at (f := (·.num)) HX.out HS.out.2.2)
      have HAS := Lib.hid (all_step HX.out HS.out.2.1)
      have HLST := Lib.hid (last_at (f := fun v : Tast => v.num) HX.out)
      rw [HP.out] at HRS
      go_wp2_with fail
      refine (within_any x.num (p + 1) 9999 wa).mono ?_
      rintro e W ⟨rfl, rfl⟩
      cases hi : wiB x.num (p + 1) 9999 with
      | false =>
       rw [hi] at HRS
       clear hi
       go_wp2_with fail
       go_ret
       exact ⟨ret_bool (bad_nums (ris_take HRS.out)).symm, HLay.out.1.trans (HB1.out.mono HLay.out.1.size)⟩
      | true =>
       rw [hi] at HRS
       clear hi
       go_wp2_with fail
       refine (rindex_any Av nv cv Aa na ca (some ⟨b, off, none⟩) nt ct m x.vessel wa (HM.out.up HLA1.out.1)).mono ?_
       rintro e W ⟨rfl, hb⟩
       have HB := Lib.hid (HB1.out.trans (hb.mono HB1.out.size))
       have HN2 := Lib.hid (HN.out.below hb HN.out.lt)
       have HLA2 := Lib.hid (HLA1.out.below hb)
       clear hb y0 y1 yl x0 x1 x2 x3 xl HN HLA1 HB1
       have y2 := HN2.out.cell 2
       have y3 := HN2.out.cell 3
       have y4 := HN2.out.cell 4
       have y5 := HN2.out.cell 5
       have yl := HN2.out.lt
       have x0 := (HLA2.out.blk 0 rfl).cell 0
       have x2 := (HLA2.out.blk 0 rfl).cell 2
       have xl := HLA2.out.lt 0 rfl
       by_cases hj : idxV m.vessels x.vessel < 0
       ·have HTB : Hid (tastB m x = false) := Lib.hid (by unfold tastB; exact decide_eq_false (by omega))
        go_wp2_with fail
        go_ret
        exact ⟨ret_bool (bad_tast (tast_no HX.out HTB.out)).symm, HLay.out.1.trans (HB.out.mono HLay.out.1.size)⟩
       ·have hj2 : 0 ≤ idxV m.vessels x.vessel := by omega
        go_wp2_with fail
        refine (within_any x.after 0 na W).mono ?_
        rintro e W2 ⟨rfl, rfl⟩
        cases hi : wiB x.after 0 na with
        | false =>
         have HI := Lib.hid (of_decide_eq_false hi)
         have HTB : Hid (tastB m x = false) := Lib.hid (by unfold tastB; have := HLA.out; have := HI.out; exact decide_eq_false (by omega))
         clear hi
         go_wp2_with fail
         go_ret
         exact ⟨ret_bool (bad_tast (tast_no HX.out HTB.out)).symm, HLay.out.1.trans (HB.out.mono HLay.out.1.size)⟩
        | true =>
         have HI := Lib.hid (of_decide_eq_true hi)
         clear hi
         go_wp2_with fail
         refine (within_any x.fountain 1 m.fountains W).mono ?_
         rintro e W2 ⟨rfl, rfl⟩
         cases hi : wiB x.fountain 1 m.fountains with
         | false =>
          have HJ := Lib.hid (of_decide_eq_false hi)
          have HTB : Hid (tastB m x = false) := Lib.hid (by unfold tastB; have := HJ.out; exact decide_eq_false (by omega))
          clear hi
          go_wp2_with fail
          go_ret
          exact ⟨ret_bool (bad_tast (tast_no HX.out HTB.out)).symm, HLay.out.1.trans (HB.out.mono HLay.out.1.size)⟩
         | true =>
          have HJ := Lib.hid (of_decide_eq_true hi)
          clear hi
          go_wp2_with fail
          refine (within_any x.lo 0 x.hi W).mono ?_
          rintro e W2 ⟨rfl, rfl⟩
          cases hi : wiB x.lo 0 x.hi with
          | false =>
           have HK := Lib.hid (of_decide_eq_false hi)
           have HTB : Hid (tastB m x = false) := Lib.hid (by unfold tastB; have := HK.out; exact decide_eq_false (by omega))
           clear hi
           go_wp2_with fail
           go_ret
           exact ⟨ret_bool (bad_tast (tast_no HX.out HTB.out)).symm, HLay.out.1.trans (HB.out.mono HLay.out.1.size)⟩
          | true =>
           have HK := Lib.hid (of_decide_eq_true hi)
           have HTB : Hid (tastB m x = true) := Lib.hid (by unfold tastB; have := HK.out; have := HJ.out; have := HI.out; have := HLA.out; exact decide_eq_true (by omega))
           clear hi x0 x2 xl
           have y0 := HN2.out.cell 0
           rw [HTB.out] at HAS
           go_wp2_with fail
           go_roundw
           case rel => exact ⟨k + 1, by omega, by go_num, by rw [HLST.out], Lib.hid ⟨HLA2.out, HAS.out, HRS.out⟩⟩
           case measure => simp [intOf]; omega
     ·obtain rfl : nt = k := by omega
      have hz : m.tastes.all (tastB m) = true := by
       have := HS.out.2.1
       rwa [List.take_of_length_le (by have := HLT.out; omega)] at this
      have hr : risB 0 (m.tastes.map (·.num)) = true := by
       have := HS.out.2.2
       rwa [List.take_of_length_le (by have := HLT.out; omega)] at this
      have HZT := Lib.hid hz
      have HRN := Lib.hid hr
      clear hz hr
      go_wp2_with fail
      refine (callsIn_wide.1 (rplayed_in Av nv cv Aa na ca At nt ct m wr (HM.out.up HLay.out.1) (vesOk_of HZ.out) hn4 hna)).mono ?_
      rintro e W ⟨hb, A4, n4, c4, bb, L, rfl, hd⟩
      have HB := Lib.hid (HLay.out.1.trans (hb.mono HLay.out.1.size))
      have HD := Lib.hid hd
      clear hb hd x0 x1 x2 x3 xl
      go_wp2_with fail
      go_ret
      refine ⟨ret_bool ?_, HB.out⟩
      rcases HD.out with ⟨rfl, h1, _⟩ | ⟨rfl, _, h1⟩
      ·rw [ok_rest HG.out HZ.out HZT.out h1, HRI.out, HRN.out]; rfl
      ·exact (bad_acts h1).symm
 ·have HB := Lib.hid (bad_limits hG)
  cases hi : wiB m.fountains 1 4 with
  | false =>
   clear hi
   go_wp2_with fail
   go_ret
   exact ⟨ret_bool HB.out.symm, HLay.out.1⟩
  | true =>
   have h2 : ¬ (nv ≤ 4 ∧ na ≤ 12 ∧ nt ≤ 8) := by
    have := of_decide_eq_true hi
    rw [← HLV.out, ← HLA.out, ← HLT.out]
    exact fun h2 => hG ⟨this, h2⟩
   clear hi hG
   by_cases q1 : nv ≤ 4
   ·have d1 : (nv : Int) ≤ 4 := by omega
    by_cases q2 : na ≤ 12
    ·have d2 : (na : Int) ≤ 12 := by omega
     have d3 : ¬ (nt : Int) ≤ 8 := by omega
     clear h2
     go_wp2_with fail
     go_ret
     exact ⟨ret_bool HB.out.symm, HLay.out.1⟩
    ·have d2 : ¬ (na : Int) ≤ 12 := by omega
     clear h2
     go_wp2_with fail
     go_ret
     exact ⟨ret_bool HB.out.symm, HLay.out.1⟩
   ·have d1 : ¬ (nv : Int) ≤ 4 := by omega
    clear h2
    go_wp2_with fail
    go_ret
    exact ⟨ret_bool HB.out.symm, HLay.out.1⟩
end Go.Proofs.Ythofngceiecniaa
/- The answer's Check, asked and wide. -/
namespace Go.Proofs.Ythofngceiecniaa
open Go.RowKit


set_option maxRecDepth 100000 in
set_option maxHeartbeats 8000000 in
theorem rwide_in  (lo hi n : Int) (w : World)  :
  CallsIn Fence.wide 9 Try.prog 53 #[.agg #[.int .i64 lo, .int .i64 hi], .int .i64 n] w (fun e w' => e = .returned (.agg #[.int .i64 (wideS (lo, hi) n).1, .int .i64 (wideS (lo, hi) n).2]) ∧ Below w.heap.size w w') := by
 refine callsIn_of_wp Try.func53 rfl trivial ?_ rfl
 simp only [Try.ntmps53, List.size_toArray, List.length_cons, List.length_nil, Nat.reduceAdd, Nat.reduceSub, Array.replicate_succ, Array.replicate_zero, List.push_toArray, List.append_toArray, List.nil_append, List.cons_append]
 gi_upto_region 1 with fail
 have HLay := Lib.hid (Lay.two w 30 #[.int .i64 lo, .int .i64 hi] 30 #[.int .i64 0, .int .i64 0])
 generalize ((w.alloc (.cells #[.int .i64 lo, .int .i64 hi] 30)).alloc (.cells #[.int .i64 0, .int .i64 0] 30)) = w0 at *
 by_cases h0 : hi < 0
 ·
  have h0b : decide (hi < 0) = true := decide_eq_true h0
  have H0 := Lib.hid h0
  clear h0
  have x0_0 := (HLay.out.blk 0 rfl).cell 0
  have x0_1 := (HLay.out.blk 0 rfl).cell 1
  have l0_ := HLay.out.lt 0 rfl
  have x1_0 := (HLay.out.blk 1 rfl).cell 0
  have z1_0 := (HLay.out.blk 1 rfl).frozen 0
  have x1_1 := (HLay.out.blk 1 rfl).cell 1
  have z1_1 := (HLay.out.blk 1 rfl).frozen 1
  have l1_ := HLay.out.lt 1 rfl
  gi_wp2
  have R2 := ret2' (HLay.out.blk 1 rfl) HLay.out.1 (HLay.out.ge 1 rfl) (.int .i64 (n)) (.int .i64 (n))
  have v0 := R2.1.cell 0
  have v1 := R2.1.cell 1
  refine bodyPost_ret (v := .agg #[.int .i64 (n), .int .i64 (n)]) (by simp [results, Try.results53, go_sem, v0, v1]) rfl ?_
  exact ⟨by unfold wideS; rw [if_pos H0.out], R2.2.1⟩
 ·
  have h0b : decide (hi < 0) = false := decide_eq_false h0
  have H0 := Lib.hid h0
  clear h0
  have x0_0 := (HLay.out.blk 0 rfl).cell 0
  have x0_1 := (HLay.out.blk 0 rfl).cell 1
  have l0_ := HLay.out.lt 0 rfl
  have x1_0 := (HLay.out.blk 1 rfl).cell 0
  have z1_0 := (HLay.out.blk 1 rfl).frozen 0
  have x1_1 := (HLay.out.blk 1 rfl).cell 1
  have z1_1 := (HLay.out.blk 1 rfl).frozen 1
  have l1_ := HLay.out.lt 1 rfl
  gi_wp2
  have R2 := ret2' (HLay.out.blk 1 rfl) HLay.out.1 (HLay.out.ge 1 rfl) (.int .i64 (min lo n)) (.int .i64 (max hi n))
  have v0 := R2.1.cell 0
  have v1 := R2.1.cell 1
  refine bodyPost_ret (v := .agg #[.int .i64 (min lo n), .int .i64 (max hi n)]) (by simp [results, Try.results53, go_sem, v0, v1]) rfl ?_
  exact ⟨by unfold wideS; rw [if_neg (by have := H0.out; omega)], R2.2.1⟩

end Go.Proofs.Ythofngceiecniaa
/- The answer's moves. -/
namespace Go.Proofs.Ythofngceiecniaa
open Go.RowKit

set_option maxRecDepth 100000 in
set_option maxHeartbeats 8000000 in
theorem rmoves_in (Av : Option Addr) (nv cv : Nat) (Aa : Option Addr) (na ca : Nat) (At : Option Addr) (nt ct : Nat) (m : Mix) (x : MAct) (fountain : Int) (all has : Held) (w : World) (h : MixS w Av nv Aa na At nt m) (hok : ActOk m all x) (hf : Fits all has) (hr : ∀ q : Nat, q < 4 → heldAt all q ≤ 12) (hv4 : m.vessels.length ≤ 4) :
  CallsIn Fence.wide 9 Try.prog 50 #[.agg #[.int .i64 m.fountains, .slice Av nv cv, .slice Aa na ca, .slice At nt ct], .agg #[.int .i64 x.kind, .int .i64 x.fr, .int .i64 x.to, .int .i64 x.drops], .int .i64 fountain, .agg #[.int .i64 (heldAt all 0), .int .i64 (heldAt all 1), .int .i64 (heldAt all 2), .int .i64 (heldAt all 3)], .agg #[.int .i64 (heldAt has 0), .int .i64 (heldAt has 1), .int .i64 (heldAt has 2), .int .i64 (heldAt has 3)]] w (fun e w' => e = .returned (.agg #[.int .i64 (spanR m x fountain all has).1, .int .i64 (spanR m x fountain all has).2]) ∧ Below w.heap.size w w') := by
 have HM := Lib.hid h
 have HOK := Lib.hid hok
 have HF := Lib.hid hf
 have HR := Lib.hid hr
 have HV4 := Lib.hid hv4
 clear h hok hf hr hv4
 refine callsIn_of_wp Try.func50 rfl trivial ?_ rfl
 simp only [Try.ntmps50, List.size_toArray, List.length_cons, List.length_nil, Nat.reduceAdd, Nat.reduceSub, Array.replicate_succ, Array.replicate_zero, List.push_toArray, List.append_toArray, List.nil_append, List.cons_append]
 gi_upto_region 1 with fail
 have HLay := Lib.hid (show Lay w (((((w.alloc (.cells #[.int .i64 m.fountains, .slice Av nv cv, .slice Aa na ca, .slice At nt ct] 26)).alloc (.cells #[.int .i64 x.kind, .int .i64 x.fr, .int .i64 x.to, .int .i64 x.drops] 67)).alloc (.cells #[.int .i64 (heldAt all 0), .int .i64 (heldAt all 1), .int .i64 (heldAt all 2), .int .i64 (heldAt all 3)] 110)).alloc (.cells #[.int .i64 (heldAt has 0), .int .i64 (heldAt has 1), .int .i64 (heldAt has 2), .int .i64 (heldAt has 3)] 110)).alloc (.cells #[.int .i64 0, .int .i64 0] 30)) [(w.heap.size, 26, #[.int .i64 m.fountains, .slice Av nv cv, .slice Aa na ca, .slice At nt ct]), (w.heap.size + 1, 67, #[.int .i64 x.kind, .int .i64 x.fr, .int .i64 x.to, .int .i64 x.drops]), (w.heap.size + 1 + 1, 110, #[.int .i64 (heldAt all 0), .int .i64 (heldAt all 1), .int .i64 (heldAt all 2), .int .i64 (heldAt all 3)]), (w.heap.size + 1 + 1 + 1, 110, #[.int .i64 (heldAt has 0), .int .i64 (heldAt has 1), .int .i64 (heldAt has 2), .int .i64 (heldAt has 3)]), (w.heap.size + 1 + 1 + 1 + 1, 30, #[.int .i64 0, .int .i64 0])] from by have h5 := ((Lay.four w 26 #[.int .i64 m.fountains, .slice Av nv cv, .slice Aa na ca, .slice At nt ct] 67 #[.int .i64 x.kind, .int .i64 x.fr, .int .i64 x.to, .int .i64 x.drops] 110 #[.int .i64 (heldAt all 0), .int .i64 (heldAt all 1), .int .i64 (heldAt all 2), .int .i64 (heldAt all 3)] 110 #[.int .i64 (heldAt has 0), .int .i64 (heldAt has 1), .int .i64 (heldAt has 2), .int .i64 (heldAt has 3)]).alloc 30 #[.int .i64 0, .int .i64 0]); simp only [World.size_alloc] at h5; exact h5)
 generalize (((((w.alloc (.cells #[.int .i64 m.fountains, .slice Av nv cv, .slice Aa na ca, .slice At nt ct] 26)).alloc (.cells #[.int .i64 x.kind, .int .i64 x.fr, .int .i64 x.to, .int .i64 x.drops] 67)).alloc (.cells #[.int .i64 (heldAt all 0), .int .i64 (heldAt all 1), .int .i64 (heldAt all 2), .int .i64 (heldAt all 3)] 110)).alloc (.cells #[.int .i64 (heldAt has 0), .int .i64 (heldAt has 1), .int .i64 (heldAt has 2), .int .i64 (heldAt has 3)] 110)).alloc (.cells #[.int .i64 0, .int .i64 0] 30)) = w0 at *
 have x0_0 := (HLay.out.blk 0 rfl).cell 0
 have x0_1 := (HLay.out.blk 0 rfl).cell 1
 have x0_2 := (HLay.out.blk 0 rfl).cell 2
 have x0_3 := (HLay.out.blk 0 rfl).cell 3
 have l0_ := HLay.out.lt 0 rfl
 have x1_0 := (HLay.out.blk 1 rfl).cell 0
 have x1_1 := (HLay.out.blk 1 rfl).cell 1
 have x1_2 := (HLay.out.blk 1 rfl).cell 2
 have x1_3 := (HLay.out.blk 1 rfl).cell 3
 have l1_ := HLay.out.lt 1 rfl
 gi_wp2
 clear x0_0 x0_1 x0_2 x0_3 l0_ x1_0 x1_1 x1_2 x1_3 l1_
 refine ⟨trivial, (callsIn_wide.2 (rindex_any Av nv cv Aa na ca At nt ct m x.fr w0 (HM.out.up HLay.out.1))).mono ?_⟩
 rintro e W1 ⟨rfl, hb⟩
 replace HLay := Lib.hid (HLay.out.below hb)
 clear hb
 obtain ⟨ix, hix⟩ : ∃ ix, idxV m.vessels x.fr = ix := ⟨_, rfl⟩
 rw [hix]
 have HIX := Lib.hid hix
 clear hix
 by_cases h1 : x.kind = 1
 ·
  have h1b : (x.kind == 1) = true := by simpa using h1
  have H1 := Lib.hid h1
  clear h1
  by_cases h2 : x.fr = fountain
  ·
   have h2b : (x.fr == fountain) = true := by simpa using h2
   have H2 := Lib.hid h2
   clear h2
   have x1_0 := (HLay.out.blk 1 rfl).cell 0
   have x1_1 := (HLay.out.blk 1 rfl).cell 1
   have x1_2 := (HLay.out.blk 1 rfl).cell 2
   have x1_3 := (HLay.out.blk 1 rfl).cell 3
   have l1_ := HLay.out.lt 1 rfl
   have x4_0 := (HLay.out.blk 4 rfl).cell 0
   have z4_0 := (HLay.out.blk 4 rfl).frozen 0
   have x4_1 := (HLay.out.blk 4 rfl).cell 1
   have z4_1 := (HLay.out.blk 4 rfl).frozen 1
   have l4_ := HLay.out.lt 4 rfl
   gi_wp2
   have R2 := ret2' (HLay.out.blk 4 rfl) HLay.out.1 (HLay.out.ge 4 rfl) (.int .i64 (x.drops)) (.int .i64 (x.drops))
   have v0 := R2.1.cell 0
   have v1 := R2.1.cell 1
   refine bodyPost_ret (v := .agg #[.int .i64 (x.drops), .int .i64 (x.drops)]) (by simp [results, Try.results50, go_sem, v0, v1]) rfl ?_
   exact ⟨by unfold spanR; rw [if_pos H1.out, if_pos H2.out], R2.2.1⟩
  ·
   have h2b : (x.fr == fountain) = false := by simpa using h2
   have H2 := Lib.hid h2
   clear h2
   have x1_0 := (HLay.out.blk 1 rfl).cell 0
   have x1_1 := (HLay.out.blk 1 rfl).cell 1
   have x1_2 := (HLay.out.blk 1 rfl).cell 2
   have x1_3 := (HLay.out.blk 1 rfl).cell 3
   have l1_ := HLay.out.lt 1 rfl
   have x4_0 := (HLay.out.blk 4 rfl).cell 0
   have z4_0 := (HLay.out.blk 4 rfl).frozen 0
   have x4_1 := (HLay.out.blk 4 rfl).cell 1
   have z4_1 := (HLay.out.blk 4 rfl).frozen 1
   have l4_ := HLay.out.lt 4 rfl
   gi_wp2
   have R2 := ret2' (HLay.out.blk 4 rfl) HLay.out.1 (HLay.out.ge 4 rfl) (.int .i64 (0)) (.int .i64 (0))
   have v0 := R2.1.cell 0
   have v1 := R2.1.cell 1
   refine bodyPost_ret (v := .agg #[.int .i64 (0), .int .i64 (0)]) (by simp [results, Try.results50, go_sem, v0, v1]) rfl ?_
   exact ⟨by unfold spanR; rw [if_pos H1.out, if_neg (by simpa using H2.out)], R2.2.1⟩
 ·
  have h1b : (x.kind == 1) = false := by simpa using h1
  have h0 := HOK.out.from_ h1
  have hl := idxV_lt h0
  have hv4 := HV4.out
  rw [HIX.out] at h0 hl
  obtain ⟨q, rfl⟩ : ∃ q : Nat, ix = (q : Int) := ⟨ix.toNat, by omega⟩
  have hq4 : q < 4 := by omega
  have HQ4 := Lib.hid hq4
  have H1 := Lib.hid h1
  clear h1 h0 hl hv4
  by_cases h4 : x.kind = 4
  ·
   have h4b : (x.kind == 4) = true := by simpa using h4
   have H4 := Lib.hid h4
   clear h4
   have c2 := ((HLay.out.blk 2 rfl).cell q).trans (heldC_at all HQ4.out)
   have c3 := ((HLay.out.blk 3 rfl).cell q).trans (heldC_at has HQ4.out)
   have c2l := HLay.out.lt 2 rfl
   have c3l := HLay.out.lt 3 rfl
   have x1_0 := (HLay.out.blk 1 rfl).cell 0
   have x1_1 := (HLay.out.blk 1 rfl).cell 1
   have x1_2 := (HLay.out.blk 1 rfl).cell 2
   have x1_3 := (HLay.out.blk 1 rfl).cell 3
   have l1_ := HLay.out.lt 1 rfl
   have x4_0 := (HLay.out.blk 4 rfl).cell 0
   have z4_0 := (HLay.out.blk 4 rfl).frozen 0
   have x4_1 := (HLay.out.blk 4 rfl).cell 1
   have z4_1 := (HLay.out.blk 4 rfl).frozen 1
   have l4_ := HLay.out.lt 4 rfl
   gi_wp2
   gi_region
   all_goals gi_wp2
   all_goals
    have R2 := ret2' (HLay.out.blk 4 rfl) HLay.out.1 (HLay.out.ge 4 rfl) (.int .i64 (heldAt has (q : Int))) (.int .i64 (heldAt has (q : Int)))
    have v0 := R2.1.cell 0
    have v1 := R2.1.cell 1
    refine bodyPost_ret (v := .agg #[.int .i64 (heldAt has (q : Int)), .int .i64 (heldAt has (q : Int))]) (by simp [results, Try.results50, go_sem, v0, v1]) rfl ?_
    exact ⟨by unfold spanR; rw [if_neg H1.out, if_pos H4.out, HIX.out], below_drewN R2.2.1 1⟩
  ·
   have h4b : (x.kind == 4) = false := by simpa using h4
   have hk := HOK.out.kind
   have hsz := HOK.out.size.2 (by have := H1.out; omega)
   rw [HIX.out] at hsz
   have hbd := HR.out q HQ4.out
   have hft := HF.out.le q HQ4.out
   have H4 := Lib.hid h4
   clear h4 hk
   have c2 := ((HLay.out.blk 2 rfl).cell q).trans (heldC_at all HQ4.out)
   have c3 := ((HLay.out.blk 3 rfl).cell q).trans (heldC_at has HQ4.out)
   have c2l := HLay.out.lt 2 rfl
   have c3l := HLay.out.lt 3 rfl
   have x1_0 := (HLay.out.blk 1 rfl).cell 0
   have x1_1 := (HLay.out.blk 1 rfl).cell 1
   have x1_2 := (HLay.out.blk 1 rfl).cell 2
   have x1_3 := (HLay.out.blk 1 rfl).cell 3
   have l1_ := HLay.out.lt 1 rfl
   have x4_0 := (HLay.out.blk 4 rfl).cell 0
   have z4_0 := (HLay.out.blk 4 rfl).frozen 0
   have x4_1 := (HLay.out.blk 4 rfl).cell 1
   have z4_1 := (HLay.out.blk 4 rfl).frozen 1
   have l4_ := HLay.out.lt 4 rfl
   gi_wp2
   gi_region
   all_goals gi_wp2
   all_goals
    have R2 := ret2' (HLay.out.blk 4 rfl) HLay.out.1 (HLay.out.ge 4 rfl) (.int .i64 (max 0 (x.drops - (heldAt all (q : Int) - heldAt has (q : Int))))) (.int .i64 (min (heldAt has (q : Int)) x.drops))
    have v0 := R2.1.cell 0
    have v1 := R2.1.cell 1
    refine bodyPost_ret (v := .agg #[.int .i64 (max 0 (x.drops - (heldAt all (q : Int) - heldAt has (q : Int)))), .int .i64 (min (heldAt has (q : Int)) x.drops)]) (by simp [results, Try.results50, go_sem, v0, v1]) rfl ?_
    exact ⟨by unfold spanR; rw [if_neg H1.out, if_neg H4.out, HIX.out], below_drewN R2.2.1 1⟩

end Go.Proofs.Ythofngceiecniaa
/- The answer's moved. -/
namespace Go.Proofs.Ythofngceiecniaa
open Go.RowKit
theorem lay_set2 {w W : World} {t0 t1 t3 : TypeId} {c0 c1 c3 : Array Value} {s : Held} (h : Lay w W [(w.heap.size, t0, c0), (w.heap.size + 1, t1, c1), (w.heap.size + 1 + 1, 110, #[.int .i64 (heldAt s 0), .int .i64 (heldAt s 1), .int .i64 (heldAt s 2), .int .i64 (heldAt s 3)]), (w.heap.size + 1 + 1 + 1, t3, c3)]) (q : Nat) (hs : s.length = 4) (hq : q < 4) (v : Int) :
  Lay w (W.setCell ⟨w.heap.size + 1 + 1, q, none⟩ (.int .i64 v)) [(w.heap.size, t0, c0), (w.heap.size + 1, t1, c1), (w.heap.size + 1 + 1, 110, (heldC (s.set q v)).toArray), (w.heap.size + 1 + 1 + 1, t3, c3)] := by
 have hg := grown_setCell (row := some (w.heap.size + 1 + 1)) (grown_refl W _) (p := ⟨w.heap.size + 1 + 1, q, none⟩) (.inl rfl) (.int .i64 v)
 refine ⟨h.1.setCell (p := ⟨w.heap.size + 1 + 1, q, none⟩) (by simp; omega) _, fun b hb => ?_⟩
 simp only [List.mem_cons, List.not_mem_nil, or_false] at hb
 rcases hb with rfl | rfl | rfl | rfl
 ·exact ⟨h.ge 0 rfl, (h.blk 0 rfl).grown hg (fun e => by have := Option.some.inj e; omega)⟩
 ·exact ⟨h.ge 1 rfl, (h.blk 1 rfl).grown hg (fun e => by have := Option.some.inj e; omega)⟩
 ·refine ⟨h.ge 2 rfl, ?_⟩
  have := (h.blk 2 rfl).set_ q (.int .i64 v)
  rwa [show #[.int .i64 (heldAt s 0), .int .i64 (heldAt s 1), .int .i64 (heldAt s 2), .int .i64 (heldAt s 3)] = (heldC s).toArray from rfl, heldC_set hs hq] at this
 ·exact ⟨h.ge 3 rfl, (h.blk 3 rfl).grown hg (fun e => by have := Option.some.inj e; omega)⟩
theorem ret_held {a b : Held} (h : a = b) : Ending.returned (.agg #[.int .i64 (heldAt a 0), .int .i64 (heldAt a 1), .int .i64 (heldAt a 2), .int .i64 (heldAt a 3)]) = .returned (.agg #[.int .i64 (heldAt b 0), .int .i64 (heldAt b 1), .int .i64 (heldAt b 2), .int .i64 (heldAt b 3)]) := by rw [h]
theorem setH_bd {s : Held} {n : Int} {a b : Nat} (h : ∀ q : Nat, q < 4 → 0 ≤ heldAt s q ∧ heldAt s q ≤ 12) (hn : 0 ≤ n ∧ n ≤ 2000) (hl : s.length = 4) (ha : a < 4) (hb : b < 4) : -2000 ≤ heldAt (s.set a (heldAt s (a : Int) - n)) (b : Int) ∧ heldAt (s.set a (heldAt s (a : Int) - n)) (b : Int) ≤ 12 := by
 have h1 := h a ha
 have h2 := h b hb
 have e := heldAt_set (s := s) (i := (a : Int)) (j := (b : Int)) (v := heldAt s (a : Int) - n) (by omega) (by omega) (by omega)
 rw [Int.toNat_natCast] at e
 rw [e]
 split <;> omega

set_option maxRecDepth 100000 in
set_option maxHeartbeats 8000000 in
theorem rmoved_in (Av : Option Addr) (nv cv : Nat) (Aa : Option Addr) (na ca : Nat) (At : Option Addr) (nt ct : Nat) (m : Mix) (x : MAct) (has : Held) (n : Int) (all : Held) (w : World) (h : MixS w Av nv Aa na At nt m) (hok : ActOk m all x) (hl : has.length = 4) (hr : ∀ q : Nat, q < 4 → 0 ≤ heldAt has q ∧ heldAt has q ≤ 12) (hn : 0 ≤ n ∧ n ≤ 2000) (hv4 : m.vessels.length ≤ 4) :
  CallsIn Fence.wide 9 Try.prog 52 #[.agg #[.int .i64 m.fountains, .slice Av nv cv, .slice Aa na ca, .slice At nt ct], .agg #[.int .i64 x.kind, .int .i64 x.fr, .int .i64 x.to, .int .i64 x.drops], .agg #[.int .i64 (heldAt has 0), .int .i64 (heldAt has 1), .int .i64 (heldAt has 2), .int .i64 (heldAt has 3)], .int .i64 n] w (fun e w' => e = .returned (.agg #[.int .i64 (heldAt (movedR m x has n) 0), .int .i64 (heldAt (movedR m x has n) 1), .int .i64 (heldAt (movedR m x has n) 2), .int .i64 (heldAt (movedR m x has n) 3)]) ∧ Below w.heap.size w w') := by
 have HM := Lib.hid h
 have HOK := Lib.hid hok
 have HR := Lib.hid hr
 have HL := Lib.hid hl
 have HN := Lib.hid hn
 have HV4 := Lib.hid hv4
 have hd4 := hok.kind
 clear h hok hr hl hn hv4
 refine callsIn_of_wp Try.func52 rfl trivial ?_ rfl
 simp only [Try.ntmps52, List.size_toArray, List.length_cons, List.length_nil, Nat.reduceAdd, Nat.reduceSub, Array.replicate_succ, Array.replicate_zero, List.push_toArray, List.append_toArray, List.nil_append, List.cons_append]
 gi_upto_region 1 with fail
 have HLay := Lib.hid (Lay.four w 26 #[.int .i64 m.fountains, .slice Av nv cv, .slice Aa na ca, .slice At nt ct] 67 #[.int .i64 x.kind, .int .i64 x.fr, .int .i64 x.to, .int .i64 x.drops] 110 #[.int .i64 (heldAt has 0), .int .i64 (heldAt has 1), .int .i64 (heldAt has 2), .int .i64 (heldAt has 3)] 110 #[.int .i64 0, .int .i64 0, .int .i64 0, .int .i64 0])
 generalize ((((w.alloc (.cells #[.int .i64 m.fountains, .slice Av nv cv, .slice Aa na ca, .slice At nt ct] 26)).alloc (.cells #[.int .i64 x.kind, .int .i64 x.fr, .int .i64 x.to, .int .i64 x.drops] 67)).alloc (.cells #[.int .i64 (heldAt has 0), .int .i64 (heldAt has 1), .int .i64 (heldAt has 2), .int .i64 (heldAt has 3)] 110)).alloc (.cells #[.int .i64 0, .int .i64 0, .int .i64 0, .int .i64 0] 110)) = w0 at *
 by_cases h1 : x.kind = 1
 ·
  have h1b : (x.kind != 1) = false := by simpa using h1
  have h3b : decide (x.kind < 3) = true := decide_eq_true (by omega)
  have H1 := Lib.hid h1
  clear h1 hd4
  have x1_0 := (HLay.out.blk 1 rfl).cell 0
  have x1_1 := (HLay.out.blk 1 rfl).cell 1
  have x1_2 := (HLay.out.blk 1 rfl).cell 2
  have x1_3 := (HLay.out.blk 1 rfl).cell 3
  have l1_ := HLay.out.lt 1 rfl
  gi_upto_region 4 with fail
  clear x1_0 x1_1 x1_2 x1_3 l1_
  have x0_0 := (HLay.out.blk 0 rfl).cell 0
  have x0_1 := (HLay.out.blk 0 rfl).cell 1
  have x0_2 := (HLay.out.blk 0 rfl).cell 2
  have x0_3 := (HLay.out.blk 0 rfl).cell 3
  have l0_ := HLay.out.lt 0 rfl
  have x1_0 := (HLay.out.blk 1 rfl).cell 0
  have x1_1 := (HLay.out.blk 1 rfl).cell 1
  have x1_2 := (HLay.out.blk 1 rfl).cell 2
  have x1_3 := (HLay.out.blk 1 rfl).cell 3
  have l1_ := HLay.out.lt 1 rfl
  gi_wp2
  clear x0_0 x0_1 x0_2 x0_3 l0_ x1_0 x1_1 x1_2 x1_3 l1_
  refine ⟨trivial, (callsIn_wide.2 (rindex_any Av nv cv Aa na ca At nt ct m x.to w0 (HM.out.up HLay.out.1))).mono ?_⟩
  rintro e W1 ⟨rfl, hb⟩
  replace HLay := Lib.hid (HLay.out.below hb)
  clear hb
  have h0 := HOK.out.to_ (.inl H1.out)
  have hlt := idxV_lt h0
  have hv4 := HV4.out
  obtain ⟨b, hb⟩ : ∃ q : Nat, idxV m.vessels x.to = (q : Int) := ⟨(idxV m.vessels x.to).toNat, by omega⟩
  rw [hb] at hlt ⊢
  have HQb : Hid (b < 4) := Lib.hid (by omega)
  have HIb := Lib.hid hb
  clear h0 hlt hv4 hb
  have hn := HN.out
  have hbd := HR.out b HQb.out
  have cq := ((HLay.out.blk 2 rfl).cell b).trans (heldC_at (has) HQb.out)
  have fq := (HLay.out.blk 2 rfl).frozen b
  have lq := HLay.out.lt 2 rfl
  have hq4 := HQb.out
  have hqi : (b : Int) < 4 := by omega
  gi_upto_region 5 with fail
  have HLS := Lib.hid (lay_set2 HLay.out b (by simpa using HL.out) HQb.out (heldAt (has) (b : Int) + n))
  generalize W1.setCell ⟨w.heap.size + 1 + 1, b, none⟩ (.int .i64 (heldAt (has) (b : Int) + n)) = S2 at *
  replace HLay := HLS
  clear cq fq lq HLS hn hbd hq4 hqi
  replace HLay := Lib.hid (show Lay w S2 [(w.heap.size, 26, #[.int .i64 m.fountains, .slice Av nv cv, .slice Aa na ca, .slice At nt ct]), (w.heap.size + 1, 67, #[.int .i64 x.kind, .int .i64 x.fr, .int .i64 x.to, .int .i64 x.drops]), (w.heap.size + 1 + 1, 110, #[.int .i64 (heldAt (has.set b (heldAt has (b : Int) + n)) 0), .int .i64 (heldAt (has.set b (heldAt has (b : Int) + n)) 1), .int .i64 (heldAt (has.set b (heldAt has (b : Int) + n)) 2), .int .i64 (heldAt (has.set b (heldAt has (b : Int) + n)) 3)]), (w.heap.size + 1 + 1 + 1, 110, #[.int .i64 0, .int .i64 0, .int .i64 0, .int .i64 0])] from HLay.out)
  have x2_0 := (HLay.out.blk 2 rfl).cell 0
  have x2_1 := (HLay.out.blk 2 rfl).cell 1
  have x2_2 := (HLay.out.blk 2 rfl).cell 2
  have x2_3 := (HLay.out.blk 2 rfl).cell 3
  have l2_ := HLay.out.lt 2 rfl
  have x3_0 := (HLay.out.blk 3 rfl).cell 0
  have z3_0 := (HLay.out.blk 3 rfl).frozen 0
  have x3_1 := (HLay.out.blk 3 rfl).cell 1
  have z3_1 := (HLay.out.blk 3 rfl).frozen 1
  have x3_2 := (HLay.out.blk 3 rfl).cell 2
  have z3_2 := (HLay.out.blk 3 rfl).frozen 2
  have x3_3 := (HLay.out.blk 3 rfl).cell 3
  have z3_3 := (HLay.out.blk 3 rfl).frozen 3
  have l3_ := HLay.out.lt 3 rfl
  gi_wp2
  have R4 := ret4' (HLay.out.blk 3 rfl) HLay.out.1 (HLay.out.ge 3 rfl) (.int .i64 (heldAt (has.set b (heldAt has (b : Int) + n)) 0)) (.int .i64 (heldAt (has.set b (heldAt has (b : Int) + n)) 1)) (.int .i64 (heldAt (has.set b (heldAt has (b : Int) + n)) 2)) (.int .i64 (heldAt (has.set b (heldAt has (b : Int) + n)) 3))
  have v0 := R4.1.cell 0
  have v1 := R4.1.cell 1
  have v2 := R4.1.cell 2
  have v3 := R4.1.cell 3
  refine bodyPost_ret (v := .agg #[.int .i64 (heldAt (has.set b (heldAt has (b : Int) + n)) 0), .int .i64 (heldAt (has.set b (heldAt has (b : Int) + n)) 1), .int .i64 (heldAt (has.set b (heldAt has (b : Int) + n)) 2), .int .i64 (heldAt (has.set b (heldAt has (b : Int) + n)) 3)]) (by simp [results, Try.results52, go_sem, v0, v1, v2, v3]) rfl ?_
  exact ⟨ret_held (by unfold movedR; simp only [H1.out, HIb.out, Int.toNat_natCast]; rfl), R4.2.1⟩
 ·
  have h1b : (x.kind != 1) = true := by simpa using h1
  have H1 := Lib.hid h1
  by_cases h3 : x.kind < 3
  ·
   have h3b : decide (x.kind < 3) = true := decide_eq_true h3
   have H2 : Hid (x.kind = 2) := Lib.hid (by omega)
   have H3 := Lib.hid h3
   clear h1 h3 hd4
   have x1_0 := (HLay.out.blk 1 rfl).cell 0
   have x1_1 := (HLay.out.blk 1 rfl).cell 1
   have x1_2 := (HLay.out.blk 1 rfl).cell 2
   have x1_3 := (HLay.out.blk 1 rfl).cell 3
   have l1_ := HLay.out.lt 1 rfl
   gi_upto_region 2 with fail
   clear x1_0 x1_1 x1_2 x1_3 l1_
   have x0_0 := (HLay.out.blk 0 rfl).cell 0
   have x0_1 := (HLay.out.blk 0 rfl).cell 1
   have x0_2 := (HLay.out.blk 0 rfl).cell 2
   have x0_3 := (HLay.out.blk 0 rfl).cell 3
   have l0_ := HLay.out.lt 0 rfl
   have x1_0 := (HLay.out.blk 1 rfl).cell 0
   have x1_1 := (HLay.out.blk 1 rfl).cell 1
   have x1_2 := (HLay.out.blk 1 rfl).cell 2
   have x1_3 := (HLay.out.blk 1 rfl).cell 3
   have l1_ := HLay.out.lt 1 rfl
   gi_wp2
   clear x0_0 x0_1 x0_2 x0_3 l0_ x1_0 x1_1 x1_2 x1_3 l1_
   refine ⟨trivial, (callsIn_wide.2 (rindex_any Av nv cv Aa na ca At nt ct m x.fr w0 (HM.out.up HLay.out.1))).mono ?_⟩
   rintro e W3 ⟨rfl, hb⟩
   replace HLay := Lib.hid (HLay.out.below hb)
   clear hb
   have h0 := HOK.out.from_ H1.out
   have hlt := idxV_lt h0
   have hv4 := HV4.out
   obtain ⟨a, ha⟩ : ∃ q : Nat, idxV m.vessels x.fr = (q : Int) := ⟨(idxV m.vessels x.fr).toNat, by omega⟩
   rw [ha] at hlt ⊢
   have HQa : Hid (a < 4) := Lib.hid (by omega)
   have HIa := Lib.hid ha
   clear h0 hlt hv4 ha
   have hn := HN.out
   have hbd := HR.out a HQa.out
   have cq := ((HLay.out.blk 2 rfl).cell a).trans (heldC_at (has) HQa.out)
   have fq := (HLay.out.blk 2 rfl).frozen a
   have lq := HLay.out.lt 2 rfl
   have hq4 := HQa.out
   have hqi : (a : Int) < 4 := by omega
   gi_upto_region 3 with fail
   have HLS := Lib.hid (lay_set2 HLay.out a (by simpa using HL.out) HQa.out (heldAt (has) (a : Int) - n))
   generalize W3.setCell ⟨w.heap.size + 1 + 1, a, none⟩ (.int .i64 (heldAt (has) (a : Int) - n)) = S4 at *
   replace HLay := HLS
   clear cq fq lq HLS hn hbd hq4 hqi
   replace HLay := Lib.hid (show Lay w S4 [(w.heap.size, 26, #[.int .i64 m.fountains, .slice Av nv cv, .slice Aa na ca, .slice At nt ct]), (w.heap.size + 1, 67, #[.int .i64 x.kind, .int .i64 x.fr, .int .i64 x.to, .int .i64 x.drops]), (w.heap.size + 1 + 1, 110, #[.int .i64 (heldAt (has.set a (heldAt has (a : Int) - n)) 0), .int .i64 (heldAt (has.set a (heldAt has (a : Int) - n)) 1), .int .i64 (heldAt (has.set a (heldAt has (a : Int) - n)) 2), .int .i64 (heldAt (has.set a (heldAt has (a : Int) - n)) 3)]), (w.heap.size + 1 + 1 + 1, 110, #[.int .i64 0, .int .i64 0, .int .i64 0, .int .i64 0])] from HLay.out)
   have x1_0 := (HLay.out.blk 1 rfl).cell 0
   have x1_1 := (HLay.out.blk 1 rfl).cell 1
   have x1_2 := (HLay.out.blk 1 rfl).cell 2
   have x1_3 := (HLay.out.blk 1 rfl).cell 3
   have l1_ := HLay.out.lt 1 rfl
   gi_upto_region 4 with fail
   clear x1_0 x1_1 x1_2 x1_3 l1_
   have x0_0 := (HLay.out.blk 0 rfl).cell 0
   have x0_1 := (HLay.out.blk 0 rfl).cell 1
   have x0_2 := (HLay.out.blk 0 rfl).cell 2
   have x0_3 := (HLay.out.blk 0 rfl).cell 3
   have l0_ := HLay.out.lt 0 rfl
   have x1_0 := (HLay.out.blk 1 rfl).cell 0
   have x1_1 := (HLay.out.blk 1 rfl).cell 1
   have x1_2 := (HLay.out.blk 1 rfl).cell 2
   have x1_3 := (HLay.out.blk 1 rfl).cell 3
   have l1_ := HLay.out.lt 1 rfl
   gi_wp2
   clear x0_0 x0_1 x0_2 x0_3 l0_ x1_0 x1_1 x1_2 x1_3 l1_
   refine ⟨trivial, (callsIn_wide.2 (rindex_any Av nv cv Aa na ca At nt ct m x.to S4 (HM.out.up HLay.out.1))).mono ?_⟩
   rintro e W5 ⟨rfl, hb⟩
   replace HLay := Lib.hid (HLay.out.below hb)
   clear hb
   have h0 := HOK.out.to_ (.inr H2.out)
   have hlt := idxV_lt h0
   have hv4 := HV4.out
   obtain ⟨b, hb⟩ : ∃ q : Nat, idxV m.vessels x.to = (q : Int) := ⟨(idxV m.vessels x.to).toNat, by omega⟩
   rw [hb] at hlt ⊢
   have HQb : Hid (b < 4) := Lib.hid (by omega)
   have HIb := Lib.hid hb
   clear h0 hlt hv4 hb
   have hn := HN.out
   have hbd := setH_bd HR.out HN.out HL.out HQa.out HQb.out
   have cq := ((HLay.out.blk 2 rfl).cell b).trans (heldC_at (has.set a (heldAt has (a : Int) - n)) HQb.out)
   have fq := (HLay.out.blk 2 rfl).frozen b
   have lq := HLay.out.lt 2 rfl
   have hq4 := HQb.out
   have hqi : (b : Int) < 4 := by omega
   gi_upto_region 5 with fail
   have HLS := Lib.hid (lay_set2 HLay.out b (by simpa using HL.out) HQb.out (heldAt (has.set a (heldAt has (a : Int) - n)) (b : Int) + n))
   generalize W5.setCell ⟨w.heap.size + 1 + 1, b, none⟩ (.int .i64 (heldAt (has.set a (heldAt has (a : Int) - n)) (b : Int) + n)) = S6 at *
   replace HLay := HLS
   clear cq fq lq HLS hn hbd hq4 hqi
   replace HLay := Lib.hid (show Lay w S6 [(w.heap.size, 26, #[.int .i64 m.fountains, .slice Av nv cv, .slice Aa na ca, .slice At nt ct]), (w.heap.size + 1, 67, #[.int .i64 x.kind, .int .i64 x.fr, .int .i64 x.to, .int .i64 x.drops]), (w.heap.size + 1 + 1, 110, #[.int .i64 (heldAt ((has.set a (heldAt has (a : Int) - n)).set b (heldAt (has.set a (heldAt has (a : Int) - n)) (b : Int) + n)) 0), .int .i64 (heldAt ((has.set a (heldAt has (a : Int) - n)).set b (heldAt (has.set a (heldAt has (a : Int) - n)) (b : Int) + n)) 1), .int .i64 (heldAt ((has.set a (heldAt has (a : Int) - n)).set b (heldAt (has.set a (heldAt has (a : Int) - n)) (b : Int) + n)) 2), .int .i64 (heldAt ((has.set a (heldAt has (a : Int) - n)).set b (heldAt (has.set a (heldAt has (a : Int) - n)) (b : Int) + n)) 3)]), (w.heap.size + 1 + 1 + 1, 110, #[.int .i64 0, .int .i64 0, .int .i64 0, .int .i64 0])] from HLay.out)
   have x2_0 := (HLay.out.blk 2 rfl).cell 0
   have x2_1 := (HLay.out.blk 2 rfl).cell 1
   have x2_2 := (HLay.out.blk 2 rfl).cell 2
   have x2_3 := (HLay.out.blk 2 rfl).cell 3
   have l2_ := HLay.out.lt 2 rfl
   have x3_0 := (HLay.out.blk 3 rfl).cell 0
   have z3_0 := (HLay.out.blk 3 rfl).frozen 0
   have x3_1 := (HLay.out.blk 3 rfl).cell 1
   have z3_1 := (HLay.out.blk 3 rfl).frozen 1
   have x3_2 := (HLay.out.blk 3 rfl).cell 2
   have z3_2 := (HLay.out.blk 3 rfl).frozen 2
   have x3_3 := (HLay.out.blk 3 rfl).cell 3
   have z3_3 := (HLay.out.blk 3 rfl).frozen 3
   have l3_ := HLay.out.lt 3 rfl
   gi_wp2
   have R4 := ret4' (HLay.out.blk 3 rfl) HLay.out.1 (HLay.out.ge 3 rfl) (.int .i64 (heldAt ((has.set a (heldAt has (a : Int) - n)).set b (heldAt (has.set a (heldAt has (a : Int) - n)) (b : Int) + n)) 0)) (.int .i64 (heldAt ((has.set a (heldAt has (a : Int) - n)).set b (heldAt (has.set a (heldAt has (a : Int) - n)) (b : Int) + n)) 1)) (.int .i64 (heldAt ((has.set a (heldAt has (a : Int) - n)).set b (heldAt (has.set a (heldAt has (a : Int) - n)) (b : Int) + n)) 2)) (.int .i64 (heldAt ((has.set a (heldAt has (a : Int) - n)).set b (heldAt (has.set a (heldAt has (a : Int) - n)) (b : Int) + n)) 3))
   have v0 := R4.1.cell 0
   have v1 := R4.1.cell 1
   have v2 := R4.1.cell 2
   have v3 := R4.1.cell 3
   refine bodyPost_ret (v := .agg #[.int .i64 (heldAt ((has.set a (heldAt has (a : Int) - n)).set b (heldAt (has.set a (heldAt has (a : Int) - n)) (b : Int) + n)) 0), .int .i64 (heldAt ((has.set a (heldAt has (a : Int) - n)).set b (heldAt (has.set a (heldAt has (a : Int) - n)) (b : Int) + n)) 1), .int .i64 (heldAt ((has.set a (heldAt has (a : Int) - n)).set b (heldAt (has.set a (heldAt has (a : Int) - n)) (b : Int) + n)) 2), .int .i64 (heldAt ((has.set a (heldAt has (a : Int) - n)).set b (heldAt (has.set a (heldAt has (a : Int) - n)) (b : Int) + n)) 3)]) (by simp [results, Try.results52, go_sem, v0, v1, v2, v3]) rfl ?_
   exact ⟨ret_held (by unfold movedR; simp only [if_neg H1.out, if_pos H3.out, HIa.out, HIb.out, Int.toNat_natCast]), R4.2.1⟩
  ·
   have h3b : decide (x.kind < 3) = false := decide_eq_false h3
   have H3 := Lib.hid h3
   clear h1 h3 hd4
   have x1_0 := (HLay.out.blk 1 rfl).cell 0
   have x1_1 := (HLay.out.blk 1 rfl).cell 1
   have x1_2 := (HLay.out.blk 1 rfl).cell 2
   have x1_3 := (HLay.out.blk 1 rfl).cell 3
   have l1_ := HLay.out.lt 1 rfl
   gi_upto_region 2 with fail
   clear x1_0 x1_1 x1_2 x1_3 l1_
   have x0_0 := (HLay.out.blk 0 rfl).cell 0
   have x0_1 := (HLay.out.blk 0 rfl).cell 1
   have x0_2 := (HLay.out.blk 0 rfl).cell 2
   have x0_3 := (HLay.out.blk 0 rfl).cell 3
   have l0_ := HLay.out.lt 0 rfl
   have x1_0 := (HLay.out.blk 1 rfl).cell 0
   have x1_1 := (HLay.out.blk 1 rfl).cell 1
   have x1_2 := (HLay.out.blk 1 rfl).cell 2
   have x1_3 := (HLay.out.blk 1 rfl).cell 3
   have l1_ := HLay.out.lt 1 rfl
   gi_wp2
   clear x0_0 x0_1 x0_2 x0_3 l0_ x1_0 x1_1 x1_2 x1_3 l1_
   refine ⟨trivial, (callsIn_wide.2 (rindex_any Av nv cv Aa na ca At nt ct m x.fr w0 (HM.out.up HLay.out.1))).mono ?_⟩
   rintro e W7 ⟨rfl, hb⟩
   replace HLay := Lib.hid (HLay.out.below hb)
   clear hb
   have h0 := HOK.out.from_ H1.out
   have hlt := idxV_lt h0
   have hv4 := HV4.out
   obtain ⟨a, ha⟩ : ∃ q : Nat, idxV m.vessels x.fr = (q : Int) := ⟨(idxV m.vessels x.fr).toNat, by omega⟩
   rw [ha] at hlt ⊢
   have HQa : Hid (a < 4) := Lib.hid (by omega)
   have HIa := Lib.hid ha
   clear h0 hlt hv4 ha
   have hn := HN.out
   have hbd := HR.out a HQa.out
   have cq := ((HLay.out.blk 2 rfl).cell a).trans (heldC_at (has) HQa.out)
   have fq := (HLay.out.blk 2 rfl).frozen a
   have lq := HLay.out.lt 2 rfl
   have hq4 := HQa.out
   have hqi : (a : Int) < 4 := by omega
   gi_upto_region 3 with fail
   have HLS := Lib.hid (lay_set2 HLay.out a (by simpa using HL.out) HQa.out (heldAt (has) (a : Int) - n))
   generalize W7.setCell ⟨w.heap.size + 1 + 1, a, none⟩ (.int .i64 (heldAt (has) (a : Int) - n)) = S8 at *
   replace HLay := HLS
   clear cq fq lq HLS hn hbd hq4 hqi
   replace HLay := Lib.hid (show Lay w S8 [(w.heap.size, 26, #[.int .i64 m.fountains, .slice Av nv cv, .slice Aa na ca, .slice At nt ct]), (w.heap.size + 1, 67, #[.int .i64 x.kind, .int .i64 x.fr, .int .i64 x.to, .int .i64 x.drops]), (w.heap.size + 1 + 1, 110, #[.int .i64 (heldAt (has.set a (heldAt has (a : Int) - n)) 0), .int .i64 (heldAt (has.set a (heldAt has (a : Int) - n)) 1), .int .i64 (heldAt (has.set a (heldAt has (a : Int) - n)) 2), .int .i64 (heldAt (has.set a (heldAt has (a : Int) - n)) 3)]), (w.heap.size + 1 + 1 + 1, 110, #[.int .i64 0, .int .i64 0, .int .i64 0, .int .i64 0])] from HLay.out)
   have x1_0 := (HLay.out.blk 1 rfl).cell 0
   have x1_1 := (HLay.out.blk 1 rfl).cell 1
   have x1_2 := (HLay.out.blk 1 rfl).cell 2
   have x1_3 := (HLay.out.blk 1 rfl).cell 3
   have l1_ := HLay.out.lt 1 rfl
   gi_upto_region 5 with fail
   clear x1_0 x1_1 x1_2 x1_3 l1_
   have x2_0 := (HLay.out.blk 2 rfl).cell 0
   have x2_1 := (HLay.out.blk 2 rfl).cell 1
   have x2_2 := (HLay.out.blk 2 rfl).cell 2
   have x2_3 := (HLay.out.blk 2 rfl).cell 3
   have l2_ := HLay.out.lt 2 rfl
   have x3_0 := (HLay.out.blk 3 rfl).cell 0
   have z3_0 := (HLay.out.blk 3 rfl).frozen 0
   have x3_1 := (HLay.out.blk 3 rfl).cell 1
   have z3_1 := (HLay.out.blk 3 rfl).frozen 1
   have x3_2 := (HLay.out.blk 3 rfl).cell 2
   have z3_2 := (HLay.out.blk 3 rfl).frozen 2
   have x3_3 := (HLay.out.blk 3 rfl).cell 3
   have z3_3 := (HLay.out.blk 3 rfl).frozen 3
   have l3_ := HLay.out.lt 3 rfl
   gi_wp2
   have R4 := ret4' (HLay.out.blk 3 rfl) HLay.out.1 (HLay.out.ge 3 rfl) (.int .i64 (heldAt (has.set a (heldAt has (a : Int) - n)) 0)) (.int .i64 (heldAt (has.set a (heldAt has (a : Int) - n)) 1)) (.int .i64 (heldAt (has.set a (heldAt has (a : Int) - n)) 2)) (.int .i64 (heldAt (has.set a (heldAt has (a : Int) - n)) 3))
   have v0 := R4.1.cell 0
   have v1 := R4.1.cell 1
   have v2 := R4.1.cell 2
   have v3 := R4.1.cell 3
   refine bodyPost_ret (v := .agg #[.int .i64 (heldAt (has.set a (heldAt has (a : Int) - n)) 0), .int .i64 (heldAt (has.set a (heldAt has (a : Int) - n)) 1), .int .i64 (heldAt (has.set a (heldAt has (a : Int) - n)) 2), .int .i64 (heldAt (has.set a (heldAt has (a : Int) - n)) 3)]) (by simp [results, Try.results52, go_sem, v0, v1, v2, v3]) rfl ?_
   exact ⟨ret_held (by unfold movedR; simp only [if_neg H1.out, if_neg (show ¬ x.kind < 3 from by have := H3.out; omega), HIa.out, Int.toNat_natCast]), R4.2.1⟩

end Go.Proofs.Ythofngceiecniaa
/- The answer's tasted. -/
namespace Go.Proofs.Ythofngceiecniaa
open Go.RowKit
def tasB (m : Mix) (f : Int) (t : Nat) (has : Held) (x : Tast) : Bool := !(decide (x.fountain = f) && decide (x.after = t) && !(decide (x.lo ≤ heldAt has (idxV m.vessels x.vessel)) && decide (heldAt has (idxV m.vessels x.vessel) ≤ x.hi)))
section
variable {m : Mix} {f : Int} {t k : Nat} {has : Held} {x : Tast}
theorem tas_all (h : (m.tastes.take m.tastes.length).all (tasB m f t has) = true) : tastedB m f t has = true := by
 rw [List.take_length] at h
 exact h
theorem all_step' {α : Type} {l : List α} {k : Nat} {x : α} {p : α → Bool} (hx : l[k]? = some x) (h : (l.take k).all p = true) (hp : p x = true) : (l.take (k + 1)).all p = true := by
 obtain ⟨hk, rfl⟩ := List.getElem?_eq_some_iff.1 hx
 rw [List.take_succ_eq_append_getElem hk, List.all_append, h]
 simpa using hp
theorem tas_fail (hx : m.tastes[k]? = some x) (hp : tasB m f t has x = false) : tastedB m f t has = false := by
 cases h : tastedB m f t has with
 | false => rfl
 | true =>
  have h2 := List.all_eq_true.1 (show m.tastes.all (tasB m f t has) = true from h) x (List.mem_of_getElem? hx)
  rw [hp] at h2
  cases h2
theorem tas_off (h : ¬ (x.fountain = f ∧ x.after = t)) : tasB m f t has x = true := by
 unfold tasB
 by_cases h1 : x.fountain = f
 ·have h2 : ¬ x.after = t := fun h2 => h ⟨h1, h2⟩
  simp [h2]
 ·simp [h1]
theorem tas_on (h1 : x.fountain = f) (h2 : x.after = t) : tasB m f t has x = wiB (heldAt has (idxV m.vessels x.vessel)) x.lo x.hi := by
 unfold tasB wiB
 simp [h1, h2, Bool.decide_and]
end
inductive FrTst (v0 v1 v2 v3 v4 v7 v8 v12 v13 v14 : Value) : Act → Prop
 | mk (u5 u6 u9 u10 u11 u15 u16 u17 u18 u19 u20 u21 u22 u23 u24 u25 u26 u27 u28 u29 u30 u31 u32 u33 u34 u35 u36 u37 u38 u39 u40 u41 u42 u43 u44 : Value) : FrTst v0 v1 v2 v3 v4 v7 v8 v12 v13 v14 { tmps := #[v0, v1, v2, v3, v4, u5, u6, v7, v8, u9, u10, u11, v12, v13, v14, u15, u16, u17, u18, u19, u20, u21, u22, u23, u24, u25, u26, u27, u28, u29, u30, u31, u32, u33, u34, u35, u36, u37, u38, u39, u40, u41, u42, u43, u44], defers := [] }

set_option maxRecDepth 100000 in
set_option maxHeartbeats 8000000 in
theorem rtasted_in (Av : Option Addr) (nv cv : Nat) (Aa : Option Addr) (na ca : Nat) (At : Option Addr) (nt ct : Nat) (m : Mix) (fountain : Int) (t : Nat) (has : Held) (w : World) (h : MixS w Av nv Aa na At nt m) (htv : ∀ x ∈ m.tastes, 0 ≤ idxV m.vessels x.vessel) (hv4 : m.vessels.length ≤ 4) (hnt : nt ≤ 8) :
  CallsIn Fence.wide 9 Try.prog 93 #[.agg #[.int .i64 m.fountains, .slice Av nv cv, .slice Aa na ca, .slice At nt ct], .int .i64 fountain, .int .i64 (t : Int), .agg #[.int .i64 (heldAt has 0), .int .i64 (heldAt has 1), .int .i64 (heldAt has 2), .int .i64 (heldAt has 3)]] w (fun e w' => e = .returned (.bool (tastedB m fountain t has)) ∧ Below w.heap.size w w') := by
 have HM := Lib.hid h
 have HLT := Lib.hid h.at_.lenT
 have HTV := Lib.hid htv
 have HV4 := Lib.hid hv4
 have HNT := Lib.hid hnt
 clear h htv hv4 hnt
 refine callsIn_of_wp Try.func93 rfl trivial ?_ rfl
 simp only [Try.ntmps93, List.size_toArray, List.length_cons, List.length_nil, Nat.reduceAdd, Nat.reduceSub, Array.replicate_succ, Array.replicate_zero, List.push_toArray, List.append_toArray, List.nil_append, List.cons_append]
 gi_upto_region 1 with fail
 have HLay := Lib.hid (Lay.two w 26 #[.int .i64 m.fountains, .slice Av nv cv, .slice Aa na ca, .slice At nt ct] 110 #[.int .i64 (heldAt has 0), .int .i64 (heldAt has 1), .int .i64 (heldAt has 2), .int .i64 (heldAt has 3)])
 generalize ((w.alloc (.cells #[.int .i64 m.fountains, .slice Av nv cv, .slice Aa na ca, .slice At nt ct] 26)).alloc (.cells #[.int .i64 (heldAt has 0), .int .i64 (heldAt has 1), .int .i64 (heldAt has 2), .int .i64 (heldAt has 3)] 110)) = w0 at *
 have x0_0 := (HLay.out.blk 0 rfl).cell 0
 have x0_1 := (HLay.out.blk 0 rfl).cell 1
 have x0_2 := (HLay.out.blk 0 rfl).cell 2
 have x0_3 := (HLay.out.blk 0 rfl).cell 3
 have l0_ := HLay.out.lt 0 rfl
 gi_wp2
 clear x0_0 x0_1 x0_2 x0_3 l0_
 refine wpIn_loop (fun a W => ∃ k : Nat, Hid (k ≤ nt ∧ Lay w W [(w.heap.size, 26, #[.int .i64 m.fountains, .slice Av nv cv, .slice Aa na ca, .slice At nt ct]), (w.heap.size + 1, 110, #[.int .i64 (heldAt has 0), .int .i64 (heldAt has 1), .int .i64 (heldAt has 2), .int .i64 (heldAt has 3)])] ∧ (m.tastes.take k).all (tasB m fountain t has) = true) ∧ FrTst (.agg #[.int .i64 m.fountains, .slice Av nv cv, .slice Aa na ca, .slice At nt ct]) (.int .i64 fountain) (.int .i64 (t : Int)) (.agg #[.int .i64 (heldAt has 0), .int .i64 (heldAt has 1), .int .i64 (heldAt has 2), .int .i64 (heldAt has 3)]) (.pointer (some ⟨w.heap.size, 0, none⟩)) (.pointer (some ⟨w.heap.size + 1, 0, none⟩)) (.bool false) (.slice At nt ct) (.int .i64 nt) (.int .i64 k) a) (fun a _ => nt - (intOf (a.tmps.getD 14 undef)).toNat) ?_ ?_
 ·exact ⟨0, Lib.hid ⟨by omega, HLay.out, rfl⟩, by constructor⟩
 clear HLay
 rintro a W ⟨k, HS, ha⟩
 cases ha
 have HLay := Lib.hid HS.out.2.1
 by_cases hlt : k < nt
 ·
  obtain ⟨b, off, x, hAt, hbB, hx, c0, c1, c2, c3, c4, c5⟩ := (HM.out.at_.below HLay.out.1).tast hlt
  have hnt := HNT.out
  rw [hAt]
  gi_upto_region 4 with fail
  clear c0 c1 c2 c3 c4 c5 hnt
  obtain ⟨V1, hV⟩ : ∃ V, (W.alloc (.cells #[.int .i64 x.num, .int .i64 x.vessel, .int .i64 x.after, .int .i64 x.fountain, .int .i64 x.lo, .int .i64 x.hi] 65)) = V := ⟨_, rfl⟩
  rw [hV]
  have hb := fbox_bel hV
  have hnew := fbox_blk hV
  have hge := HLay.out.bel.size
  replace HLay := Lib.hid (HLay.out.below hb)
  replace HLay := Lib.hid (HLay.out.add hge hnew)
  clear hnew hge hb hV
  obtain ⟨G2, hG⟩ : ∃ g, W.heap.size = g := ⟨_, rfl⟩
  rw [hG] at HLay ⊢
  clear hG
  replace HLay := Lib.hid (show Lay w V1 [(w.heap.size, 26, #[.int .i64 m.fountains, .slice Av nv cv, .slice Aa na ca, .slice At nt ct]), (w.heap.size + 1, 110, #[.int .i64 (heldAt has 0), .int .i64 (heldAt has 1), .int .i64 (heldAt has 2), .int .i64 (heldAt has 3)]), (G2, 65, #[.int .i64 x.num, .int .i64 x.vessel, .int .i64 x.after, .int .i64 x.fountain, .int .i64 x.lo, .int .i64 x.hi])] from HLay.out)
  have HX := Lib.hid hx
  have HLB := Lib.hid (show Lay w V1 [(w.heap.size, 26, #[.int .i64 m.fountains, .slice Av nv cv, .slice Aa na ca, .slice At nt ct]), (w.heap.size + 1, 110, #[.int .i64 (heldAt has 0), .int .i64 (heldAt has 1), .int .i64 (heldAt has 2), .int .i64 (heldAt has 3)])] from HLay.out.sub (by intro b hb; simp only [List.mem_cons, List.not_mem_nil, or_false] at hb ⊢; rcases hb with rfl | rfl <;> simp))
  clear hx hbB
  rw [← hAt]
  have HAT := Lib.hid hAt
  clear hAt
  by_cases hf : x.fountain = fountain
  ·
   have hfb : (x.fountain == fountain) = true := by simpa using hf
   have HF := Lib.hid hf
   clear hf
   by_cases hg : x.after = t
   ·
    have hgb : (x.after == (t : Int)) = true := by simpa using hg
    have HG := Lib.hid hg
    clear hg
    have h0 := HTV.out x (List.mem_of_getElem? HX.out)
    have hl := idxV_lt h0
    have hv4 := HV4.out
    obtain ⟨q, hq⟩ : ∃ q : Nat, idxV m.vessels x.vessel = (q : Int) := ⟨(idxV m.vessels x.vessel).toNat, by omega⟩
    have HQ4 : Hid (q < 4) := Lib.hid (by omega)
    have HIQ := Lib.hid hq
    clear h0 hl hv4 hq
    refine wpIn_flow_old [([true, true, true, true, true, true, true, true, true, true, true, true, true, true, false, false, false, true, true, true, true, true, true], 14), ([false, false, false, false, false, false, false, false, false, false, false, false, false, false, false, true, true], 23)] [false, false, false, false, false, false, false, false, false, false, false, false, false, false, false, false, false, false, false, false, false, false, false, false, true, true] [] (by kernel_rfl) (by kernel_rfl) (by kernel_rfl) (below_drewN (Below.refl _ _) 1) ?_
    clear hfb hgb
    refine wpFlow_cons (A := ?AF1) rfl ?hq1 ?_
    case hq1 =>
     rintro σ hσ of hof hcl
     have HOF := Lib.hid hof
     have HCL := Lib.hid hcl
     clear hof hcl
     have c0_ : ∀ z, (of z).cell? ⟨w.heap.size, 0, none⟩ = some (.int .i64 m.fountains) := fun z => ((HLay.out.below (HOF.out z)).blk 0 rfl).cell 0
     have c1_ : ∀ z, (of z).cell? ⟨w.heap.size, 1, none⟩ = some (.slice Av nv cv) := fun z => ((HLay.out.below (HOF.out z)).blk 0 rfl).cell 1
     have c2_ : ∀ z, (of z).cell? ⟨w.heap.size, 2, none⟩ = some (.slice Aa na ca) := fun z => ((HLay.out.below (HOF.out z)).blk 0 rfl).cell 2
     have c3_ : ∀ z, (of z).cell? ⟨w.heap.size, 3, none⟩ = some (.slice At nt ct) := fun z => ((HLay.out.below (HOF.out z)).blk 0 rfl).cell 3
     have c4_ : ∀ z, (of z).cell? ⟨G2, 0, none⟩ = some (.int .i64 x.num) := fun z => ((HLay.out.below (HOF.out z)).blk 2 rfl).cell 0
     have c5_ : ∀ z, (of z).cell? ⟨G2, 1, none⟩ = some (.int .i64 x.vessel) := fun z => ((HLay.out.below (HOF.out z)).blk 2 rfl).cell 1
     have c6_ : ∀ z, (of z).cell? ⟨G2, 2, none⟩ = some (.int .i64 x.after) := fun z => ((HLay.out.below (HOF.out z)).blk 2 rfl).cell 2
     have c7_ : ∀ z, (of z).cell? ⟨G2, 3, none⟩ = some (.int .i64 x.fountain) := fun z => ((HLay.out.below (HOF.out z)).blk 2 rfl).cell 3
     have c8_ : ∀ z, (of z).cell? ⟨G2, 4, none⟩ = some (.int .i64 x.lo) := fun z => ((HLay.out.below (HOF.out z)).blk 2 rfl).cell 4
     have c9_ : ∀ z, (of z).cell? ⟨G2, 5, none⟩ = some (.int .i64 x.hi) := fun z => ((HLay.out.below (HOF.out z)).blk 2 rfl).cell 5
     have hfw : ∀ f, Fence.wide.fn f := fun _ => trivial
     have hfb : (x.fountain == fountain) = true := by simpa using HF.out
     have hgb : (x.after == (t : Int)) = true := by simpa using HG.out
     have cq : ∀ z, (of z).cell? ⟨w.heap.size + 1, q, none⟩ = some (.int .i64 (heldAt has (q : Int))) := fun z => (((HLay.out.below (HOF.out z)).blk 1 rfl).cell q).trans (heldC_at has HQ4.out)
     have hq4 := HQ4.out
     have hqi : (q : Int) < 4 := by omega
     simp only [pickB]
     iterate 20 (gi_big_quiet_step (fail))
     refine wpQuietIn_nil ?_
     exact rfl
    intro W3 hW
    replace HLay := Lib.hid (HLay.out.below hW)
    clear hW
    gi_wp2
    refine ⟨trivial, (callsIn_wide.2 (rindex_any Av nv cv Aa na ca At nt ct m x.vessel W3 (HM.out.up HLay.out.1))).mono ?_⟩
    rintro e W4 ⟨rfl, hb⟩
    replace HLay := Lib.hid (HLay.out.below hb)
    rw [HIQ.out]
    gi_wp2
    refine ⟨trivial, hb, ?_⟩
    clear hb
    obtain ⟨bw, hbw⟩ : ∃ b, wiB (heldAt has (q : Int)) x.lo x.hi = b := ⟨_, rfl⟩
    have HBW := Lib.hid hbw
    clear hbw
    refine wpFlow_cons (A := ?AF2) rfl ?hq2 ?_
    case hq2 =>
     rintro σ hσ of hof hcl
     have HOF := Lib.hid hof
     have HCL := Lib.hid hcl
     clear hof hcl
     have c0_ : ∀ z, (of z).cell? ⟨w.heap.size, 0, none⟩ = some (.int .i64 m.fountains) := fun z => ((HLay.out.below (HOF.out z)).blk 0 rfl).cell 0
     have c1_ : ∀ z, (of z).cell? ⟨w.heap.size, 1, none⟩ = some (.slice Av nv cv) := fun z => ((HLay.out.below (HOF.out z)).blk 0 rfl).cell 1
     have c2_ : ∀ z, (of z).cell? ⟨w.heap.size, 2, none⟩ = some (.slice Aa na ca) := fun z => ((HLay.out.below (HOF.out z)).blk 0 rfl).cell 2
     have c3_ : ∀ z, (of z).cell? ⟨w.heap.size, 3, none⟩ = some (.slice At nt ct) := fun z => ((HLay.out.below (HOF.out z)).blk 0 rfl).cell 3
     have c4_ : ∀ z, (of z).cell? ⟨G2, 0, none⟩ = some (.int .i64 x.num) := fun z => ((HLay.out.below (HOF.out z)).blk 2 rfl).cell 0
     have c5_ : ∀ z, (of z).cell? ⟨G2, 1, none⟩ = some (.int .i64 x.vessel) := fun z => ((HLay.out.below (HOF.out z)).blk 2 rfl).cell 1
     have c6_ : ∀ z, (of z).cell? ⟨G2, 2, none⟩ = some (.int .i64 x.after) := fun z => ((HLay.out.below (HOF.out z)).blk 2 rfl).cell 2
     have c7_ : ∀ z, (of z).cell? ⟨G2, 3, none⟩ = some (.int .i64 x.fountain) := fun z => ((HLay.out.below (HOF.out z)).blk 2 rfl).cell 3
     have c8_ : ∀ z, (of z).cell? ⟨G2, 4, none⟩ = some (.int .i64 x.lo) := fun z => ((HLay.out.below (HOF.out z)).blk 2 rfl).cell 4
     have c9_ : ∀ z, (of z).cell? ⟨G2, 5, none⟩ = some (.int .i64 x.hi) := fun z => ((HLay.out.below (HOF.out z)).blk 2 rfl).cell 5
     have hfw : ∀ f, Fence.wide.fn f := fun _ => trivial
     have hfb : (x.fountain == fountain) = true := by simpa using HF.out
     have hgb : (x.after == (t : Int)) = true := by simpa using HG.out
     have cq : ∀ z, (of z).cell? ⟨w.heap.size + 1, q, none⟩ = some (.int .i64 (heldAt has (q : Int))) := fun z => (((HLay.out.below (HOF.out z)).blk 1 rfl).cell q).trans (heldC_at has HQ4.out)
     have hq4 := HQ4.out
     have hqi : (q : Int) < 4 := by omega
     simp only [pickB]
     iterate 2 (gi_big_quiet_step (fail))
     refine wpQuietIn_nil ?_
     exact rfl
    intro W5 hW
    replace HLay := Lib.hid (HLay.out.below hW)
    clear hW
    gi_wp2
    refine ⟨trivial, (callsIn_wide.2 (within_any (heldAt has (q : Int)) x.lo x.hi W5)).mono ?_⟩
    rintro e W6 ⟨rfl, rfl⟩
    rw [HBW.out]
    gi_wp2
    refine ⟨trivial, Below.refl _ _, ?_⟩
    refine wpFlow_nil (A := ?AF3) ?hq3 ?_
    case hq3 =>
     rintro σ hσ of hof hcl
     have HOF := Lib.hid hof
     have HCL := Lib.hid hcl
     clear hof hcl
     have c0_ : ∀ z, (of z).cell? ⟨w.heap.size, 0, none⟩ = some (.int .i64 m.fountains) := fun z => ((HLay.out.below (HOF.out z)).blk 0 rfl).cell 0
     have c1_ : ∀ z, (of z).cell? ⟨w.heap.size, 1, none⟩ = some (.slice Av nv cv) := fun z => ((HLay.out.below (HOF.out z)).blk 0 rfl).cell 1
     have c2_ : ∀ z, (of z).cell? ⟨w.heap.size, 2, none⟩ = some (.slice Aa na ca) := fun z => ((HLay.out.below (HOF.out z)).blk 0 rfl).cell 2
     have c3_ : ∀ z, (of z).cell? ⟨w.heap.size, 3, none⟩ = some (.slice At nt ct) := fun z => ((HLay.out.below (HOF.out z)).blk 0 rfl).cell 3
     have c4_ : ∀ z, (of z).cell? ⟨G2, 0, none⟩ = some (.int .i64 x.num) := fun z => ((HLay.out.below (HOF.out z)).blk 2 rfl).cell 0
     have c5_ : ∀ z, (of z).cell? ⟨G2, 1, none⟩ = some (.int .i64 x.vessel) := fun z => ((HLay.out.below (HOF.out z)).blk 2 rfl).cell 1
     have c6_ : ∀ z, (of z).cell? ⟨G2, 2, none⟩ = some (.int .i64 x.after) := fun z => ((HLay.out.below (HOF.out z)).blk 2 rfl).cell 2
     have c7_ : ∀ z, (of z).cell? ⟨G2, 3, none⟩ = some (.int .i64 x.fountain) := fun z => ((HLay.out.below (HOF.out z)).blk 2 rfl).cell 3
     have c8_ : ∀ z, (of z).cell? ⟨G2, 4, none⟩ = some (.int .i64 x.lo) := fun z => ((HLay.out.below (HOF.out z)).blk 2 rfl).cell 4
     have c9_ : ∀ z, (of z).cell? ⟨G2, 5, none⟩ = some (.int .i64 x.hi) := fun z => ((HLay.out.below (HOF.out z)).blk 2 rfl).cell 5
     have hfw : ∀ f, Fence.wide.fn f := fun _ => trivial
     have hfb : (x.fountain == fountain) = true := by simpa using HF.out
     have hgb : (x.after == (t : Int)) = true := by simpa using HG.out
     have cq : ∀ z, (of z).cell? ⟨w.heap.size + 1, q, none⟩ = some (.int .i64 (heldAt has (q : Int))) := fun z => (((HLay.out.below (HOF.out z)).blk 1 rfl).cell q).trans (heldC_at has HQ4.out)
     have hq4 := HQ4.out
     have hqi : (q : Int) < 4 := by omega
     simp only [pickB]
     iterate 2 (gi_big_quiet_step (fail))
     refine wpQuietIn_nil ?_
     exact rfl
    intro W7 hW
    replace HLay := Lib.hid (HLay.out.below hW)
    clear hW
    simp only [pickB]
    refine wpT_nil ?_
    have HTB : Hid (tasB m fountain t has x = bw) := Lib.hid (by rw [tas_on HF.out HG.out, HIQ.out, HBW.out])
    cases bw with
    | false =>
     gi_wp2
     refine bodyPost_ret (v := .bool false) (by simp [results, Try.results93, go_sem]) rfl ?_
     exact ⟨ret_bool (tas_fail HX.out HTB.out).symm, HLay.out.1⟩
    | true =>
     have hk8 : k + 1 ≤ 8 := by have := HNT.out; omega
     gi_wp2
     have hAt := HAT.out
     clear HAT
     subst hAt
     refine ⟨⟨k + 1, Lib.hid ⟨hlt, HLay.out.sub (by intro b hb; simp only [List.mem_cons, List.not_mem_nil, or_false] at hb ⊢; rcases hb with rfl | rfl <;> simp), all_step' HX.out HS.out.2.2 (HTB.out)⟩, by rw [show ((k + 1 : Nat) : Int) = (k : Int) + 1 from by omega]; constructor⟩, ?_⟩
     simp [intOf]
     omega
   ·
    have hgb : (x.after == (t : Int)) = false := by simpa using hg
    have HG := Lib.hid hg
    clear hg
    have HTB : Hid (tasB m fountain t has x = true) := Lib.hid (tas_off (fun h => by have := HG.out; exact this h.2))
    have hk8 : k + 1 ≤ 8 := by have := HNT.out; omega
    refine wpIn_flow_old [([true, true, true, true, true, true, true, true, true, true, true, true, true, true, false, false, false, true, true, true, true, true, true], 14), ([false, false, false, false, false, false, false, false, false, false, false, false, false, false, false, true, true], 23)] [false, false, false, false, false, false, false, false, false, false, false, false, false, false, false, false, false, false, false, false, false, false, false, false, true, true] [] (by kernel_rfl) (by kernel_rfl) (by kernel_rfl) (below_drewN (Below.refl _ _) 1) ?_
    refine wpFlow_cons (A := ?AF4) rfl ?hq4 ?_
    case hq4 =>
     rintro σ hσ of hof hcl
     have HOF := Lib.hid hof
     have HCL := Lib.hid hcl
     clear hof hcl
     have c0_ : ∀ z, (of z).cell? ⟨w.heap.size, 0, none⟩ = some (.int .i64 m.fountains) := fun z => ((HLay.out.below (HOF.out z)).blk 0 rfl).cell 0
     have c1_ : ∀ z, (of z).cell? ⟨w.heap.size, 1, none⟩ = some (.slice Av nv cv) := fun z => ((HLay.out.below (HOF.out z)).blk 0 rfl).cell 1
     have c2_ : ∀ z, (of z).cell? ⟨w.heap.size, 2, none⟩ = some (.slice Aa na ca) := fun z => ((HLay.out.below (HOF.out z)).blk 0 rfl).cell 2
     have c3_ : ∀ z, (of z).cell? ⟨w.heap.size, 3, none⟩ = some (.slice At nt ct) := fun z => ((HLay.out.below (HOF.out z)).blk 0 rfl).cell 3
     have c4_ : ∀ z, (of z).cell? ⟨G2, 0, none⟩ = some (.int .i64 x.num) := fun z => ((HLay.out.below (HOF.out z)).blk 2 rfl).cell 0
     have c5_ : ∀ z, (of z).cell? ⟨G2, 1, none⟩ = some (.int .i64 x.vessel) := fun z => ((HLay.out.below (HOF.out z)).blk 2 rfl).cell 1
     have c6_ : ∀ z, (of z).cell? ⟨G2, 2, none⟩ = some (.int .i64 x.after) := fun z => ((HLay.out.below (HOF.out z)).blk 2 rfl).cell 2
     have c7_ : ∀ z, (of z).cell? ⟨G2, 3, none⟩ = some (.int .i64 x.fountain) := fun z => ((HLay.out.below (HOF.out z)).blk 2 rfl).cell 3
     have c8_ : ∀ z, (of z).cell? ⟨G2, 4, none⟩ = some (.int .i64 x.lo) := fun z => ((HLay.out.below (HOF.out z)).blk 2 rfl).cell 4
     have c9_ : ∀ z, (of z).cell? ⟨G2, 5, none⟩ = some (.int .i64 x.hi) := fun z => ((HLay.out.below (HOF.out z)).blk 2 rfl).cell 5
     have hfw : ∀ f, Fence.wide.fn f := fun _ => trivial
     have hfb : (x.fountain == fountain) = true := by simpa using HF.out
     have hgb : (x.after == (t : Int)) = false := by simpa using HG.out
     simp only [pickB]
     iterate 20 (gi_big_quiet_step (fail))
     refine wpQuietIn_nil ?_
     exact rfl
    intro W8 hW
    replace HLay := Lib.hid (HLay.out.below hW)
    clear hW
    gi_wp2
    refine ⟨trivial, ?_⟩
    gi_wp2
    refine ⟨trivial, Below.refl _ _, ?_⟩
    refine wpFlow_cons (A := ?AF5) rfl ?hq5 ?_
    case hq5 =>
     rintro σ hσ of hof hcl
     have HOF := Lib.hid hof
     have HCL := Lib.hid hcl
     clear hof hcl
     have c0_ : ∀ z, (of z).cell? ⟨w.heap.size, 0, none⟩ = some (.int .i64 m.fountains) := fun z => ((HLay.out.below (HOF.out z)).blk 0 rfl).cell 0
     have c1_ : ∀ z, (of z).cell? ⟨w.heap.size, 1, none⟩ = some (.slice Av nv cv) := fun z => ((HLay.out.below (HOF.out z)).blk 0 rfl).cell 1
     have c2_ : ∀ z, (of z).cell? ⟨w.heap.size, 2, none⟩ = some (.slice Aa na ca) := fun z => ((HLay.out.below (HOF.out z)).blk 0 rfl).cell 2
     have c3_ : ∀ z, (of z).cell? ⟨w.heap.size, 3, none⟩ = some (.slice At nt ct) := fun z => ((HLay.out.below (HOF.out z)).blk 0 rfl).cell 3
     have c4_ : ∀ z, (of z).cell? ⟨G2, 0, none⟩ = some (.int .i64 x.num) := fun z => ((HLay.out.below (HOF.out z)).blk 2 rfl).cell 0
     have c5_ : ∀ z, (of z).cell? ⟨G2, 1, none⟩ = some (.int .i64 x.vessel) := fun z => ((HLay.out.below (HOF.out z)).blk 2 rfl).cell 1
     have c6_ : ∀ z, (of z).cell? ⟨G2, 2, none⟩ = some (.int .i64 x.after) := fun z => ((HLay.out.below (HOF.out z)).blk 2 rfl).cell 2
     have c7_ : ∀ z, (of z).cell? ⟨G2, 3, none⟩ = some (.int .i64 x.fountain) := fun z => ((HLay.out.below (HOF.out z)).blk 2 rfl).cell 3
     have c8_ : ∀ z, (of z).cell? ⟨G2, 4, none⟩ = some (.int .i64 x.lo) := fun z => ((HLay.out.below (HOF.out z)).blk 2 rfl).cell 4
     have c9_ : ∀ z, (of z).cell? ⟨G2, 5, none⟩ = some (.int .i64 x.hi) := fun z => ((HLay.out.below (HOF.out z)).blk 2 rfl).cell 5
     have hfw : ∀ f, Fence.wide.fn f := fun _ => trivial
     have hfb : (x.fountain == fountain) = true := by simpa using HF.out
     have hgb : (x.after == (t : Int)) = false := by simpa using HG.out
     simp only [pickB]
     iterate 2 (gi_big_quiet_step (fail))
     refine wpQuietIn_nil ?_
     exact rfl
    intro W9 hW
    replace HLay := Lib.hid (HLay.out.below hW)
    clear hW
    gi_wp2
    refine ⟨trivial, ?_⟩
    gi_wp2
    refine ⟨trivial, Below.refl _ _, ?_⟩
    refine wpFlow_nil (A := ?AF6) ?hq6 ?_
    case hq6 =>
     rintro σ hσ of hof hcl
     have HOF := Lib.hid hof
     have HCL := Lib.hid hcl
     clear hof hcl
     have c0_ : ∀ z, (of z).cell? ⟨w.heap.size, 0, none⟩ = some (.int .i64 m.fountains) := fun z => ((HLay.out.below (HOF.out z)).blk 0 rfl).cell 0
     have c1_ : ∀ z, (of z).cell? ⟨w.heap.size, 1, none⟩ = some (.slice Av nv cv) := fun z => ((HLay.out.below (HOF.out z)).blk 0 rfl).cell 1
     have c2_ : ∀ z, (of z).cell? ⟨w.heap.size, 2, none⟩ = some (.slice Aa na ca) := fun z => ((HLay.out.below (HOF.out z)).blk 0 rfl).cell 2
     have c3_ : ∀ z, (of z).cell? ⟨w.heap.size, 3, none⟩ = some (.slice At nt ct) := fun z => ((HLay.out.below (HOF.out z)).blk 0 rfl).cell 3
     have c4_ : ∀ z, (of z).cell? ⟨G2, 0, none⟩ = some (.int .i64 x.num) := fun z => ((HLay.out.below (HOF.out z)).blk 2 rfl).cell 0
     have c5_ : ∀ z, (of z).cell? ⟨G2, 1, none⟩ = some (.int .i64 x.vessel) := fun z => ((HLay.out.below (HOF.out z)).blk 2 rfl).cell 1
     have c6_ : ∀ z, (of z).cell? ⟨G2, 2, none⟩ = some (.int .i64 x.after) := fun z => ((HLay.out.below (HOF.out z)).blk 2 rfl).cell 2
     have c7_ : ∀ z, (of z).cell? ⟨G2, 3, none⟩ = some (.int .i64 x.fountain) := fun z => ((HLay.out.below (HOF.out z)).blk 2 rfl).cell 3
     have c8_ : ∀ z, (of z).cell? ⟨G2, 4, none⟩ = some (.int .i64 x.lo) := fun z => ((HLay.out.below (HOF.out z)).blk 2 rfl).cell 4
     have c9_ : ∀ z, (of z).cell? ⟨G2, 5, none⟩ = some (.int .i64 x.hi) := fun z => ((HLay.out.below (HOF.out z)).blk 2 rfl).cell 5
     have hfw : ∀ f, Fence.wide.fn f := fun _ => trivial
     have hfb : (x.fountain == fountain) = true := by simpa using HF.out
     have hgb : (x.after == (t : Int)) = false := by simpa using HG.out
     simp only [pickB]
     iterate 2 (gi_big_quiet_step (fail))
     refine wpQuietIn_nil ?_
     exact rfl
    intro W10 hW
    replace HLay := Lib.hid (HLay.out.below hW)
    clear hW
    simp only [pickB]
    refine wpT_nil ?_
    gi_wp2
    have hAt := HAT.out
    clear HAT
    subst hAt
    refine ⟨⟨k + 1, Lib.hid ⟨hlt, HLay.out.sub (by intro b hb; simp only [List.mem_cons, List.not_mem_nil, or_false] at hb ⊢; rcases hb with rfl | rfl <;> simp), all_step' HX.out HS.out.2.2 (HTB.out)⟩, by rw [show ((k + 1 : Nat) : Int) = (k : Int) + 1 from by omega]; constructor⟩, ?_⟩
    simp [intOf]
    omega
  ·
   have hfb : (x.fountain == fountain) = false := by simpa using hf
   have HF := Lib.hid hf
   clear hf
   have HTB : Hid (tasB m fountain t has x = true) := Lib.hid (tas_off (fun h => by have := HF.out; exact this h.1))
   have hk8 : k + 1 ≤ 8 := by have := HNT.out; omega
   refine wpIn_flow_old [([true, true, true, true, true, true, true, true, true, true, true, true, true, true, false, false, false, true, true, true, true, true, true], 14), ([false, false, false, false, false, false, false, false, false, false, false, false, false, false, false, true, true], 23)] [false, false, false, false, false, false, false, false, false, false, false, false, false, false, false, false, false, false, false, false, false, false, false, false, true, true] [] (by kernel_rfl) (by kernel_rfl) (by kernel_rfl) (below_drewN (Below.refl _ _) 1) ?_
   refine wpFlow_cons (A := ?AF7) rfl ?hq7 ?_
   case hq7 =>
    rintro σ hσ of hof hcl
    have HOF := Lib.hid hof
    have HCL := Lib.hid hcl
    clear hof hcl
    have c0_ : ∀ z, (of z).cell? ⟨w.heap.size, 0, none⟩ = some (.int .i64 m.fountains) := fun z => ((HLay.out.below (HOF.out z)).blk 0 rfl).cell 0
    have c1_ : ∀ z, (of z).cell? ⟨w.heap.size, 1, none⟩ = some (.slice Av nv cv) := fun z => ((HLay.out.below (HOF.out z)).blk 0 rfl).cell 1
    have c2_ : ∀ z, (of z).cell? ⟨w.heap.size, 2, none⟩ = some (.slice Aa na ca) := fun z => ((HLay.out.below (HOF.out z)).blk 0 rfl).cell 2
    have c3_ : ∀ z, (of z).cell? ⟨w.heap.size, 3, none⟩ = some (.slice At nt ct) := fun z => ((HLay.out.below (HOF.out z)).blk 0 rfl).cell 3
    have c4_ : ∀ z, (of z).cell? ⟨G2, 0, none⟩ = some (.int .i64 x.num) := fun z => ((HLay.out.below (HOF.out z)).blk 2 rfl).cell 0
    have c5_ : ∀ z, (of z).cell? ⟨G2, 1, none⟩ = some (.int .i64 x.vessel) := fun z => ((HLay.out.below (HOF.out z)).blk 2 rfl).cell 1
    have c6_ : ∀ z, (of z).cell? ⟨G2, 2, none⟩ = some (.int .i64 x.after) := fun z => ((HLay.out.below (HOF.out z)).blk 2 rfl).cell 2
    have c7_ : ∀ z, (of z).cell? ⟨G2, 3, none⟩ = some (.int .i64 x.fountain) := fun z => ((HLay.out.below (HOF.out z)).blk 2 rfl).cell 3
    have c8_ : ∀ z, (of z).cell? ⟨G2, 4, none⟩ = some (.int .i64 x.lo) := fun z => ((HLay.out.below (HOF.out z)).blk 2 rfl).cell 4
    have c9_ : ∀ z, (of z).cell? ⟨G2, 5, none⟩ = some (.int .i64 x.hi) := fun z => ((HLay.out.below (HOF.out z)).blk 2 rfl).cell 5
    have hfw : ∀ f, Fence.wide.fn f := fun _ => trivial
    have hfb : (x.fountain == fountain) = false := by simpa using HF.out
    simp only [pickB]
    iterate 20 (gi_big_quiet_step (fail))
    refine wpQuietIn_nil ?_
    exact rfl
   intro W11 hW
   replace HLay := Lib.hid (HLay.out.below hW)
   clear hW
   gi_wp2
   refine ⟨trivial, ?_⟩
   gi_wp2
   refine ⟨trivial, Below.refl _ _, ?_⟩
   refine wpFlow_cons (A := ?AF8) rfl ?hq8 ?_
   case hq8 =>
    rintro σ hσ of hof hcl
    have HOF := Lib.hid hof
    have HCL := Lib.hid hcl
    clear hof hcl
    have c0_ : ∀ z, (of z).cell? ⟨w.heap.size, 0, none⟩ = some (.int .i64 m.fountains) := fun z => ((HLay.out.below (HOF.out z)).blk 0 rfl).cell 0
    have c1_ : ∀ z, (of z).cell? ⟨w.heap.size, 1, none⟩ = some (.slice Av nv cv) := fun z => ((HLay.out.below (HOF.out z)).blk 0 rfl).cell 1
    have c2_ : ∀ z, (of z).cell? ⟨w.heap.size, 2, none⟩ = some (.slice Aa na ca) := fun z => ((HLay.out.below (HOF.out z)).blk 0 rfl).cell 2
    have c3_ : ∀ z, (of z).cell? ⟨w.heap.size, 3, none⟩ = some (.slice At nt ct) := fun z => ((HLay.out.below (HOF.out z)).blk 0 rfl).cell 3
    have c4_ : ∀ z, (of z).cell? ⟨G2, 0, none⟩ = some (.int .i64 x.num) := fun z => ((HLay.out.below (HOF.out z)).blk 2 rfl).cell 0
    have c5_ : ∀ z, (of z).cell? ⟨G2, 1, none⟩ = some (.int .i64 x.vessel) := fun z => ((HLay.out.below (HOF.out z)).blk 2 rfl).cell 1
    have c6_ : ∀ z, (of z).cell? ⟨G2, 2, none⟩ = some (.int .i64 x.after) := fun z => ((HLay.out.below (HOF.out z)).blk 2 rfl).cell 2
    have c7_ : ∀ z, (of z).cell? ⟨G2, 3, none⟩ = some (.int .i64 x.fountain) := fun z => ((HLay.out.below (HOF.out z)).blk 2 rfl).cell 3
    have c8_ : ∀ z, (of z).cell? ⟨G2, 4, none⟩ = some (.int .i64 x.lo) := fun z => ((HLay.out.below (HOF.out z)).blk 2 rfl).cell 4
    have c9_ : ∀ z, (of z).cell? ⟨G2, 5, none⟩ = some (.int .i64 x.hi) := fun z => ((HLay.out.below (HOF.out z)).blk 2 rfl).cell 5
    have hfw : ∀ f, Fence.wide.fn f := fun _ => trivial
    have hfb : (x.fountain == fountain) = false := by simpa using HF.out
    simp only [pickB]
    iterate 2 (gi_big_quiet_step (fail))
    refine wpQuietIn_nil ?_
    exact rfl
   intro W12 hW
   replace HLay := Lib.hid (HLay.out.below hW)
   clear hW
   gi_wp2
   refine ⟨trivial, ?_⟩
   gi_wp2
   refine ⟨trivial, Below.refl _ _, ?_⟩
   refine wpFlow_nil (A := ?AF9) ?hq9 ?_
   case hq9 =>
    rintro σ hσ of hof hcl
    have HOF := Lib.hid hof
    have HCL := Lib.hid hcl
    clear hof hcl
    have c0_ : ∀ z, (of z).cell? ⟨w.heap.size, 0, none⟩ = some (.int .i64 m.fountains) := fun z => ((HLay.out.below (HOF.out z)).blk 0 rfl).cell 0
    have c1_ : ∀ z, (of z).cell? ⟨w.heap.size, 1, none⟩ = some (.slice Av nv cv) := fun z => ((HLay.out.below (HOF.out z)).blk 0 rfl).cell 1
    have c2_ : ∀ z, (of z).cell? ⟨w.heap.size, 2, none⟩ = some (.slice Aa na ca) := fun z => ((HLay.out.below (HOF.out z)).blk 0 rfl).cell 2
    have c3_ : ∀ z, (of z).cell? ⟨w.heap.size, 3, none⟩ = some (.slice At nt ct) := fun z => ((HLay.out.below (HOF.out z)).blk 0 rfl).cell 3
    have c4_ : ∀ z, (of z).cell? ⟨G2, 0, none⟩ = some (.int .i64 x.num) := fun z => ((HLay.out.below (HOF.out z)).blk 2 rfl).cell 0
    have c5_ : ∀ z, (of z).cell? ⟨G2, 1, none⟩ = some (.int .i64 x.vessel) := fun z => ((HLay.out.below (HOF.out z)).blk 2 rfl).cell 1
    have c6_ : ∀ z, (of z).cell? ⟨G2, 2, none⟩ = some (.int .i64 x.after) := fun z => ((HLay.out.below (HOF.out z)).blk 2 rfl).cell 2
    have c7_ : ∀ z, (of z).cell? ⟨G2, 3, none⟩ = some (.int .i64 x.fountain) := fun z => ((HLay.out.below (HOF.out z)).blk 2 rfl).cell 3
    have c8_ : ∀ z, (of z).cell? ⟨G2, 4, none⟩ = some (.int .i64 x.lo) := fun z => ((HLay.out.below (HOF.out z)).blk 2 rfl).cell 4
    have c9_ : ∀ z, (of z).cell? ⟨G2, 5, none⟩ = some (.int .i64 x.hi) := fun z => ((HLay.out.below (HOF.out z)).blk 2 rfl).cell 5
    have hfw : ∀ f, Fence.wide.fn f := fun _ => trivial
    have hfb : (x.fountain == fountain) = false := by simpa using HF.out
    simp only [pickB]
    iterate 2 (gi_big_quiet_step (fail))
    refine wpQuietIn_nil ?_
    exact rfl
   intro W13 hW
   replace HLay := Lib.hid (HLay.out.below hW)
   clear hW
   simp only [pickB]
   refine wpT_nil ?_
   gi_wp2
   have hAt := HAT.out
   clear HAT
   subst hAt
   refine ⟨⟨k + 1, Lib.hid ⟨hlt, HLay.out.sub (by intro b hb; simp only [List.mem_cons, List.not_mem_nil, or_false] at hb ⊢; rcases hb with rfl | rfl <;> simp), all_step' HX.out HS.out.2.2 (HTB.out)⟩, by rw [show ((k + 1 : Nat) : Int) = (k : Int) + 1 from by omega]; constructor⟩, ?_⟩
   simp [intOf]
   omega
 ·
  gi_wp2
  refine bodyPost_ret (v := .bool true) (by simp [results, Try.results93, go_sem]) rfl ?_
  exact ⟨ret_bool (tas_all (by rw [HLT.out, show nt = k from by have := HS.out.1; omega]; exact HS.out.2.2)).symm, HLay.out.1⟩

end Go.Proofs.Ythofngceiecniaa
/- The answer's codes and code. -/
namespace Go.Proofs.Ythofngceiecniaa
open Go.RowKit
def zsK (m : Mix) (k : Nat) : List Int := ((m.vessels.take k).map (·.size)).reverse
def zsM (m : Mix) : List Int := (m.vessels.map (·.size)).reverse
theorem zsK_all {m : Mix} {k : Nat} (h : m.vessels.length = k) : zsK m k = zsM m := by
 unfold zsK zsM
 rw [← h, List.take_length]
theorem zsK_succ {m : Mix} {k : Nat} {x : Vess} (hx : m.vessels[k]? = some x) : zsK m (k + 1) = x.size :: zsK m k := by
 obtain ⟨hk, rfl⟩ := List.getElem?_eq_some_iff.1 hx
 unfold zsK
 rw [List.take_succ_eq_append_getElem hk, List.map_append, List.reverse_append]
 rfl
theorem prod2 {a n z : Int} (ha : 1 ≤ a ∧ a ≤ n) (hz : 1 ≤ z ∧ z ≤ 12) : 1 ≤ a * (z + 1) ∧ a * (z + 1) ≤ n * 13 := by
 have h1 : a * 1 ≤ a * (z + 1) := Int.mul_le_mul_of_nonneg_left (by omega) (by omega)
 have h2 : a * (z + 1) ≤ a * 13 := Int.mul_le_mul_of_nonneg_left (by omega) (by omega)
 omega
theorem prod_pow {m : Mix} (hz : VesOk m) : ∀ {k : Nat}, k ≤ m.vessels.length → 1 ≤ prodR (zsK m k) ∧ prodR (zsK m k) ≤ (13 : Int) ^ k
 | 0, _ => by simp [zsK, prodR]
 | k + 1, h => by
  rw [zsK_succ (List.getElem?_eq_getElem (by omega : k < m.vessels.length)), Int.pow_succ]
  exact prod2 (prod_pow hz (by omega)) (hz _ (List.getElem_mem (by omega : k < m.vessels.length)))
theorem prod_bd {m : Mix} (hz : VesOk m) (hv : m.vessels.length ≤ 4) {k : Nat} (h : k ≤ m.vessels.length) : 1 ≤ prodR (zsK m k) ∧ prodR (zsK m k) ≤ 28561 := by
 have h1 := prod_pow hz h
 refine ⟨h1.1, Int.le_trans h1.2 ?_⟩
 match k, (show k ≤ 4 by omega) with
 | 0, _ => decide
 | 1, _ => decide
 | 2, _ => decide
 | 3, _ => decide
 | 4, _ => decide
def asK (s : Held) (k : Nat) : List Int := (s.take k).reverse
theorem asK_succ {s : Held} {k : Nat} (hs : s.length = 4) (hk : k < 4) : asK s (k + 1) = heldAt s (k : Int) :: asK s k := by
 match s, hs, k, hk with
 | [a, b, c, d], _, 0, _ => rfl
 | [a, b, c, d], _, 1, _ => rfl
 | [a, b, c, d], _, 2, _ => rfl
 | [a, b, c, d], _, 3, _ => rfl
/-- What vessels hold is within their sizes. -/
def Within (m : Mix) (s : Held) : Prop := s.length = 4 ∧ ∀ (k : Nat) (x : Vess), m.vessels[k]? = some x → 0 ≤ heldAt s (k : Int) ∧ heldAt s (k : Int) ≤ x.size
theorem in_K {m : Mix} {s : Held} (hw : Within m s) (hv : m.vessels.length ≤ 4) : ∀ {k : Nat}, k ≤ m.vessels.length → InR (zsK m k) (asK s k)
 | 0, _ => .nil
 | k + 1, h => by
  have hx := List.getElem?_eq_getElem (by omega : k < m.vessels.length)
  rw [zsK_succ hx, asK_succ hw.1 (by omega)]
  exact .cons (hw.2 k _ hx) (in_K hw hv (by omega))
theorem mulb {a z : Int} (ha : 0 ≤ a ∧ a ≤ 28561) (hz : 1 ≤ z ∧ z ≤ 12) : 0 ≤ a * (z + 1) ∧ a * (z + 1) ≤ 371293 := by
 have h1 : 0 ≤ a * (z + 1) := Int.mul_nonneg ha.1 (by omega)
 have h2 : a * (z + 1) ≤ a * 13 := Int.mul_le_mul_of_nonneg_left (by omega) (by omega)
 omega
inductive FrCds (v0 v1 v2 v3 v7 v8 v9 : Value) : Act → Prop
 | mk (u4 u5 u6 u10 u11 u12 u13 u14 u15 u16 u17 u18 u19 : Value) : FrCds v0 v1 v2 v3 v7 v8 v9 { tmps := #[v0, v1, v2, v3, u4, u5, u6, v7, v8, v9, u10, u11, u12, u13, u14, u15, u16, u17, u18, u19], defers := [] }

set_option maxRecDepth 100000 in
set_option maxHeartbeats 8000000 in
theorem rcodes_in (Av : Option Addr) (nv cv : Nat) (Aa : Option Addr) (na ca : Nat) (At : Option Addr) (nt ct : Nat) (m : Mix) (w : World) (h : MixS w Av nv Aa na At nt m) (hz : VesOk m) (hv4 : m.vessels.length ≤ 4) :
  CallsIn Fence.wide 9 Try.prog 92 #[.agg #[.int .i64 m.fountains, .slice Av nv cv, .slice Aa na ca, .slice At nt ct]] w (fun e w' => e = .returned (.int .i64 (prodR (zsM m))) ∧ Below w.heap.size w w') := by
 have HM := Lib.hid h
 have HLV := Lib.hid h.at_.lenV
 have HZ := Lib.hid hz
 have HV4 := Lib.hid hv4
 clear h hz hv4
 refine callsIn_of_wp Try.func92 rfl trivial ?_ rfl
 simp only [Try.ntmps92, List.size_toArray, List.length_cons, List.length_nil, Nat.reduceAdd, Nat.reduceSub, Array.replicate_succ, Array.replicate_zero, List.push_toArray, List.append_toArray, List.nil_append, List.cons_append]
 gi_upto_region 1 with fail
 have HLay := Lib.hid (Lay.one w 26 #[.int .i64 m.fountains, .slice Av nv cv, .slice Aa na ca, .slice At nt ct])
 generalize (w.alloc (.cells #[.int .i64 m.fountains, .slice Av nv cv, .slice Aa na ca, .slice At nt ct] 26)) = w0 at *
 have x0_0 := (HLay.out.blk 0 rfl).cell 0
 have x0_1 := (HLay.out.blk 0 rfl).cell 1
 have x0_2 := (HLay.out.blk 0 rfl).cell 2
 have x0_3 := (HLay.out.blk 0 rfl).cell 3
 have l0_ := HLay.out.lt 0 rfl
 gi_wp2
 clear x0_0 x0_1 x0_2 x0_3 l0_
 refine wpIn_loop (fun a W => ∃ k : Nat, Hid (k ≤ nv ∧ Lay w W [(w.heap.size, 26, #[.int .i64 m.fountains, .slice Av nv cv, .slice Aa na ca, .slice At nt ct])]) ∧ FrCds (.agg #[.int .i64 m.fountains, .slice Av nv cv, .slice Aa na ca, .slice At nt ct]) (.pointer (some ⟨w.heap.size, 0, none⟩)) (.int .i64 0) (.int .i64 (prodR (zsK m k))) (.slice Av nv cv) (.int .i64 nv) (.int .i64 k) a) (fun a _ => nv - (intOf (a.tmps.getD 9 undef)).toNat) ?_ ?_
 ·exact ⟨0, Lib.hid ⟨by omega, HLay.out⟩, by constructor⟩
 clear HLay
 rintro a W ⟨k, HS, ha⟩
 cases ha
 have HLay := Lib.hid HS.out.2
 by_cases hlt : k < nv
 ·
  obtain ⟨b, off, x, hAv, hbB, hx, c0, c1⟩ := (HM.out.at_.below HLay.out.1).vess hlt
  have hnv : nv ≤ 4 := by have h1 := HLV.out; have h2 := HV4.out; omega
  rw [hAv]
  gi_upto_region 5 with fail
  clear c0 c1
  obtain ⟨V1, hV⟩ : ∃ V, (W.alloc (.cells #[.int .i64 x.id, .int .i64 x.size] 80)) = V := ⟨_, rfl⟩
  rw [hV]
  have hb := fbox_bel hV
  have hnew := fbox_blk hV
  have hge := HLay.out.bel.size
  replace HLay := Lib.hid (HLay.out.below hb)
  replace HLay := Lib.hid (HLay.out.add hge hnew)
  clear hnew hge hb hV
  obtain ⟨G2, hG⟩ : ∃ g, W.heap.size = g := ⟨_, rfl⟩
  rw [hG] at HLay ⊢
  clear hG
  replace HLay := Lib.hid (show Lay w V1 [(w.heap.size, 26, #[.int .i64 m.fountains, .slice Av nv cv, .slice Aa na ca, .slice At nt ct]), (G2, 80, #[.int .i64 x.id, .int .i64 x.size])] from HLay.out)
  have hsz := HZ.out x (List.mem_of_getElem? hx)
  have hpb := prod_bd HZ.out HV4.out (k := k) (by rw [HLV.out]; omega)
  have hps := zsK_succ hx
  obtain ⟨P0, hP⟩ : ∃ P, prodR (zsK m k) = P := ⟨_, rfl⟩
  have hps2 : prodR (zsK m (k + 1)) = P0 * (x.size + 1) := by rw [hps, ← hP]; rfl
  rw [hP] at hpb ⊢
  have hbd := prod2 hpb hsz
  have hwr := Go.IntWalk.wrap64_in (P0 * (x.size + 1)) (by omega)
  have HPS := Lib.hid hps2
  clear hps hps2 hP hx hbB
  have x1_0 := (HLay.out.blk 1 rfl).cell 0
  have x1_1 := (HLay.out.blk 1 rfl).cell 1
  have l1_ := HLay.out.lt 1 rfl
  gi_wp2
  have hAt := hAv
  subst hAt
  refine ⟨⟨k + 1, Lib.hid ⟨hlt, HLay.out.sub (by intro b hb; simp only [List.mem_cons, List.not_mem_nil, or_false] at hb ⊢; rcases hb with rfl; simp)⟩, by rw [HPS.out, show ((k + 1 : Nat) : Int) = (k : Int) + 1 from by omega]; constructor⟩, ?_⟩
  simp [intOf]
  omega
 ·
  gi_wp2
  refine bodyPost_ret (v := .int .i64 (prodR (zsK m k))) (by simp [results, Try.results92, go_sem]) rfl ?_
  exact ⟨ret_int (by rw [zsK_all (by rw [HLV.out]; have := HS.out.1; omega)]), HLay.out.1⟩
inductive FrCd (v0 v1 v2 v3 v4 v5 v9 v10 v11 : Value) : Act → Prop
 | mk (u6 u7 u8 u12 u13 u14 u15 u16 u17 u18 u19 u20 u21 u22 u23 u24 u25 u26 : Value) : FrCd v0 v1 v2 v3 v4 v5 v9 v10 v11 { tmps := #[v0, v1, v2, v3, v4, v5, u6, u7, u8, v9, v10, v11, u12, u13, u14, u15, u16, u17, u18, u19, u20, u21, u22, u23, u24, u25, u26], defers := [] }

set_option maxRecDepth 100000 in
set_option maxHeartbeats 8000000 in
theorem rcode_in (Av : Option Addr) (nv cv : Nat) (Aa : Option Addr) (na ca : Nat) (At : Option Addr) (nt ct : Nat) (m : Mix) (s : Held) (w : World) (h : MixS w Av nv Aa na At nt m) (hz : VesOk m) (hv4 : m.vessels.length ≤ 4) (hw : Within m s) :
  CallsIn Fence.wide 9 Try.prog 51 #[.agg #[.int .i64 m.fountains, .slice Av nv cv, .slice Aa na ca, .slice At nt ct], .agg #[.int .i64 (heldAt s 0), .int .i64 (heldAt s 1), .int .i64 (heldAt s 2), .int .i64 (heldAt s 3)]] w (fun e w' => e = .returned (.int .i64 (codeR (zsM m) (asK s m.vessels.length))) ∧ Below w.heap.size w w') := by
 have HM := Lib.hid h
 have HLV := Lib.hid h.at_.lenV
 have HZ := Lib.hid hz
 have HV4 := Lib.hid hv4
 have HWI := Lib.hid hw
 clear h hz hv4 hw
 refine callsIn_of_wp Try.func51 rfl trivial ?_ rfl
 simp only [Try.ntmps51, List.size_toArray, List.length_cons, List.length_nil, Nat.reduceAdd, Nat.reduceSub, Array.replicate_succ, Array.replicate_zero, List.push_toArray, List.append_toArray, List.nil_append, List.cons_append]
 gi_upto_region 1 with fail
 have HLay := Lib.hid (Lay.two w 26 #[.int .i64 m.fountains, .slice Av nv cv, .slice Aa na ca, .slice At nt ct] 110 #[.int .i64 (heldAt s 0), .int .i64 (heldAt s 1), .int .i64 (heldAt s 2), .int .i64 (heldAt s 3)])
 generalize ((w.alloc (.cells #[.int .i64 m.fountains, .slice Av nv cv, .slice Aa na ca, .slice At nt ct] 26)).alloc (.cells #[.int .i64 (heldAt s 0), .int .i64 (heldAt s 1), .int .i64 (heldAt s 2), .int .i64 (heldAt s 3)] 110)) = w0 at *
 have x0_0 := (HLay.out.blk 0 rfl).cell 0
 have x0_1 := (HLay.out.blk 0 rfl).cell 1
 have x0_2 := (HLay.out.blk 0 rfl).cell 2
 have x0_3 := (HLay.out.blk 0 rfl).cell 3
 have l0_ := HLay.out.lt 0 rfl
 gi_wp2
 clear x0_0 x0_1 x0_2 x0_3 l0_
 refine wpIn_loop (fun a W => ∃ k : Nat, Hid (k ≤ nv ∧ Lay w W [(w.heap.size, 26, #[.int .i64 m.fountains, .slice Av nv cv, .slice Aa na ca, .slice At nt ct]), (w.heap.size + 1, 110, #[.int .i64 (heldAt s 0), .int .i64 (heldAt s 1), .int .i64 (heldAt s 2), .int .i64 (heldAt s 3)])]) ∧ FrCd (.agg #[.int .i64 m.fountains, .slice Av nv cv, .slice Aa na ca, .slice At nt ct]) (.agg #[.int .i64 (heldAt s 0), .int .i64 (heldAt s 1), .int .i64 (heldAt s 2), .int .i64 (heldAt s 3)]) (.pointer (some ⟨w.heap.size, 0, none⟩)) (.pointer (some ⟨w.heap.size + 1, 0, none⟩)) (.int .i64 0) (.int .i64 (codeR (zsK m k) (asK s k))) (.slice Av nv cv) (.int .i64 nv) (.int .i64 k) a) (fun a _ => nv - (intOf (a.tmps.getD 11 undef)).toNat) ?_ ?_
 ·exact ⟨0, Lib.hid ⟨by omega, HLay.out⟩, by constructor⟩
 clear HLay
 rintro a W ⟨k, HS, ha⟩
 cases ha
 have HLay := Lib.hid HS.out.2
 by_cases hlt : k < nv
 ·
  obtain ⟨b, off, x, hAv, hbB, hx, c0, c1⟩ := (HM.out.at_.below HLay.out.1).vess hlt
  have hnv : nv ≤ 4 := by have h1 := HLV.out; have h2 := HV4.out; omega
  rw [hAv]
  gi_upto_region 5 with fail
  clear c0 c1
  obtain ⟨V1, hV⟩ : ∃ V, (W.alloc (.cells #[.int .i64 x.id, .int .i64 x.size] 80)) = V := ⟨_, rfl⟩
  rw [hV]
  have hb := fbox_bel hV
  have hnew := fbox_blk hV
  have hge := HLay.out.bel.size
  replace HLay := Lib.hid (HLay.out.below hb)
  replace HLay := Lib.hid (HLay.out.add hge hnew)
  clear hnew hge hb hV
  obtain ⟨G2, hG⟩ : ∃ g, W.heap.size = g := ⟨_, rfl⟩
  rw [hG] at HLay ⊢
  clear hG
  replace HLay := Lib.hid (show Lay w V1 [(w.heap.size, 26, #[.int .i64 m.fountains, .slice Av nv cv, .slice Aa na ca, .slice At nt ct]), (w.heap.size + 1, 110, #[.int .i64 (heldAt s 0), .int .i64 (heldAt s 1), .int .i64 (heldAt s 2), .int .i64 (heldAt s 3)]), (G2, 80, #[.int .i64 x.id, .int .i64 x.size])] from HLay.out)
  have hsz := HZ.out x (List.mem_of_getElem? hx)
  have hpb := prod_bd HZ.out HV4.out (k := k) (by rw [HLV.out]; omega)
  have hcb := codeR_in (in_K HWI.out HV4.out (k := k) (by rw [HLV.out]; omega))
  have hps : codeR (zsK m (k + 1)) (asK s (k + 1)) = codeR (zsK m k) (asK s k) * (x.size + 1) + heldAt s (k : Int) := by rw [zsK_succ hx, asK_succ HWI.out.1 (by omega)]; rfl
  have hv := HWI.out.2 k x hx
  obtain ⟨C0, hC⟩ : ∃ C, codeR (zsK m k) (asK s k) = C := ⟨_, rfl⟩
  rw [hC] at hcb hps ⊢
  have hbd := mulb (a := C0) (z := x.size) ⟨hcb.1, by omega⟩ hsz
  have hwr := Go.IntWalk.wrap64_in (C0 * (x.size + 1)) (by omega)
  have hwr2 := Go.IntWalk.wrap64_in (C0 * (x.size + 1) + heldAt s (k : Int)) (by omega)
  have HPS := Lib.hid hps
  have hk4 : k < 4 := by omega
  have cq := ((HLay.out.blk 1 rfl).cell k).trans (heldC_at s hk4)
  have cql := HLay.out.lt 1 rfl
  have hki : (k : Int) < 4 := by omega
  clear hps hC hx hbB hpb hcb
  have x2_0 := (HLay.out.blk 2 rfl).cell 0
  have x2_1 := (HLay.out.blk 2 rfl).cell 1
  have l2_ := HLay.out.lt 2 rfl
  gi_region
  all_goals gi_wp2
  all_goals
   have hAt := hAv
   subst hAt
   refine ⟨⟨k + 1, Lib.hid ⟨hlt, (HLay.out.drewN 1).sub (by intro b hb; simp only [List.mem_cons, List.not_mem_nil, or_false] at hb ⊢; rcases hb with rfl | rfl <;> simp)⟩, by rw [HPS.out, show ((k + 1 : Nat) : Int) = (k : Int) + 1 from by omega]; constructor⟩, ?_⟩
   simp [intOf]
   omega
 ·
  gi_wp2
  refine bodyPost_ret (v := .int .i64 (codeR (zsK m k) (asK s k))) (by simp [results, Try.results51, go_sem]) rfl ?_
  exact ⟨ret_int (by rw [show k = m.vessels.length from by rw [HLV.out]; have := HS.out.1; omega, zsK_all rfl]), HLay.out.1⟩

end Go.Proofs.Ythofngceiecniaa
/- The answer's decoded. -/
namespace Go.Proofs.Ythofngceiecniaa
open Go.RowKit
structure DecSt (m : Mix) (nv : Nat) (n : Int) (j : Nat) (nj : Int) (s : Held) : Prop where
 le : j ≤ nv
 pos : 0 ≤ nj
 top : nj ≤ 28561
 is : ∃ dn : List Int, dn.length = nv - j ∧ (decR (zsM m) n).reverse = (decR (zsK m j) nj).reverse ++ dn ∧ s = List.replicate j 0 ++ dn ++ List.replicate (4 - nv) 0
theorem DecSt.len {m : Mix} {nv : Nat} {n : Int} {j : Nat} {nj : Int} {s : Held} (h : DecSt m nv n j nj s) (hv : nv ≤ 4 := by omega) : s.length = 4 := by
 obtain ⟨dn, h1, _, rfl⟩ := h.is
 have := h.le
 simp
 omega
theorem DecSt.first {m : Mix} {nv : Nat} {n : Int} (hl : m.vessels.length = nv) (hn : 0 ≤ n ∧ n ≤ 28561) (hv : nv ≤ 4) : DecSt m nv n nv n zeroH := by
 refine ⟨Nat.le_refl _, hn.1, hn.2, [], by simp, by rw [zsK_all hl]; simp, ?_⟩
 rw [List.append_nil, List.replicate_append_replicate, show nv + (4 - nv) = 4 from by omega]
 rfl
theorem set_rep (i : Nat) (v : Int) (dn r : List Int) : (List.replicate (i + 1) 0 ++ dn ++ r).set i v = List.replicate i 0 ++ (v :: dn) ++ r := by
 rw [List.replicate_succ', List.append_assoc, List.append_assoc, List.append_assoc, List.set_append_right _ _ (by simp)]
 simp
theorem DecSt.next {m : Mix} {nv : Nat} {n : Int} {i : Nat} {nj : Int} {s : Held} {x : Vess} (h : DecSt m nv n (i + 1) nj s) (hx : m.vessels[i]? = some x) (hv : nv ≤ 4) (hs : 1 ≤ x.size := by omega) : DecSt m nv n i (nj / (x.size + 1)) (s.set i (nj % (x.size + 1))) := by
 obtain ⟨dn, h1, h2, rfl⟩ := h.is
 have hd1 : nj / (x.size + 1) ≤ nj := Int.ediv_le_self _ h.pos
 have := h.le
 have := h.top
 refine ⟨by omega, Int.ediv_nonneg h.pos (by omega), by omega, nj % (x.size + 1) :: dn, by simp; omega, ?_, set_rep i _ dn _⟩
 rw [h2, zsK_succ hx]
 show (nj % (x.size + 1) :: decR (zsK m i) (nj / (x.size + 1))).reverse ++ dn = _
 simp
/-- What has a number. -/
def decH (m : Mix) (n : Int) : Held := (decR (zsM m) n).reverse ++ List.replicate (4 - m.vessels.length) 0
theorem DecSt.last {m : Mix} {nv : Nat} {n nj : Int} {s : Held} (h : DecSt m nv n 0 nj s) (hl : m.vessels.length = nv) : s = decH m n := by
 obtain ⟨dn, h1, h2, rfl⟩ := h.is
 unfold decH
 rw [h2, hl]
 simp [zsK, decR]
inductive FrDec (v0 v1 v2 v4 v5 v6 : Value) : Act → Prop
 | mk (u3 u7 u8 u9 u10 u11 u12 u13 u14 u15 u16 u17 u18 u19 u20 u21 u22 u23 u24 u25 u26 u27 u28 u29 u30 u31 u32 u33 u34 u35 : Value) : FrDec v0 v1 v2 v4 v5 v6 { tmps := #[v0, v1, v2, u3, v4, v5, v6, u7, u8, u9, u10, u11, u12, u13, u14, u15, u16, u17, u18, u19, u20, u21, u22, u23, u24, u25, u26, u27, u28, u29, u30, u31, u32, u33, u34, u35], defers := [] }

set_option maxRecDepth 100000 in
set_option maxHeartbeats 8000000 in
theorem rdec_in (Av : Option Addr) (nv cv : Nat) (Aa : Option Addr) (na ca : Nat) (At : Option Addr) (nt ct : Nat) (m : Mix) (n : Int) (w : World) (h : MixS w Av nv Aa na At nt m) (hz : VesOk m) (hv4 : m.vessels.length ≤ 4) (hn : 0 ≤ n ∧ n ≤ 28561) :
  CallsIn Fence.wide 9 Try.prog 49 #[.agg #[.int .i64 m.fountains, .slice Av nv cv, .slice Aa na ca, .slice At nt ct], .int .i64 n] w (fun e w' => e = .returned (.agg #[.int .i64 (heldAt (decH m n) 0), .int .i64 (heldAt (decH m n) 1), .int .i64 (heldAt (decH m n) 2), .int .i64 (heldAt (decH m n) 3)]) ∧ Below w.heap.size w w') := by
 have HM := Lib.hid h
 have HLV := Lib.hid h.at_.lenV
 have HZ := Lib.hid hz
 have HV4 := Lib.hid hv4
 have HN := Lib.hid hn
 clear h hz hv4 hn
 refine callsIn_of_wp Try.func49 rfl trivial ?_ rfl
 simp only [Try.ntmps49, List.size_toArray, List.length_cons, List.length_nil, Nat.reduceAdd, Nat.reduceSub, Array.replicate_succ, Array.replicate_zero, List.push_toArray, List.append_toArray, List.nil_append, List.cons_append]
 gi_upto_region 2 with fail
 have HLay := Lib.hid (Lay.three w 26 #[.int .i64 m.fountains, .slice Av nv cv, .slice Aa na ca, .slice At nt ct] 110 #[.int .i64 0, .int .i64 0, .int .i64 0, .int .i64 0] 110 #[.int .i64 0, .int .i64 0, .int .i64 0, .int .i64 0])
 generalize (((w.alloc (.cells #[.int .i64 m.fountains, .slice Av nv cv, .slice Aa na ca, .slice At nt ct] 26)).alloc (.cells #[.int .i64 0, .int .i64 0, .int .i64 0, .int .i64 0] 110)).alloc (.cells #[.int .i64 0, .int .i64 0, .int .i64 0, .int .i64 0] 110)) = w0 at *
 have hnv : nv ≤ 4 := by have h1 := HLV.out; have h2 := HV4.out; omega
 have x0_0 := (HLay.out.blk 0 rfl).cell 0
 have x0_1 := (HLay.out.blk 0 rfl).cell 1
 have x0_2 := (HLay.out.blk 0 rfl).cell 2
 have x0_3 := (HLay.out.blk 0 rfl).cell 3
 have l0_ := HLay.out.lt 0 rfl
 gi_wp2
 clear x0_0 x0_1 x0_2 x0_3 l0_
 refine wpIn_loop (fun a W => ∃ (j : Nat) (nj : Int) (s : Held), Hid (Lay w W ([(w.heap.size, 26, #[.int .i64 m.fountains, .slice Av nv cv, .slice Aa na ca, .slice At nt ct]), (w.heap.size + 1, 110, #[.int .i64 0, .int .i64 0, .int .i64 0, .int .i64 0])] ++ [(w.heap.size + 1 + 1, 110, (heldC s).toArray)]) ∧ DecSt m nv n j nj s) ∧ FrDec (.agg #[.int .i64 m.fountains, .slice Av nv cv, .slice Aa na ca, .slice At nt ct]) (.int .i64 nj) (.pointer (some ⟨w.heap.size, 0, none⟩)) (.pointer (some ⟨w.heap.size + 1, 0, none⟩)) (.pointer (some ⟨w.heap.size + 1 + 1, 0, none⟩)) (.int .i64 ((j : Int) - 1)) a) (fun a _ => (intOf (a.tmps.getD 6 undef) + 1).toNat) ?_ ?_
 ·exact ⟨nv, n, zeroH, Lib.hid ⟨HLay.out, DecSt.first HLV.out HN.out hnv⟩, by constructor⟩
 clear HLay
 rintro a W ⟨j, nj, s, HS, ha⟩
 cases ha
 have HLay := Lib.hid HS.out.1
 by_cases hj : 1 ≤ j
 ·
  obtain ⟨i, rfl⟩ : ∃ i, j = i + 1 := ⟨j - 1, by omega⟩
  have hjn := HS.out.2.le
  obtain ⟨b, off, x, hAv, hbB, hx, c0, c1⟩ := (HM.out.at_.below HLay.out.1).vess (show i < nv by omega)
  rw [hAv]
  have e1 : ((i + 1 : Nat) : Int) - 1 = (i : Int) := by omega
  rw [e1]
  have hsz := HZ.out x (List.mem_of_getElem? hx)
  have hn0 := HS.out.2.pos
  have hn9 := HS.out.2.top
  have hrm : Int.tmod nj (x.size + 1) = nj % (x.size + 1) := Int.tmod_eq_emod_of_nonneg hn0
  have hdv : Int.tdiv nj (x.size + 1) = nj / (x.size + 1) := Int.tdiv_eq_ediv_of_nonneg hn0
  have hr0 := Int.emod_nonneg nj (show x.size + 1 ≠ 0 by omega)
  have hr1 := Int.emod_lt_of_pos nj (show 0 < x.size + 1 by omega)
  have hd0 := Int.ediv_nonneg hn0 (show 0 ≤ x.size + 1 by omega)
  have hd1 : nj / (x.size + 1) ≤ nj := Int.ediv_le_self _ hn0
  have hne : x.size + 1 ≠ 0 := by omega
  have HNX := Lib.hid (HS.out.2.next hx hnv)
  have hi4 : i < 4 := by omega
  have hii : (i : Int) < 4 := by omega
  have HSL := Lib.hid HS.out.2.len
  have x0_1 := (HLay.out.blk 0 rfl).cell 1
  have l0_ := HLay.out.lt 0 rfl
  have fq := (HLay.out.blk 2 rfl).frozen i
  have lq := HLay.out.lt 2 rfl
  have cq := ((HLay.out.blk 2 rfl).cell i).trans (heldC_at s hi4)
  clear e1 hx
  gi_upto_region 6 with fail
  have HL2 := Lib.hid (HLay.out.setLast (by intro p hp; simp only [List.mem_cons, List.not_mem_nil, or_false] at hp; rcases hp with rfl | rfl <;> (intro e; dsimp only at e; omega)) i (.int .i64 (nj % (x.size + 1))))
  generalize W.setCell ⟨w.heap.size + 1 + 1, i, none⟩ (.int .i64 (nj % (x.size + 1))) = W2 at *
  have c1' := (HL2.out.1.cell (p := ⟨b, off + i * 2 + 1, none⟩) hbB).trans ((HLay.out.1.cell (p := ⟨b, off + i * 2 + 1, none⟩) hbB).symm.trans c1)
  have c0' := (HL2.out.1.cell (p := ⟨b, off + i * 2, none⟩) hbB).trans ((HLay.out.1.cell (p := ⟨b, off + i * 2, none⟩) hbB).symm.trans c0)
  clear c0 c1 x0_1 l0_ fq lq cq hbB
  have x0_1 := (HL2.out.blk 0 rfl).cell 1
  have l0_ := HL2.out.lt 0 rfl
  gi_wp2
  have hAt := hAv
  subst hAt
  have HL3 := HL2.out
  rw [heldC_set HSL.out hi4] at HL3
  refine ⟨⟨i, nj / (x.size + 1), _, Lib.hid ⟨HL3, HNX.out⟩, by constructor⟩, ?_⟩
  show ((i : Int) - 1 + 1).toNat < ((i : Int) + 1).toNat
  omega
 ·
  obtain rfl : j = 0 := by omega
  obtain rfl := HS.out.2.last HLV.out
  replace HLay := Lib.hid (show Lay w W [(w.heap.size, 26, #[.int .i64 m.fountains, .slice Av nv cv, .slice Aa na ca, .slice At nt ct]), (w.heap.size + 1, 110, #[.int .i64 0, .int .i64 0, .int .i64 0, .int .i64 0]), (w.heap.size + 1 + 1, 110, #[.int .i64 (heldAt (decH m n) 0), .int .i64 (heldAt (decH m n) 1), .int .i64 (heldAt (decH m n) 2), .int .i64 (heldAt (decH m n) 3)])] from HLay.out)
  have x1_0 := (HLay.out.blk 1 rfl).cell 0
  have z1_0 := (HLay.out.blk 1 rfl).frozen 0
  have x1_1 := (HLay.out.blk 1 rfl).cell 1
  have z1_1 := (HLay.out.blk 1 rfl).frozen 1
  have x1_2 := (HLay.out.blk 1 rfl).cell 2
  have z1_2 := (HLay.out.blk 1 rfl).frozen 2
  have x1_3 := (HLay.out.blk 1 rfl).cell 3
  have z1_3 := (HLay.out.blk 1 rfl).frozen 3
  have l1_ := HLay.out.lt 1 rfl
  have x2_0 := (HLay.out.blk 2 rfl).cell 0
  have x2_1 := (HLay.out.blk 2 rfl).cell 1
  have x2_2 := (HLay.out.blk 2 rfl).cell 2
  have x2_3 := (HLay.out.blk 2 rfl).cell 3
  have l2_ := HLay.out.lt 2 rfl
  gi_wp2
  have R4 := ret4' (HLay.out.blk 1 rfl) HLay.out.1 (HLay.out.ge 1 rfl) (.int .i64 (heldAt (decH m n) 0)) (.int .i64 (heldAt (decH m n) 1)) (.int .i64 (heldAt (decH m n) 2)) (.int .i64 (heldAt (decH m n) 3))
  have v0 := R4.1.cell 0
  have v1 := R4.1.cell 1
  have v2 := R4.1.cell 2
  have v3 := R4.1.cell 3
  refine bodyPost_ret (v := .agg #[.int .i64 (heldAt (decH m n) 0), .int .i64 (heldAt (decH m n) 1), .int .i64 (heldAt (decH m n) 2), .int .i64 (heldAt (decH m n) 3)]) (by simp [results, Try.results49, go_sem, v0, v1, v2, v3]) rfl ?_
  exact ⟨rfl, R4.2.1⟩

end Go.Proofs.Ythofngceiecniaa
/- The answer's filled. -/
namespace Go.Proofs.Ythofngceiecniaa
open Go.RowKit
inductive FrFl (v0 v1 v2 v5 v9 v10 v11 : Value) : Act → Prop
 | mk (u3 u4 u6 u7 u8 u12 u13 u14 u15 u16 u17 u18 u19 u20 u21 u22 u23 u24 u25 u26 u27 u28 u29 : Value) : FrFl v0 v1 v2 v5 v9 v10 v11 { tmps := #[v0, v1, v2, u3, u4, v5, u6, u7, u8, v9, v10, v11, u12, u13, u14, u15, u16, u17, u18, u19, u20, u21, u22, u23, u24, u25, u26, u27, u28, u29], defers := [] }

set_option maxRecDepth 100000 in
set_option maxHeartbeats 8000000 in
theorem rfilled_in (Av : Option Addr) (nv cv : Nat) (Aa : Option Addr) (na ca : Nat) (At : Option Addr) (nt ct : Nat) (m : Mix) (fountain : Int) (w : World) (h : MixS w Av nv Aa na At nt m) (hk : okMix m = true) :
  CallsIn Fence.wide 9 Try.prog 55 #[.agg #[.int .i64 m.fountains, .slice Av nv cv, .slice Aa na ca, .slice At nt ct], .int .i64 fountain] w (fun e w' => e = .returned (.int .i64 (filledM m fountain)) ∧ Below w.heap.size w w') := by
 have HM := Lib.hid h
 have HLA := Lib.hid h.at_.lenA
 obtain ⟨L, hL⟩ := okMix_all hk
 have HOK : Hid (TbOk ⟨0, none, 0, 0, none, 0, 0, none, 0, 0, none, 0, 0, m, L⟩) := Lib.hid ⟨hk, hL⟩
 clear h hk hL
 refine callsIn_of_wp Try.func55 rfl trivial ?_ rfl
 simp only [Try.ntmps55, List.size_toArray, List.length_cons, List.length_nil, Nat.reduceAdd, Nat.reduceSub, Array.replicate_succ, Array.replicate_zero, List.push_toArray, List.append_toArray, List.nil_append, List.cons_append]
 gi_upto_region 1 with fail
 have HLay := Lib.hid (Lay.one w 26 #[.int .i64 m.fountains, .slice Av nv cv, .slice Aa na ca, .slice At nt ct])
 generalize (w.alloc (.cells #[.int .i64 m.fountains, .slice Av nv cv, .slice Aa na ca, .slice At nt ct] 26)) = w0 at *
 have x0_0 := (HLay.out.blk 0 rfl).cell 0
 have x0_1 := (HLay.out.blk 0 rfl).cell 1
 have x0_2 := (HLay.out.blk 0 rfl).cell 2
 have x0_3 := (HLay.out.blk 0 rfl).cell 3
 have l0_ := HLay.out.lt 0 rfl
 gi_wp2
 clear x0_0 x0_1 x0_2 x0_3 l0_
 refine wpIn_loop (fun a W => ∃ k : Nat, Hid (k ≤ na ∧ Lay w W [(w.heap.size, 26, #[.int .i64 m.fountains, .slice Av nv cv, .slice Aa na ca, .slice At nt ct])]) ∧ FrFl (.agg #[.int .i64 m.fountains, .slice Av nv cv, .slice Aa na ca, .slice At nt ct]) (.int .i64 fountain) (.pointer (some ⟨w.heap.size, 0, none⟩)) (.int .i64 (filledK m fountain k)) (.slice Aa na ca) (.int .i64 na) (.int .i64 k) a) (fun a _ => na - (intOf (a.tmps.getD 11 undef)).toNat) ?_ ?_
 ·exact ⟨0, Lib.hid ⟨by omega, HLay.out⟩, by constructor⟩
 clear HLay
 rintro a W ⟨k, HS, ha⟩
 cases ha
 have HLay := Lib.hid HS.out.2
 by_cases hlt : k < na
 ·
  obtain ⟨b, off, x, hAv, hbB, hx, c0, c1, c2, c3⟩ := (HM.out.at_.below HLay.out.1).act hlt
  have hk12 : k + 1 ≤ 12 := by have h1 := HOK.out.acts; have h2 := HLA.out; dsimp only at h1; omega
  rw [hAv]
  gi_upto_region 5 with fail
  clear c0 c1 c2 c3
  obtain ⟨V1, hV⟩ : ∃ V, (W.alloc (.cells #[.int .i64 x.kind, .int .i64 x.fr, .int .i64 x.to, .int .i64 x.drops] 67)) = V := ⟨_, rfl⟩
  rw [hV]
  have hb := fbox_bel hV
  have hnew := fbox_blk hV
  have hge := HLay.out.bel.size
  replace HLay := Lib.hid (HLay.out.below hb)
  replace HLay := Lib.hid (HLay.out.add hge hnew)
  clear hnew hge hb hV
  obtain ⟨G2, hG⟩ : ∃ g, W.heap.size = g := ⟨_, rfl⟩
  rw [hG] at HLay ⊢
  clear hG
  replace HLay := Lib.hid (show Lay w V1 [(w.heap.size, 26, #[.int .i64 m.fountains, .slice Av nv cv, .slice Aa na ca, .slice At nt ct]), (G2, 67, #[.int .i64 x.kind, .int .i64 x.fr, .int .i64 x.to, .int .i64 x.drops])] from HLay.out)
  have hbd := filledK_bd (f := fountain) HOK.out (k := k) (by have := HLA.out; dsimp only; omega)
  have hbd2 := filledK_bd (f := fountain) HOK.out (k := k + 1) (by have := HLA.out; dsimp only; omega)
  dsimp only at hbd hbd2
  have hsc := filledK_succ (f := fountain) hx
  clear hx hbB
  by_cases hc : x.kind = 1
  ·
   have hcb : (x.kind == 1) = true := by simpa using hc
   by_cases hd : x.fr = fountain
   ·
    have hdb : (x.fr == fountain) = true := by simpa using hd
    rw [if_pos ⟨hc, hd⟩] at hsc
    rw [hsc] at hbd2
    have HSC := Lib.hid hsc
    clear hc hd hsc
    have x1_0 := (HLay.out.blk 1 rfl).cell 0
    have x1_1 := (HLay.out.blk 1 rfl).cell 1
    have x1_2 := (HLay.out.blk 1 rfl).cell 2
    have x1_3 := (HLay.out.blk 1 rfl).cell 3
    have l1_ := HLay.out.lt 1 rfl
    gi_wp2
    have hAt := hAv
    subst hAt
    refine ⟨⟨k + 1, Lib.hid ⟨hlt, HLay.out.sub (by intro b hb; simp only [List.mem_cons, List.not_mem_nil, or_false] at hb ⊢; rcases hb with rfl; simp)⟩, by rw [HSC.out, show ((k + 1 : Nat) : Int) = (k : Int) + 1 from by omega]; constructor⟩, ?_⟩
    simp [intOf]
    omega
   ·
    have hdb : (x.fr == fountain) = false := by simpa using hd
    rw [if_neg (fun h => hd h.2)] at hsc
    have HSC := Lib.hid hsc
    clear hc hd hsc
    have x1_0 := (HLay.out.blk 1 rfl).cell 0
    have x1_1 := (HLay.out.blk 1 rfl).cell 1
    have x1_2 := (HLay.out.blk 1 rfl).cell 2
    have x1_3 := (HLay.out.blk 1 rfl).cell 3
    have l1_ := HLay.out.lt 1 rfl
    gi_wp2
    have hAt := hAv
    subst hAt
    refine ⟨⟨k + 1, Lib.hid ⟨hlt, HLay.out.sub (by intro b hb; simp only [List.mem_cons, List.not_mem_nil, or_false] at hb ⊢; rcases hb with rfl; simp)⟩, by rw [HSC.out, show ((k + 1 : Nat) : Int) = (k : Int) + 1 from by omega]; constructor⟩, ?_⟩
    simp [intOf]
    omega
  ·
   have hcb : (x.kind == 1) = false := by simpa using hc
   rw [if_neg (fun h => hc h.1)] at hsc
   have HSC := Lib.hid hsc
   clear hc hsc
   have x1_0 := (HLay.out.blk 1 rfl).cell 0
   have x1_1 := (HLay.out.blk 1 rfl).cell 1
   have x1_2 := (HLay.out.blk 1 rfl).cell 2
   have x1_3 := (HLay.out.blk 1 rfl).cell 3
   have l1_ := HLay.out.lt 1 rfl
   gi_wp2
   have hAt := hAv
   subst hAt
   refine ⟨⟨k + 1, Lib.hid ⟨hlt, HLay.out.sub (by intro b hb; simp only [List.mem_cons, List.not_mem_nil, or_false] at hb ⊢; rcases hb with rfl; simp)⟩, by rw [HSC.out, show ((k + 1 : Nat) : Int) = (k : Int) + 1 from by omega]; constructor⟩, ?_⟩
   simp [intOf]
   omega
 ·
  gi_wp2
  refine bodyPost_ret (v := .int .i64 (filledK m fountain k)) (by simp [results, Try.results55, go_sem]) rfl ?_
  exact ⟨ret_int (filledK_all (by have := HLA.out; have := HS.out.1; omega)), HLay.out.1⟩

end Go.Proofs.Ythofngceiecniaa
/- The answer's numbers of what vessels hold: code and decoded undo each other (plain). -/
namespace Go.Proofs.Ythofngceiecniaa

/-- The number of what vessels hold. -/
def codeH (m : Mix) (s : Held) : Int := codeR (zsM m) (asK s m.vessels.length)
/-- Nothing is held where there is no vessel. -/
def Bare (m : Mix) (s : Held) : Prop := s.drop m.vessels.length = List.replicate (4 - m.vessels.length) 0
section
variable {m : Mix} {s : Held} {c : Int}
theorem zsM_len : (zsM m).length = m.vessels.length := by simp [zsM]
theorem zsM_pos (hz : VesOk m) : ∀ z ∈ zsM m, 0 ≤ z := fun z hz' => by
 unfold zsM at hz'
 rw [List.mem_reverse] at hz'
 obtain ⟨x, hx, rfl⟩ := List.mem_map.1 hz'
 have := hz x hx
 omega
theorem dec_codeH (hw : Within m s) (hv : m.vessels.length ≤ 4) (hb : Bare m s) : decH m (codeH m s) = s := by
 have h := in_K hw hv (Nat.le_refl m.vessels.length)
 rw [zsK_all rfl] at h
 unfold decH codeH
 rw [dec_code h]
 unfold asK
 rw [List.reverse_reverse, ← hb, List.take_append_drop]
theorem code_decH (hz : VesOk m) (h0 : 0 ≤ c) (h1 : c < prodR (zsM m)) : codeH m (decH m c) = c := by
 have hl : (decR (zsM m) c).reverse.length = m.vessels.length := by rw [List.length_reverse, decR_len, zsM_len]
 unfold codeH decH asK
 rw [List.take_append_of_le_length (Nat.le_of_eq hl.symm), List.take_of_length_le (Nat.le_of_eq hl), List.reverse_reverse]
 exact code_dec (zsM_pos hz) h0 h1
theorem decH_len (hv : m.vessels.length ≤ 4) : (decH m c).length = 4 := by
 unfold decH
 rw [List.length_append, List.length_reverse, decR_len, zsM_len, List.length_replicate]
 omega
theorem decH_bare (hv : m.vessels.length ≤ 4) : Bare m (decH m c) := by
 have hl : (decR (zsM m) c).reverse.length = m.vessels.length := by rw [List.length_reverse, decR_len, zsM_len]
 unfold Bare decH
 rw [← hl, List.drop_append_of_le_length (Nat.le_refl _), List.drop_length]
 rfl
theorem codeH_in (hw : Within m s) (hv : m.vessels.length ≤ 4) : 0 ≤ codeH m s ∧ codeH m s < prodR (zsM m) := by
 have h := in_K hw hv (Nat.le_refl m.vessels.length)
 rw [zsK_all rfl] at h
 exact codeR_in h
theorem InR.get {zs bs : List Int} (h : InR zs bs) : ∀ (i : Nat) (z b : Int), zs[i]? = some z → bs[i]? = some b → 0 ≤ b ∧ b ≤ z := by
 induction h with
 | nil => intro i z b h; simp at h
 | @cons z a zs bs hz h ih =>
  intro i y b hy hb
  cases i with
  | zero =>
   simp at hy hb
   subst hy hb
   exact hz
  | succ i => exact ih i y b (by simpa using hy) (by simpa using hb)
theorem decH_within (hz : VesOk m) (hv : m.vessels.length ≤ 4) (h0 : 0 ≤ c) : Within m (decH m c) := by
 refine ⟨decH_len hv, fun k x hx => ?_⟩
 obtain ⟨hk, rfl⟩ := List.getElem?_eq_some_iff.1 hx
 have hi := dec_in (zsM_pos hz) h0
 have hl : (decR (zsM m) c).length = m.vessels.length := by rw [decR_len, zsM_len]
 have hb : (decH m c)[k]? = some (heldAt (decH m c) (k : Int)) := by
  unfold heldAt
  rw [Int.toNat_natCast, List.getElem?_eq_getElem (by rw [decH_len hv]; omega)]
  rfl
 have hb2 : (decR (zsM m) c)[m.vessels.length - 1 - k]? = some (heldAt (decH m c) (k : Int)) := by
  rw [← hb]
  unfold decH
  rw [List.getElem?_append_left (by rw [List.length_reverse, hl]; exact hk), List.getElem?_reverse (by rw [hl]; exact hk), hl]
 have hz2 : (zsM m)[m.vessels.length - 1 - k]? = some (m.vessels[k].size) := by
  unfold zsM
  rw [List.getElem?_reverse (by rw [List.length_map]; omega), List.length_map, show m.vessels.length - 1 - (m.vessels.length - 1 - k) = k from by omega, List.getElem?_map, List.getElem?_eq_getElem hk]
  rfl
 exact hi.get _ _ _ hz2 hb2
end
end Go.Proofs.Ythofngceiecniaa
/- What vessels hold at all times lies within their sizes (plain). -/
namespace Go.Proofs.Ythofngceiecniaa

section
variable {m : Mix} {s : Held} {c : Int}
theorem set_within {q : Nat} {v : Int} (hw : Within m s) (hq : q < m.vessels.length) (hv4 : m.vessels.length ≤ 4) (hv : 0 ≤ v ∧ v ≤ sizeV m.vessels (q : Int)) : Within m (s.set q v) := by
 refine ⟨by simp [hw.1], fun k x hx => ?_⟩
 have h1 := hw.2 k x hx
 have h2 := hw.1
 have e := heldAt_set (s := s) (i := (q : Int)) (j := (k : Int)) (v := v) (by omega) (by omega) (by omega)
 rw [Int.toNat_natCast] at e
 rw [e]
 split
 ·rename_i h
  have : k = q := by omega
  subst this
  unfold sizeV at hv
  rw [Int.toNat_natCast, hx] at hv
  exact hv
 ·exact h1
theorem set_bare {q : Nat} {v : Int} (hb : Bare m s) (hq : q < m.vessels.length) : Bare m (s.set q v) := by
 unfold Bare at hb ⊢
 rw [List.drop_set_of_lt hq, hb]
theorem held_size {q : Nat} (hw : Within m s) (hq : q < m.vessels.length) : 0 ≤ heldAt s (q : Int) ∧ heldAt s (q : Int) ≤ sizeV m.vessels (q : Int) := by
 have h := hw.2 q _ (List.getElem?_eq_getElem hq)
 unfold sizeV
 rw [Int.toNat_natCast, List.getElem?_eq_getElem hq]
 exact h
theorem done_within {s' : Held} {x : MAct} (hw : Within m s) (hb : Bare m s) (hv4 : m.vessels.length ≤ 4) (h : doneM m s x = some s') : Within m s' ∧ Bare m s' := by
 obtain ⟨jf, hjf⟩ : ∃ j, idxV m.vessels x.fr = j := ⟨_, rfl⟩
 obtain ⟨jt, hjt⟩ : ∃ j, idxV m.vessels x.to = j := ⟨_, rfl⟩
 have hf : 0 ≤ jf → jf < m.vessels.length := fun h => by rw [← hjf] at h ⊢; exact idxV_lt h
 have ht : 0 ≤ jt → jt < m.vessels.length := fun h => by rw [← hjt] at h ⊢; exact idxV_lt h
 by_cases h1 : x.kind = 1
 ·rw [dk1 h1 hjt] at h
  split at h
  ·rename_i hc
   cases h
   obtain ⟨q, rfl⟩ : ∃ q : Nat, jt = (q : Int) := ⟨jt.toNat, by omega⟩
   have hq : q < m.vessels.length := by have := ht (by omega); omega
   have hs := held_size hw hq
   rw [Int.toNat_natCast]
   exact ⟨set_within hw hq hv4 (by omega), set_bare hb hq⟩
  ·cases h
 ·by_cases h0 : jf < 0
  ·rw [dk0 h1 hjf h0] at h
   cases h
  ·obtain ⟨p, rfl⟩ : ∃ p : Nat, jf = (p : Int) := ⟨jf.toNat, by omega⟩
   have hp : p < m.vessels.length := by have := hf (by omega); omega
   have hsp := held_size hw hp
   by_cases h2 : x.kind = 2
   ·rw [dk2 h2 hjf hjt (by omega)] at h
    split at h
    ·rename_i hc
     cases h
     obtain ⟨q, rfl⟩ : ∃ q : Nat, jt = (q : Int) := ⟨jt.toNat, by omega⟩
     have hq : q < m.vessels.length := by have := ht (by omega); omega
     have hs := held_size hw hq
     rw [Int.toNat_natCast, Int.toNat_natCast]
     exact ⟨set_within (set_within hw hp hv4 (by omega)) hq hv4 (by omega), set_bare (set_bare hb hp) hq⟩
    ·cases h
   ·by_cases h3 : x.kind = 3
    ·rw [dk3 h3 hjf (by omega)] at h
     split at h
     ·cases h
      rw [Int.toNat_natCast]
      exact ⟨set_within hw hp hv4 (by omega), set_bare hb hp⟩
     ·cases h
    ·by_cases h4 : x.kind = 4
     ·rw [dk4 h4 hjf (by omega)] at h
      split at h
      ·cases h
       rw [Int.toNat_natCast]
       exact ⟨set_within hw hp hv4 (by omega), set_bare hb hp⟩
      ·cases h
     ·rw [dk5 h1 h2 h3 h4] at h
      cases h
theorem zero_within (hz : VesOk m) (hv4 : m.vessels.length ≤ 4) : Within m zeroH ∧ Bare m zeroH := by
 refine ⟨⟨rfl, fun k x hx => ?_⟩, ?_⟩
 ·have h1 := hz x (List.mem_of_getElem? hx)
  have hk := (List.getElem?_eq_some_iff.1 hx).1
  match k, (show k < 4 by omega) with
  | 0, _ => exact ⟨by decide, by show (0 : Int) ≤ _; omega⟩
  | 1, _ => exact ⟨by decide, by show (0 : Int) ≤ _; omega⟩
  | 2, _ => exact ⟨by decide, by show (0 : Int) ≤ _; omega⟩
  | 3, _ => exact ⟨by decide, by show (0 : Int) ≤ _; omega⟩
 ·unfold Bare
  match m.vessels.length, hv4 with
  | 0, _ => rfl
  | 1, _ => rfl
  | 2, _ => rfl
  | 3, _ => rfl
  | 4, _ => rfl
theorem allM_within {l : List MAct} {A : List Held} (h : allM m l = some A) (hv : m.vessels.length ≤ 4) (hz : VesOk m) : ∀ {t : Nat} {a : Held}, A[t]? = some a → Within m a ∧ Bare m a := by
 intro t
 induction t with
 | zero => intro a ha; rw [allM_zero h] at ha; cases ha; exact zero_within hz hv
 | succ t ih =>
  intro a ha
  have hl := allM_len m l A h
  have ht : t < l.length := by
   have := (List.getElem?_eq_some_iff.1 ha).1
   omega
  obtain ⟨b, b', h1, h2, h3⟩ := allM_step h (List.getElem?_eq_getElem ht)
  rw [ha] at h2
  cases h2
  have := ih h1
  exact done_within this.1 this.2 hv h3
end
end Go.Proofs.Ythofngceiecniaa
/- A state of a fountain lies within the sizes (plain). -/
namespace Go.Proofs.Ythofngceiecniaa

section
variable {m : Mix} {s a : Held}
theorem bare_iff (hl : s.length = 4) (hv : m.vessels.length ≤ 4) : Bare m s ↔ ∀ q : Nat, m.vessels.length ≤ q → q < 4 → heldAt s (q : Int) = 0 := by
 unfold Bare
 constructor
 ·intro h q h1 h2
  have e : (s.drop m.vessels.length)[q - m.vessels.length]? = some 0 := by
   rw [h, List.getElem?_replicate, if_pos (by omega)]
  rw [List.getElem?_drop, show m.vessels.length + (q - m.vessels.length) = q from by omega] at e
  unfold heldAt
  rw [Int.toNat_natCast, e]
  rfl
 ·intro h
  refine List.ext_getElem? fun i => ?_
  rw [List.getElem?_drop, List.getElem?_replicate]
  by_cases hi : i < 4 - m.vessels.length
  ·rw [if_pos hi]
   have h1 := h (m.vessels.length + i) (by omega) (by omega)
   unfold heldAt at h1
   rw [Int.toNat_natCast] at h1
   have h2 : m.vessels.length + i < s.length := by omega
   rw [List.getElem?_eq_getElem h2] at h1 ⊢
   exact congrArg some h1
  ·rw [if_neg hi]
   exact List.getElem?_eq_none (by omega)
theorem fits_within (hf : Fits a s) (hv : m.vessels.length ≤ 4) (hw : Within m a) (hb : Bare m a) : Within m s ∧ Bare m s := by
 refine ⟨⟨hf.lh, fun k x hx => ?_⟩, (bare_iff hf.lh hv).2 fun q h1 h2 => ?_⟩
 ·have hk := (List.getElem?_eq_some_iff.1 hx).1
  have h1 := hf.le k (by omega)
  have h2 := hw.2 k x hx
  omega
 ·have h3 := hf.le q h2
  have h4 := (bare_iff hf.la hv).1 hb q h1 h2
  omega
theorem fwd_state {f : Int} {A : List Held} {t : Nat} (hok : okMix m = true) (hA : allM m m.acts = some A) (h : Fwd m f A t s) (ht : t ≤ m.acts.length) : Within m s ∧ Bare m s := by
 have hl := allM_len _ _ _ hA
 have hv := (okMix_vess hok).1
 have ha := List.getElem?_eq_getElem (by omega : t < A.length)
 have hw := allM_within hA hv (okMix_ves hok) ha
 exact fits_within (fwd_fits hA hv h ha) hv hw.1 hw.2
/-- The forward pass, in numbers. -/
theorem fwd_next {f : Int} {A : List Held} {t : Nat} {x : MAct} {all : Held} (hok : okMix m = true) (hA : allM m m.acts = some A) (hx : m.acts[t]? = some x) (ha : A[t]? = some all) (hao : ActOk m all x) (s' : Held) :
  Fwd m f A (t + 1) s' ↔ (∃ c k : Int, (0 ≤ c ∧ c < prodR (zsM m)) ∧ Fwd m f A t (decH m c) ∧ (spanR m x f all (decH m c)).1 ≤ k ∧ k ≤ (spanR m x f all (decH m c)).2 ∧ s' = movedR m x (decH m c) k) ∧ tastedB m f (t + 1) s' = true := by
 have hv := (okMix_vess hok).1
 have ht : t < m.acts.length := (List.getElem?_eq_some_iff.1 hx).1
 constructor
 ·rintro ⟨⟨s, h1, x2, all2, k, h2, h3, h4, h5, rfl⟩, h6⟩
  rw [hx] at h2
  cases h2
  rw [ha] at h3
  cases h3
  have hs := fwd_state hok hA h1 (Nat.le_of_lt ht)
  have e := dec_codeH hs.1 hv hs.2
  have hf := fwd_fits hA hv h1 ha
  rw [spans_same hao hf hv] at h4 h5
  exact ⟨⟨codeH m s, k, codeH_in hs.1 hv, by rw [e]; exact h1, by rw [e]; exact h4, by rw [e]; exact h5, by rw [e, moved_same hao]⟩, h6⟩
 ·rintro ⟨⟨c, k, _, h1, h4, h5, rfl⟩, h6⟩
  have hf := fwd_fits hA hv h1 ha
  rw [← spans_same hao hf hv] at h4 h5
  exact ⟨⟨decH m c, h1, x, all, k, hx, ha, h4, h5, (moved_same hao k).symm⟩, h6⟩
theorem truth_end {f : Int} {A : List Held} : Truth m f A m.acts.length s ↔ Fwd m f A m.acts.length s := by
 unfold Truth
 rw [Nat.sub_self]
 exact Iff.rfl
/-- The backward pass, in numbers. -/
theorem truth_step {f : Int} {A : List Held} {t : Nat} {x : MAct} {all : Held} (hok : okMix m = true) (hA : allM m m.acts = some A) (hx : m.acts[t]? = some x) (ha : A[t]? = some all) (hao : ActOk m all x) :
  Truth m f A t s ↔ Fwd m f A t s ∧ ∃ k : Int, (spanR m x f all s).1 ≤ k ∧ k ≤ (spanR m x f all s).2 ∧ Truth m f A (t + 1) (movedR m x s k) := by
 have hv := (okMix_vess hok).1
 have ht : t < m.acts.length := (List.getElem?_eq_some_iff.1 hx).1
 have e : m.acts.length - t = (m.acts.length - (t + 1)) + 1 := by omega
 unfold Truth
 rw [e]
 constructor
 ·rintro ⟨h1, s', ⟨x2, all2, k, h2, h3, h4, h5, rfl⟩, h6⟩
  rw [hx] at h2
  cases h2
  rw [ha] at h3
  cases h3
  have hf := fwd_fits hA hv h1 ha
  rw [spans_same hao hf hv] at h4 h5
  rw [moved_same hao] at h6
  exact ⟨h1, k, h4, h5, h6⟩
 ·rintro ⟨h1, k, h4, h5, h6⟩
  have hf := fwd_fits hA hv h1 ha
  rw [← spans_same hao hf hv] at h4 h5
  rw [← moved_same hao] at h6
  exact ⟨h1, _, ⟨x, all, k, hx, ha, h4, h5, rfl⟩, h6⟩
/-- What is moved out of a number's state is a number again. -/
theorem fwd_code {f : Int} {A : List Held} {t : Nat} (hok : okMix m = true) (hA : allM m m.acts = some A) (h : Fwd m f A t s) (ht : t ≤ m.acts.length) : (0 ≤ codeH m s ∧ codeH m s < prodR (zsM m)) ∧ decH m (codeH m s) = s := by
 have hs := fwd_state hok hA h ht
 have hv := (okMix_vess hok).1
 exact ⟨codeH_in hs.1 hv, dec_codeH hs.1 hv hs.2⟩
/-- A move within the span leads to what fits. -/
theorem moved_fits {f : Int} {A : List Held} {t : Nat} {x : MAct} {all : Held} {k : Int} (hok : okMix m = true) (hA : allM m m.acts = some A) (hx : m.acts[t]? = some x) (ha : A[t]? = some all) (h : Fwd m f A t s) (h4 : (spanR m x f all s).1 ≤ k) (h5 : k ≤ (spanR m x f all s).2) :
  Within m (movedR m x s k) ∧ Bare m (movedR m x s k) := by
 have hv := (okMix_vess hok).1
 obtain ⟨hao, hn⟩ := act_ok hA hv hx ha
 have hf := fwd_fits hA hv h ha
 rw [← spans_same hao hf hv] at h4 h5
 have hm := fits_moves hao hf hv ⟨h4, h5⟩
 have hw := allM_within hA hv (okMix_ves hok) hn
 rw [moved_same (has := s) hao k] at hm
 exact fits_within hm.2.2 hv hw.1 hw.2
end
end Go.Proofs.Ythofngceiecniaa
