/- Part 5 of the texts of this claim, joined. -/
import Derived.RangeFuncKeeps
import Derived.WideKeyPair
import Derived.Test.YtjdgdeiedkickaaDoorTwT4
set_option linter.unusedVariables false
/- How many entries are to come: read off the world. A map, and a walk over it, abide whatever keeps walks. -/
namespace Go.Proofs.YtjdgdeiedkickaaDoor
open Go.RowKit Go.MapKept Go.Shelf
open Go.Maps (Keyed)
set_option linter.unusedSectionVars false

def iterLeft (w : World) (it : Nat) : Nat := match w.heap[it]? with
 | some (.mapIter (some r) _ seen _) => match w.heap[r]? with
  | some (.map es _) => (leftOf es seen).size
  | _ => 0
 | _ => 0
section
variable {α β : Type} [DecidableEq α] {encK : α → Value} {encV : β → Value} {okK : α → Prop} {w w' : World} {r it : Nat} {m left : List (α × β)}
theorem IterIs.left_eq (h : IterIs encK encV okK w it r m left) : iterLeft w it = left.length := by
 obtain ⟨es, clock, since, seen, c0, hb, hm, hs, hk, hi, hold, hsc, hsk, hl⟩ := h
 unfold iterLeft
 simp only [hi, hb]
 have := congrArg List.length hl
 simpa using this
theorem IterIs.walks (h : IterIs encK encV okK w it r m left) (hk : KeepsWalks w w') : IterIs encK encV okK w' it r m left := by
 obtain ⟨es, clock, since, seen, c0, hb, hm, hs, hkk, hi, rest⟩ := h
 exact ⟨es, clock, since, seen, c0, hk.same r _ hb rfl, hm, hs, hkk, hk.same it _ hi rfl, rest⟩
theorem MapIs.walks (h : MapIs encK encV okK w r m) (hk : KeepsWalks w w') : MapIs encK encV okK w' r m := by
 obtain ⟨es, clock, hb, rest⟩ := h
 exact ⟨es, clock, hk.same r _ hb rfl, rest⟩
theorem IterIs.alloc (h : IterIs encK encV okK w it r m left) (o : Obj) : IterIs encK encV okK (w.alloc o) it r m left := h.walks (KeepsWalks.alloc w o)
end
/-- One entry less to come. -/
theorem perm_erase {α : Type} : ∀ {l : List α} {i : Nat} {x : α}, l[i]? = some x → (x :: l.eraseIdx i).Perm l
 | [], i, x, h => by simp at h
 | y :: l, 0, x, h => by simp at h; subst h; simp
 | y :: l, i + 1, x, h => by
  have := perm_erase (l := l) (i := i) (x := x) (by simpa using h)
  rw [List.eraseIdx_cons_succ]
  exact (List.Perm.swap y x _).trans (this.cons y)
end Go.Proofs.YtjdgdeiedkickaaDoor
/- Where drops of a fountain can go by an act: mix.table.moves and its iterator. -/
namespace Go.Proofs.YtjdgdeiedkickaaDoor.Mx
open Go.RowKit
attribute [local go_sem] Oper.semAt_some
open Go.Shelf

/-- The iterator's boxes. -/
structure MvIn (g0 g1 g2 g3 : Nat) (T : Tb) (i f : Int) (has : Held) (W : World) : Prop where
 t : Blk W g0 68 #[.pointer (some ⟨T.g, 0, none⟩)]
 i : Blk W g1 3 #[.int .i64 i]
 f : Blk W g2 3 #[.int .i64 f]
 h : Blk W g3 74 #[.int .i64 (heldAt has 0), .int .i64 (heldAt has 1), .int .i64 (heldAt has 2), .int .i64 (heldAt has 3)]
 tb : TbAt W T
theorem MvIn.below {g0 g1 g2 g3 : Nat} {T : Tb} {i f : Int} {has : Held} {W W' : World} (h : MvIn g0 g1 g2 g3 T i f has W) (hb : Below W.heap.size W W') : MvIn g0 g1 g2 g3 T i f has W' :=
 ⟨h.t.below hb h.t.lt, h.i.below hb h.i.lt, h.f.below hb h.f.lt, h.h.below hb h.h.lt, h.tb.below hb⟩
/-- What comes: how many drops move. -/
abbrev Mv (m : Mix) (x : MAct) (f : Int) (all has : Held) := { j : Int // (spanP m x f all has).1 ≤ j ∧ j ≤ (spanP m x f all has).2 }
/-- All of them. -/
def MvAll {m : Mix} {x : MAct} {f : Int} {all has : Held} (xs : List (Mv m x f all has)) : Prop := ∀ j, (spanP m x f all has).1 ≤ j → j ≤ (spanP m x f all has).2 → ∃ y ∈ xs, y.1 = j
def Mv.enc (m : Mix) (x : MAct) {f : Int} {all : Held} (has : Held) (y : Mv m x f all has) : Array Value := #[.int .i64 y.1, .agg #[.int .i64 (heldAt (shiftH has (fromI m x) (toI m x) y.1) 0), .int .i64 (heldAt (shiftH has (fromI m x) (toI m x) y.1) 1), .int .i64 (heldAt (shiftH has (fromI m x) (toI m x) y.1) 2), .int .i64 (heldAt (shiftH has (fromI m x) (toI m x) y.1) 3)]]

set_option maxRecDepth 100000 in
set_option maxHeartbeats 2000000 in
theorem moves_any (T : Tb) (i f : Int) (has : Held) (w : World) :
  Calls Tryd.prog 48 #[.pointer (some ⟨T.g, 0, none⟩), .int .i64 i, .int .i64 f, .agg #[.int .i64 (heldAt has 0), .int .i64 (heldAt has 1), .int .i64 (heldAt has 2), .int .i64 (heldAt has 3)]] w fun e w' =>
   e = .returned (.func (.func 74) #[] #[.pointer (some ⟨w.heap.size, 0, none⟩), .pointer (some ⟨w.heap.size + 1, 0, none⟩), .pointer (some ⟨w.heap.size + 1 + 1 + 1, 0, none⟩), .pointer (some ⟨w.heap.size + 1 + 1, 0, none⟩)]) ∧
   Lay w w' [(w.heap.size, 68, #[.pointer (some ⟨T.g, 0, none⟩)]), (w.heap.size + 1, 3, #[.int .i64 i]), (w.heap.size + 1 + 1, 3, #[.int .i64 f]), (w.heap.size + 1 + 1 + 1, 74, #[.int .i64 (heldAt has 0), .int .i64 (heldAt has 1), .int .i64 (heldAt has 2), .int .i64 (heldAt has 3)])] := by
 have hmf : ∀ (fn : Fn) (first cap : Array Value) (w : World), (Instr.makeFunc fn first cap).run Tryd.prog w = .ok (.func fn first cap) w := fun _ _ _ _ => rfl
 go_enter Tryd.func48, Tryd.ntmps48
 go_wp2_with fail
 go_ret
 exact ⟨rfl, Lay.four w _ _ _ _ _ _ _ _⟩
theorem MvIn.of_lay {w w' : World} {T : Tb} {i f : Int} {has : Held} (h : Lay w w' [(w.heap.size, 68, #[.pointer (some ⟨T.g, 0, none⟩)]), (w.heap.size + 1, 3, #[.int .i64 i]), (w.heap.size + 1 + 1, 3, #[.int .i64 f]), (w.heap.size + 1 + 1 + 1, 74, #[.int .i64 (heldAt has 0), .int .i64 (heldAt has 1), .int .i64 (heldAt has 2), .int .i64 (heldAt has 3)])]) (ht : TbAt w T) :
  MvIn w.heap.size (w.heap.size + 1) (w.heap.size + 1 + 1) (w.heap.size + 1 + 1 + 1) T i f has w' :=
 ⟨h.blk 0 rfl, h.blk 1 rfl, h.blk 2 rfl, h.blk 3 rfl, ht.below h.1⟩
theorem held_at (s : Held) {q : Nat} (h : q < 4) : (#[Value.int .i64 (heldAt s 0), .int .i64 (heldAt s 1), .int .i64 (heldAt s 2), .int .i64 (heldAt s 3)] : Array Value)[q]? = some (.int .i64 (heldAt s (q : Int))) := by
 match q, h with
 | 0, _ => rfl
 | 1, _ => rfl
 | 2, _ => rfl
 | 3, _ => rfl

theorem fromI_ge {m : Mix} (x : MAct) : -1 ≤ fromI m x := by unfold fromI; split; decide; exact idxV_ge _ _
theorem toI_ge {m : Mix} (x : MAct) : -1 ≤ toI m x := by unfold toI; split; exact idxV_ge _ _; decide

set_option maxRecDepth 100000 in
set_option maxHeartbeats 8000000 in
theorem moves1_stops (n : Nat) (hn : 2 ≤ n) (T : Tb) (hT : TbOk T) (k : Nat) (x : MAct) (all : Held) (hA : ActAt T k x all) (f : Int) (has : Held) (hfit : Fits all has) (g0 g1 g2 g3 : Nat) (w0 : World) (hin : MvIn g0 g1 g2 g3 T k f has w0) :
  SeqStopsK Fence.wide n Tryd.prog 74 #[.pointer (some ⟨g0, 0, none⟩), .pointer (some ⟨g1, 0, none⟩), .pointer (some ⟨g3, 0, none⟩), .pointer (some ⟨g2, 0, none⟩)] (Mv.enc T.m x (f := f) (all := all) has) (fun W W' => Blk W g3 74 #[.int .i64 (heldAt has 0), .int .i64 (heldAt has 1), .int .i64 (heldAt has 2), .int .i64 (heldAt has 3)] → Blk W' g3 74 #[.int .i64 (heldAt has 0), .int .i64 (heldAt has 1), .int .i64 (heldAt has 2), .int .i64 (heldAt has 3)])
   MvAll (fun pre => True) ((spanP T.m x f all has).2 + 1 - (spanP T.m x f all has).1).toNat w0 := by
 intro l J Jx w hW hJ hJx hY h0
 have HIN := Lib.hid (hin.below hW)
 have HA := Lib.hid hA
 have HFI := Lib.hid hfit
 have HJ := Lib.hid hJ
 have HY := Lib.hid hY
 have H0 := Lib.hid h0
 have hka : k < T.na := by have := hin.tb.mix.lenA; have := (List.getElem?_eq_some_iff.1 hA.hx).1; omega
 obtain ⟨ba, oa, x', hAa, hba, hx', c0, c1, c2, c3⟩ := HIN.out.tb.mix.act hka
 rw [hA.hx] at hx'
 obtain rfl : x = x' := Option.some.inj hx'
 have hkl : k < T.nl := by have := recs_n heldC_k (by omega) hin.tb.all; have := (List.getElem?_eq_some_iff.1 hA.ha).1; omega
 obtain ⟨bl, ol, all', hAL, hbl, ha', cl⟩ := recs_cell heldC_k (by omega) HIN.out.tb.all hkl
 rw [hA.ha] at ha'
 obtain rfl : all = all' := Option.some.inj ha'
 have HC0 := Lib.hid c0
 have HC1 := Lib.hid c1
 have HC2 := Lib.hid c2
 have HC3 := Lib.hid c3
 have HCE := Lib.hid cl
 have HAA := Lib.hid hAa
 have HAL := Lib.hid hAL
 have HBA := Lib.hid hba
 have HBL := Lib.hid hbl
 have HKA := Lib.hid hka
 have HKL := Lib.hid hkl
 have HFR := Lib.hid (fromI_small (m := T.m) hT.vess x)
 have HTO := Lib.hid (toI_small (m := T.m) hT.vess x)
 clear hJ hJx hY h0 hx' ha' c0 c1 c2 c3 cl hAa hAL hba hbl hka hkl hin hA hfit
 refine callsIn_of_wp Tryd.func74 rfl trivial ?_ rfl
 simp only [Tryd.ntmps74, List.size_toArray, List.length_cons, List.length_nil, Nat.reduceAdd, Nat.reduceSub, Array.replicate_succ, Array.replicate_zero, List.push_toArray, List.append_toArray, List.nil_append, List.cons_append]
 gi_upto_region 0 with fail
 have HLay := Lib.hid (Lay.nil w)
 have HLay0 := Lib.hid HLay.out
 refine wpIn_flow_new [([true, true, true, true, true, true, true, true, true, true], 10)] [false, false, false, false, false, false, false, false, false, false, false, false, false, true] [false, false, false, false, false, false, false, false, false, false, false, false, true] 11 (fun b => .pointer (some ⟨b, 0, none⟩)) 43 #[.int .i64 0, .int .i64 0, .int .i64 0, .int .i64 0] (by kernel_rfl) (by kernel_rfl) (by kernel_rfl) (below_drewN (Below.refl _ _) 1) rfl rfl rfl (fun _ _ => rfl) (fun _ _ => rfl) ?_
 refine wpFlow_cons (A := ?AF1) rfl ?hq1 ?_
 case hq1 =>
  rintro σ hσ of hof hcl
  have HOF := Lib.hid hof
  have HCL := Lib.hid hcl
  clear hof hcl
  have hfw : ∀ f, Fence.wide.fn f := fun _ => trivial
  have a0 : ∀ z, (of z).cell? ⟨g0, 0, none⟩ = some (.pointer (some ⟨T.g, 0, none⟩)) := fun z => (HIN.out.below (HLay.out.1.trans ((HOF.out z).mono HLay.out.1.size))).t.cell 0
  have a1 : ∀ z, (of z).cell? ⟨g1, 0, none⟩ = some (.int .i64 (k : Int)) := fun z => (HIN.out.below (HLay.out.1.trans ((HOF.out z).mono HLay.out.1.size))).i.cell 0
  have t2 : ∀ z, (of z).cell? ⟨T.g, 2, none⟩ = some (.slice (some ⟨ba, oa, none⟩) T.na T.ca) := fun z => by rw [← HAA.out]; exact (HIN.out.below (HLay.out.1.trans ((HOF.out z).mono HLay.out.1.size))).tb.blk.cell 2
  have d0 : ∀ z, (of z).cell? ⟨ba, oa + k * 4, none⟩ = some (.int .i64 x.kind) := fun z => ((HLay.out.1.trans ((HOF.out z).mono HLay.out.1.size)).cell (p := ⟨ba, oa + k * 4, none⟩) HBA.out).trans HC0.out
  have d1 : ∀ z, (of z).cell? ⟨ba, oa + k * 4 + 1, none⟩ = some (.int .i64 x.fr) := fun z => ((HLay.out.1.trans ((HOF.out z).mono HLay.out.1.size)).cell (p := ⟨ba, oa + k * 4 + 1, none⟩) HBA.out).trans HC1.out
  have d2 : ∀ z, (of z).cell? ⟨ba, oa + k * 4 + 2, none⟩ = some (.int .i64 x.to) := fun z => ((HLay.out.1.trans ((HOF.out z).mono HLay.out.1.size)).cell (p := ⟨ba, oa + k * 4 + 2, none⟩) HBA.out).trans HC2.out
  have d3 : ∀ z, (of z).cell? ⟨ba, oa + k * 4 + 3, none⟩ = some (.int .i64 x.drops) := fun z => ((HLay.out.1.trans ((HOF.out z).mono HLay.out.1.size)).cell (p := ⟨ba, oa + k * 4 + 3, none⟩) HBA.out).trans HC3.out
  have hka := HKA.out
  simp only [pickB]
  repeat (gi_big_quiet_step (fail))
  refine wpQuietIn_nil ?_
  exact rfl
 intro W1 hW
 replace HLay := Lib.hid (HLay.out.below hW)
 clear hW
 gi_wp2
 refine ⟨trivial, fun _ => by omega, (callsIn_wide.2 (callsIn_wide.1 (size_in T k x all W1 (HIN.out.below HLay.out.1).tb HA.out.hx HA.out.ha HA.out.kindOk HA.out.four))).mono ?_⟩
 rintro e W2 ⟨rfl, hb⟩
 replace HLay := Lib.hid (HLay.out.below hb)
 gi_wp2
 refine ⟨trivial, hb, ?_⟩
 clear hb
 refine wpFlow_nil (A := ?AF2) ?hq2 ?_
 case hq2 =>
  rintro σ hσ of hof hcl
  have HOF := Lib.hid hof
  have HCL := Lib.hid hcl
  clear hof hcl
  have hfw : ∀ f, Fence.wide.fn f := fun _ => trivial
  have a0 : ∀ z, (of z).cell? ⟨g0, 0, none⟩ = some (.pointer (some ⟨T.g, 0, none⟩)) := fun z => (HIN.out.below (HLay.out.1.trans ((HOF.out z).mono HLay.out.1.size))).t.cell 0
  have a1 : ∀ z, (of z).cell? ⟨g1, 0, none⟩ = some (.int .i64 (k : Int)) := fun z => (HIN.out.below (HLay.out.1.trans ((HOF.out z).mono HLay.out.1.size))).i.cell 0
  have t2 : ∀ z, (of z).cell? ⟨T.g, 2, none⟩ = some (.slice (some ⟨ba, oa, none⟩) T.na T.ca) := fun z => by rw [← HAA.out]; exact (HIN.out.below (HLay.out.1.trans ((HOF.out z).mono HLay.out.1.size))).tb.blk.cell 2
  have d0 : ∀ z, (of z).cell? ⟨ba, oa + k * 4, none⟩ = some (.int .i64 x.kind) := fun z => ((HLay.out.1.trans ((HOF.out z).mono HLay.out.1.size)).cell (p := ⟨ba, oa + k * 4, none⟩) HBA.out).trans HC0.out
  have d1 : ∀ z, (of z).cell? ⟨ba, oa + k * 4 + 1, none⟩ = some (.int .i64 x.fr) := fun z => ((HLay.out.1.trans ((HOF.out z).mono HLay.out.1.size)).cell (p := ⟨ba, oa + k * 4 + 1, none⟩) HBA.out).trans HC1.out
  have d2 : ∀ z, (of z).cell? ⟨ba, oa + k * 4 + 2, none⟩ = some (.int .i64 x.to) := fun z => ((HLay.out.1.trans ((HOF.out z).mono HLay.out.1.size)).cell (p := ⟨ba, oa + k * 4 + 2, none⟩) HBA.out).trans HC2.out
  have d3 : ∀ z, (of z).cell? ⟨ba, oa + k * 4 + 3, none⟩ = some (.int .i64 x.drops) := fun z => ((HLay.out.1.trans ((HOF.out z).mono HLay.out.1.size)).cell (p := ⟨ba, oa + k * 4 + 3, none⟩) HBA.out).trans HC3.out
  have hka := HKA.out
  simp only [pickB]
  repeat (gi_big_quiet_step (fail))
  refine wpQuietIn_nil ?_
  exact rfl
 intro bN W3 hW hbg hbb hbi
 replace HLay := Lib.hid (HLay.out.below hW)
 have c0 := hbb.cell 0
 have z0 := hbb.frozen 0
 have c1 := hbb.cell 1
 have z1 := hbb.frozen 1
 have c2 := hbb.cell 2
 have z2 := hbb.frozen 2
 have c3 := hbb.cell 3
 have z3 := hbb.frozen 3
 have hbl := hbb.lt
 have hbw : w.heap.size ≤ bN := Nat.le_trans (HLay0.out.1.size) hbg
 simp only [pickB]
 refine wpT_cons ?_
 gi_wp2
 refine wpT_nil ?_
 have R3 := ret4' hbb (Below.refl bN W3) (Nat.le_refl _) (.int .i64 x.kind) (.int .i64 x.fr) (.int .i64 x.to) (.int .i64 x.drops)
 have HLay9 := Lib.hid (Lay.add (w := w) (bs := []) ⟨HLay.out.1.trans (R3.2.1.mono hbw), fun p hp => ⟨(HLay.out.2 p hp).1, (HLay.out.2 p hp).2.below R3.2.1 (by have := (HLay0.out.2 p hp).2.lt; omega)⟩⟩ hbw R3.1)
 generalize ((((W3.setCell ⟨bN, 0, none⟩ (.int .i64 x.kind)).setCell ⟨bN, 1, none⟩ (.int .i64 x.fr)).setCell ⟨bN, 2, none⟩ (.int .i64 x.to)).setCell ⟨bN, 3, none⟩ (.int .i64 x.drops)) = W99 at *
 clear c0 z0 c1 z1 c2 z2 c3 z3 hbl hbb hW hbg R3
 replace HLay := HLay9
 obtain ⟨n0, hn0⟩ : ∃ n0, sizeA T.m all x = n0 := ⟨_, rfl⟩
 have HN0 := Lib.hid hn0
 have HNR : Hid (0 ≤ n0 ∧ n0 ≤ 2000) := Lib.hid (by rw [← hn0]; exact HA.out.size)
 rw [hn0]
 clear hn0
 have x0_0 := (HLay.out.blk 0 rfl).cell 0
 have x0_1 := (HLay.out.blk 0 rfl).cell 1
 have x0_2 := (HLay.out.blk 0 rfl).cell 2
 have x0_3 := (HLay.out.blk 0 rfl).cell 3
 have l0_ := HLay.out.lt 0 rfl
 have a0 := (HIN.out.below HLay.out.1).t.cell 0
 have al := (HIN.out.below HLay.out.1).t.lt
 gi_wp2
 clear a0 al
 clear x0_0 x0_1 x0_2 x0_3 l0_
 refine ⟨trivial, fun _ => by omega, (callsIn_wide.2 (callsIn_wide.1 (ends_in T x W99 (HIN.out.below HLay.out.1).tb HA.out.kindOk))).mono ?_⟩
 rintro e W4 ⟨rfl, hb⟩
 replace HLay := Lib.hid (HLay.out.below hb)
 clear hb
 obtain ⟨fr, hfr⟩ : ∃ fr, fromI T.m x = fr := ⟨_, rfl⟩
 obtain ⟨to, hto⟩ : ∃ to, toI T.m x = to := ⟨_, rfl⟩
 have HFT := Lib.hid (And.intro hfr hto)
 rw [hfr, hto]
 obtain ⟨lo, hlo⟩ : ∃ lo, (spanP T.m x f all has).1 = lo := ⟨_, rfl⟩
 obtain ⟨hi, hhi⟩ : ∃ hi, (spanP T.m x f all has).2 = hi := ⟨_, rfl⟩
 have HLH := Lib.hid (And.intro hlo hhi)
 have HSP : Hid (spanP T.m x f all has = if 0 ≤ fr then (max 0 (n0 - (heldAt all fr - heldAt has fr)), min n0 (heldAt has fr)) else if x.fr = f then (n0, n0) else (0, 0)) := Lib.hid (by unfold spanP; rw [hfr, HN0.out])
 have HBD : Hid ((-1 ≤ fr ∧ fr < 4) ∧ (-1 ≤ to ∧ to < 4)) := Lib.hid (by rw [← hfr, ← hto]; exact ⟨⟨fromI_ge x, HFR.out⟩, ⟨toI_ge x, HTO.out⟩⟩)
 clear hfr hto hlo hhi
 by_cases h0 : 0 ≤ fr
 ·
  obtain ⟨q, rfl⟩ : ∃ q : Nat, fr = q := ⟨fr.toNat, by omega⟩
  have hq4 : q < 4 := by have := HBD.out.1; omega
  have HLO : Hid (lo = max 0 (n0 - (heldAt all q - heldAt has q)) ∧ hi = min n0 (heldAt has q)) := Lib.hid (by
   have h := HSP.out
   rw [if_pos h0] at h
   rw [← HLH.out.1, ← HLH.out.2, h]
   exact ⟨rfl, rfl⟩)
  have HE := Lib.hid (HCE.out q _ (heldC_l all hq4))
  have HQ4 := Lib.hid hq4
  have HAQ : Hid (0 ≤ heldAt all q ∧ heldAt all q ≤ 12 ∧ 0 ≤ heldAt has q ∧ heldAt has q ≤ 12) := Lib.hid (by have h1 := HA.out.rng q; have h2 := HFI.out.le q hq4; exact ⟨h1.1, h1.2, h2.1, by omega⟩)
  have hnr := HNR.out
  have haq := HAQ.out
  clear h0
  gi_wp2
  refine wpIn_flow_old [] [true, true, true, true, true, true, true, true, true, true, true, true, true, true] [] (by kernel_rfl) (by kernel_rfl) (by kernel_rfl) (below_drewN (Below.refl _ _) 1) ?_
  refine wpFlow_nil (A := ?AF3) ?hq3 ?_
  case hq3 =>
   rintro σ hσ of hof hcl
   have HOF := Lib.hid hof
   have HCL := Lib.hid hcl
   clear hof hcl
   have hfw : ∀ f, Fence.wide.fn f := fun _ => trivial
   have a0 : ∀ z, (of z).cell? ⟨g0, 0, none⟩ = some (.pointer (some ⟨T.g, 0, none⟩)) := fun z => (HIN.out.below (HLay.out.1.trans ((HOF.out z).mono HLay.out.1.size))).t.cell 0
   have a1 : ∀ z, (of z).cell? ⟨g1, 0, none⟩ = some (.int .i64 (k : Int)) := fun z => (HIN.out.below (HLay.out.1.trans ((HOF.out z).mono HLay.out.1.size))).i.cell 0
   have t4 : ∀ z, (of z).cell? ⟨T.g, 4, none⟩ = some (.slice (some ⟨bl, ol, none⟩) T.nl T.cl) := fun z => by rw [← HAL.out]; exact (HIN.out.below (HLay.out.1.trans ((HOF.out z).mono HLay.out.1.size))).tb.blk.cell 4
   have ce : ∀ z, (of z).cell? ⟨bl, ol + k * 4 + q, none⟩ = some (.int .i64 (heldAt all (q : Int))) := fun z => ((HLay.out.1.trans ((HOF.out z).mono HLay.out.1.size)).cell (p := ⟨bl, ol + k * 4 + q, none⟩) HBL.out).trans HE.out
   have ch : ∀ z, (of z).cell? ⟨g3, q, none⟩ = some (.int .i64 (heldAt has (q : Int))) := fun z => ((HIN.out.below (HLay.out.1.trans ((HOF.out z).mono HLay.out.1.size))).h.cell q).trans (held_at has HQ4.out)
   have hkl := HKL.out
   simp only [pickB]
   repeat (gi_big_quiet_step (fail))
   refine wpQuietIn_nil ?_
   exact rfl
  intro W5 hW
  replace HLay := Lib.hid (HLay.out.below hW)
  clear hW
  simp only [pickB]
  refine wpT_nil ?_
  gi_wp2
  refine wpIn_flow_old [] [true, true, true, true, true, true, true, true, true, true, true] [] (by kernel_rfl) (by kernel_rfl) (by kernel_rfl) (below_drewN (Below.refl _ _) 1) ?_
  refine wpFlow_nil (A := ?AF4) ?hq4 ?_
  case hq4 =>
   rintro σ hσ of hof hcl
   have HOF := Lib.hid hof
   have HCL := Lib.hid hcl
   clear hof hcl
   have hfw : ∀ f, Fence.wide.fn f := fun _ => trivial
   have a0 : ∀ z, (of z).cell? ⟨g0, 0, none⟩ = some (.pointer (some ⟨T.g, 0, none⟩)) := fun z => (HIN.out.below (HLay.out.1.trans ((HOF.out z).mono HLay.out.1.size))).t.cell 0
   have a1 : ∀ z, (of z).cell? ⟨g1, 0, none⟩ = some (.int .i64 (k : Int)) := fun z => (HIN.out.below (HLay.out.1.trans ((HOF.out z).mono HLay.out.1.size))).i.cell 0
   have t4 : ∀ z, (of z).cell? ⟨T.g, 4, none⟩ = some (.slice (some ⟨bl, ol, none⟩) T.nl T.cl) := fun z => by rw [← HAL.out]; exact (HIN.out.below (HLay.out.1.trans ((HOF.out z).mono HLay.out.1.size))).tb.blk.cell 4
   have ce : ∀ z, (of z).cell? ⟨bl, ol + k * 4 + q, none⟩ = some (.int .i64 (heldAt all (q : Int))) := fun z => ((HLay.out.1.trans ((HOF.out z).mono HLay.out.1.size)).cell (p := ⟨bl, ol + k * 4 + q, none⟩) HBL.out).trans HE.out
   have ch : ∀ z, (of z).cell? ⟨g3, q, none⟩ = some (.int .i64 (heldAt has (q : Int))) := fun z => ((HIN.out.below (HLay.out.1.trans ((HOF.out z).mono HLay.out.1.size))).h.cell q).trans (held_at has HQ4.out)
   have hkl := HKL.out
   simp only [pickB]
   repeat (gi_big_quiet_step (fail))
   refine wpQuietIn_nil ?_
   exact rfl
  intro W6 hW
  replace HLay := Lib.hid (HLay.out.below hW)
  clear hW
  simp only [pickB]
  refine wpT_nil ?_
  gi_wp2
  rw [← HLO.out.1, ← HLO.out.2]
  have HLR : Hid (0 ≤ lo ∧ hi ≤ 2000) := Lib.hid (by have h1 := HLO.out; omega)
  have HWL := Lib.hid HLay.out.1
  clear HLay9 HLay0 HLay
  generalize W6 = WL at *
  clear hnr haq hq4
  obtain ⟨fr, hfr⟩ : ∃ fr, (q : Int) = fr := ⟨_, rfl⟩
  simp only [hfr] at *
  gi_loopw [13] (fun v13 wr => ∃ (j : Int) (pre : List (Mv T.m x f all has)), v13 = .int .i64 j ∧ lo ≤ j ∧ (j ≤ hi + 1 ∨ j = lo) ∧ Hid (pre.length = (j - lo).toNat ∧ (∀ i, lo ≤ i → i < j → ∃ y ∈ pre, y.1 = i) ∧ J pre wr ∧ Blk wr g3 74 #[.int .i64 (heldAt has 0), .int .i64 (heldAt has 1), .int .i64 (heldAt has 2), .int .i64 (heldAt has 3)])) (fun v13 _ => (hi + 1 - intOf v13).toNat)
  case atStart => exact ⟨lo, [], rfl, Int.le_refl _, .inr rfl, Lib.hid ⟨by simp, (fun i h1 h2 => by omega), HJ.out _ _ _ none H0.out (grown_of_below HWL.out none) (fun r e => by cases e), (HIN.out.below HWL.out).h⟩⟩
  case round =>
   obtain ⟨j, pre, rfl, hj1, hj2, HS⟩ := hrel
   have HHJ := Lib.hid (And.intro hj1 hj2)
   have hlr : 0 ≤ (lo : Int) ∧ (hi : Int) ≤ 2000 := HLR.out
   by_cases hlt : j ≤ hi
   ·have x0 := HS.out.2.2.2.cell 0
    have x1 := HS.out.2.2.2.cell 1
    have x2 := HS.out.2.2.2.cell 2
    have x3 := HS.out.2.2.2.cell 3
    have xl := HS.out.2.2.2.lt
    have HLT := Lib.hid hlt
    gi_wp2
    clear x0 x1 x2 x3 xl
    refine ⟨trivial, fun _ => by omega, (callsIn_wide.2 (shift_any has fr to j wr HFI.out.lh (fun q => by
     by_cases hq : q < 4
     ·have h1 := HFI.out.le q hq; have h2 := HA.out.rng q; omega
     ·unfold heldAt; rw [List.getElem?_eq_none (by rw [HFI.out.lh]; omega)]; decide) (by omega) HBD.out.1 HBD.out.2 (by rw [← HFT.out.1, ← HFT.out.2]; exact HA.out.apart))).mono ?_⟩
    rintro e W7 ⟨rfl, hb7⟩
    have hj7 := HJ.out pre wr W7 none HS.out.2.2.1 (grown_of_below hb7 none) (fun r e => by cases e)
    have HI7 := Lib.hid (HS.out.2.2.2.below hb7 HS.out.2.2.2.lt)
    have hY := HY.out pre ⟨j, by rw [HLH.out.1, HLH.out.2]; exact ⟨hj1, hlt⟩⟩ W7 hj7 (by rw [HLH.out.1, HLH.out.2, HS.out.1]; omega)
    unfold Mv.enc at hY
    rw [HFT.out.1, HFT.out.2] at hY
    dsimp only at hY
    obtain ⟨fn, tmps, assign, body, hy, hR⟩ := hY
    have HR := Lib.hid hR
    clear hR hj7 hb7
    gi_wp2
    refine ⟨fun _ => by omega, HR.out.mono ?_⟩
    rintro e W8 (⟨rfl, hj8, hk8⟩ | ⟨rfl, hjx⟩)
    ·have HJ8 := Lib.hid hj8
     have HI8 := Lib.hid (hk8 HI7.out)
     clear hj8 hk8 hy
     gi_wp2
     go_roundw
     case rel => exact ⟨j + 1, pre ++ [⟨j, by rw [HLH.out.1, HLH.out.2]; exact ⟨HHJ.out.1, HLT.out⟩⟩], rfl, by have := HHJ.out; omega, .inl (by have := HLT.out; omega), Lib.hid ⟨by rw [List.length_append, HS.out.1, List.length_singleton]; have := HHJ.out; omega, fun i h1 h2 => by
      by_cases e : i = j
      ·exact ⟨_, List.mem_append_right _ (List.mem_singleton_self _), e.symm⟩
      ·obtain ⟨y, hy, he⟩ := HS.out.2.1 i h1 (by omega)
       exact ⟨y, by simp [hy], he⟩, HJ8.out, HI8.out⟩⟩
     case measure => have := HHJ.out; have := HLT.out; simp only [intOf]; omega
    ·have HJX := Lib.hid hjx
     clear hjx hy
     gi_wp2
     refine bodyPost_ret (results_none rfl _ _ _) rfl ?_
     exact ⟨⟨_, rfl⟩, .inr ⟨_, trivial, HJX.out⟩⟩
   ·gi_wp2
    go_end0
    exact ⟨⟨_, rfl⟩, .inl ⟨pre, fun (i : Int) h1 h2 => HS.out.2.1 i (by rw [← HLH.out.1]; exact h1) (by have := HLH.out.2; omega), HS.out.2.2.1⟩⟩
 ·
  have h0c : fr < 0 := by omega
  by_cases hf : x.fr = f
  ·
   replace HLH : Hid ((spanP T.m x f all has).1 = n0 ∧ (spanP T.m x f all has).2 = n0) := Lib.hid (by
    have h := HSP.out
    rw [if_neg (by omega), if_pos hf] at h
    rw [h]
    exact ⟨rfl, rfl⟩)
   have hfb : (x.fr == f) = true := by simpa using hf
   have hfb2 : (x.fr != f) = false := by simpa using hf
   have x0_0 := (HLay.out.blk 0 rfl).cell 0
   have x0_1 := (HLay.out.blk 0 rfl).cell 1
   have x0_2 := (HLay.out.blk 0 rfl).cell 2
   have x0_3 := (HLay.out.blk 0 rfl).cell 3
   have l0_ := HLay.out.lt 0 rfl
   have c1 := (HIN.out.below HLay.out.1).f.cell 0
   have c1l := (HIN.out.below HLay.out.1).f.lt
   have hnr := HNR.out
   gi_wp2
   clear c1 c1l hfb hfb2
   clear x0_0 x0_1 x0_2 x0_3 l0_
   have HLR : Hid (0 ≤ n0 ∧ n0 ≤ 2000) := Lib.hid (by have h2 := HNR.out; omega)
   have HWL := Lib.hid HLay.out.1
   clear HLay9 HLay0 HLay
   generalize W4 = WL at *
   clear h0 h0c hf hnr
   gi_loopw [13] (fun v13 wr => ∃ (j : Int) (pre : List (Mv T.m x f all has)), v13 = .int .i64 j ∧ n0 ≤ j ∧ (j ≤ n0 + 1 ∨ j = n0) ∧ Hid (pre.length = (j - n0).toNat ∧ (∀ i, n0 ≤ i → i < j → ∃ y ∈ pre, y.1 = i) ∧ J pre wr ∧ Blk wr g3 74 #[.int .i64 (heldAt has 0), .int .i64 (heldAt has 1), .int .i64 (heldAt has 2), .int .i64 (heldAt has 3)])) (fun v13 _ => (n0 + 1 - intOf v13).toNat)
   case atStart => exact ⟨n0, [], rfl, Int.le_refl _, .inr rfl, Lib.hid ⟨by simp, (fun i h1 h2 => by omega), HJ.out _ _ _ none H0.out (grown_of_below HWL.out none) (fun r e => by cases e), (HIN.out.below HWL.out).h⟩⟩
   case round =>
    obtain ⟨j, pre, rfl, hj1, hj2, HS⟩ := hrel
    have HHJ := Lib.hid (And.intro hj1 hj2)
    have hlr : 0 ≤ (n0 : Int) ∧ (n0 : Int) ≤ 2000 := HLR.out
    by_cases hlt : j ≤ n0
    ·have x0 := HS.out.2.2.2.cell 0
     have x1 := HS.out.2.2.2.cell 1
     have x2 := HS.out.2.2.2.cell 2
     have x3 := HS.out.2.2.2.cell 3
     have xl := HS.out.2.2.2.lt
     have HLT := Lib.hid hlt
     gi_wp2
     clear x0 x1 x2 x3 xl
     refine ⟨trivial, fun _ => by omega, (callsIn_wide.2 (shift_any has fr to j wr HFI.out.lh (fun q => by
      by_cases hq : q < 4
      ·have h1 := HFI.out.le q hq; have h2 := HA.out.rng q; omega
      ·unfold heldAt; rw [List.getElem?_eq_none (by rw [HFI.out.lh]; omega)]; decide) (by omega) HBD.out.1 HBD.out.2 (by rw [← HFT.out.1, ← HFT.out.2]; exact HA.out.apart))).mono ?_⟩
     rintro e W7 ⟨rfl, hb7⟩
     have hj7 := HJ.out pre wr W7 none HS.out.2.2.1 (grown_of_below hb7 none) (fun r e => by cases e)
     have HI7 := Lib.hid (HS.out.2.2.2.below hb7 HS.out.2.2.2.lt)
     have hY := HY.out pre ⟨j, by rw [HLH.out.1, HLH.out.2]; exact ⟨hj1, hlt⟩⟩ W7 hj7 (by rw [HLH.out.1, HLH.out.2, HS.out.1]; omega)
     unfold Mv.enc at hY
     rw [HFT.out.1, HFT.out.2] at hY
     dsimp only at hY
     obtain ⟨fn, tmps, assign, body, hy, hR⟩ := hY
     have HR := Lib.hid hR
     clear hR hj7 hb7
     gi_wp2
     refine ⟨fun _ => by omega, HR.out.mono ?_⟩
     rintro e W8 (⟨rfl, hj8, hk8⟩ | ⟨rfl, hjx⟩)
     ·have HJ8 := Lib.hid hj8
      have HI8 := Lib.hid (hk8 HI7.out)
      clear hj8 hk8 hy
      gi_wp2
      go_roundw
      case rel => exact ⟨j + 1, pre ++ [⟨j, by rw [HLH.out.1, HLH.out.2]; exact ⟨HHJ.out.1, HLT.out⟩⟩], rfl, by have := HHJ.out; omega, .inl (by have := HLT.out; omega), Lib.hid ⟨by rw [List.length_append, HS.out.1, List.length_singleton]; have := HHJ.out; omega, fun i h1 h2 => by
       by_cases e : i = j
       ·exact ⟨_, List.mem_append_right _ (List.mem_singleton_self _), e.symm⟩
       ·obtain ⟨y, hy, he⟩ := HS.out.2.1 i h1 (by omega)
        exact ⟨y, by simp [hy], he⟩, HJ8.out, HI8.out⟩⟩
      case measure => have := HHJ.out; have := HLT.out; simp only [intOf]; omega
     ·have HJX := Lib.hid hjx
      clear hjx hy
      gi_wp2
      refine bodyPost_ret (results_none rfl _ _ _) rfl ?_
      exact ⟨⟨_, rfl⟩, .inr ⟨_, trivial, HJX.out⟩⟩
    ·gi_wp2
     go_end0
     exact ⟨⟨_, rfl⟩, .inl ⟨pre, fun (i : Int) h1 h2 => HS.out.2.1 i (by rw [← HLH.out.1]; exact h1) (by have := HLH.out.2; omega), HS.out.2.2.1⟩⟩
  ·
   replace HLH : Hid ((spanP T.m x f all has).1 = 0 ∧ (spanP T.m x f all has).2 = 0) := Lib.hid (by
    have h := HSP.out
    rw [if_neg (by omega), if_neg hf] at h
    rw [h]
    exact ⟨rfl, rfl⟩)
   have hfb : (x.fr == f) = false := by simpa using hf
   have hfb2 : (x.fr != f) = true := by simpa using hf
   have x0_0 := (HLay.out.blk 0 rfl).cell 0
   have x0_1 := (HLay.out.blk 0 rfl).cell 1
   have x0_2 := (HLay.out.blk 0 rfl).cell 2
   have x0_3 := (HLay.out.blk 0 rfl).cell 3
   have l0_ := HLay.out.lt 0 rfl
   have c1 := (HIN.out.below HLay.out.1).f.cell 0
   have c1l := (HIN.out.below HLay.out.1).f.lt
   have hnr := HNR.out
   gi_wp2
   clear c1 c1l hfb hfb2
   clear x0_0 x0_1 x0_2 x0_3 l0_
   have HLR : Hid (0 ≤ (0 : Int) ∧ (0 : Int) ≤ 2000) := Lib.hid (by have h2 := HNR.out; omega)
   have HWL := Lib.hid HLay.out.1
   clear HLay9 HLay0 HLay
   generalize W4 = WL at *
   clear h0 h0c hf hnr
   gi_loopw [13] (fun v13 wr => ∃ (j : Int) (pre : List (Mv T.m x f all has)), v13 = .int .i64 j ∧ 0 ≤ j ∧ (j ≤ 0 + 1 ∨ j = 0) ∧ Hid (pre.length = (j - 0).toNat ∧ (∀ i, 0 ≤ i → i < j → ∃ y ∈ pre, y.1 = i) ∧ J pre wr ∧ Blk wr g3 74 #[.int .i64 (heldAt has 0), .int .i64 (heldAt has 1), .int .i64 (heldAt has 2), .int .i64 (heldAt has 3)])) (fun v13 _ => (0 + 1 - intOf v13).toNat)
   case atStart => exact ⟨0, [], rfl, Int.le_refl _, .inr rfl, Lib.hid ⟨by simp, (fun i h1 h2 => by omega), HJ.out _ _ _ none H0.out (grown_of_below HWL.out none) (fun r e => by cases e), (HIN.out.below HWL.out).h⟩⟩
   case round =>
    obtain ⟨j, pre, rfl, hj1, hj2, HS⟩ := hrel
    have HHJ := Lib.hid (And.intro hj1 hj2)
    have hlr : 0 ≤ (0 : Int) ∧ (0 : Int) ≤ 2000 := HLR.out
    by_cases hlt : j ≤ 0
    ·have x0 := HS.out.2.2.2.cell 0
     have x1 := HS.out.2.2.2.cell 1
     have x2 := HS.out.2.2.2.cell 2
     have x3 := HS.out.2.2.2.cell 3
     have xl := HS.out.2.2.2.lt
     have HLT := Lib.hid hlt
     gi_wp2
     clear x0 x1 x2 x3 xl
     refine ⟨trivial, fun _ => by omega, (callsIn_wide.2 (shift_any has fr to j wr HFI.out.lh (fun q => by
      by_cases hq : q < 4
      ·have h1 := HFI.out.le q hq; have h2 := HA.out.rng q; omega
      ·unfold heldAt; rw [List.getElem?_eq_none (by rw [HFI.out.lh]; omega)]; decide) (by omega) HBD.out.1 HBD.out.2 (by rw [← HFT.out.1, ← HFT.out.2]; exact HA.out.apart))).mono ?_⟩
     rintro e W7 ⟨rfl, hb7⟩
     have hj7 := HJ.out pre wr W7 none HS.out.2.2.1 (grown_of_below hb7 none) (fun r e => by cases e)
     have HI7 := Lib.hid (HS.out.2.2.2.below hb7 HS.out.2.2.2.lt)
     have hY := HY.out pre ⟨j, by rw [HLH.out.1, HLH.out.2]; exact ⟨hj1, hlt⟩⟩ W7 hj7 (by rw [HLH.out.1, HLH.out.2, HS.out.1]; omega)
     unfold Mv.enc at hY
     rw [HFT.out.1, HFT.out.2] at hY
     dsimp only at hY
     obtain ⟨fn, tmps, assign, body, hy, hR⟩ := hY
     have HR := Lib.hid hR
     clear hR hj7 hb7
     gi_wp2
     refine ⟨fun _ => by omega, HR.out.mono ?_⟩
     rintro e W8 (⟨rfl, hj8, hk8⟩ | ⟨rfl, hjx⟩)
     ·have HJ8 := Lib.hid hj8
      have HI8 := Lib.hid (hk8 HI7.out)
      clear hj8 hk8 hy
      gi_wp2
      go_roundw
      case rel => exact ⟨j + 1, pre ++ [⟨j, by rw [HLH.out.1, HLH.out.2]; exact ⟨HHJ.out.1, HLT.out⟩⟩], rfl, by have := HHJ.out; omega, .inl (by have := HLT.out; omega), Lib.hid ⟨by rw [List.length_append, HS.out.1, List.length_singleton]; have := HHJ.out; omega, fun i h1 h2 => by
       by_cases e : i = j
       ·exact ⟨_, List.mem_append_right _ (List.mem_singleton_self _), e.symm⟩
       ·obtain ⟨y, hy, he⟩ := HS.out.2.1 i h1 (by omega)
        exact ⟨y, by simp [hy], he⟩, HJ8.out, HI8.out⟩⟩
      case measure => have := HHJ.out; have := HLT.out; simp only [intOf]; omega
     ·have HJX := Lib.hid hjx
      clear hjx hy
      gi_wp2
      refine bodyPost_ret (results_none rfl _ _ _) rfl ?_
      exact ⟨⟨_, rfl⟩, .inr ⟨_, trivial, HJX.out⟩⟩
    ·gi_wp2
     go_end0
     exact ⟨⟨_, rfl⟩, .inl ⟨pre, fun (i : Int) h1 h2 => HS.out.2.1 i (by rw [← HLH.out.1]; exact h1) (by have := HLH.out.2; omega), HS.out.2.2.1⟩⟩

end Go.Proofs.YtjdgdeiedkickaaDoor.Mx
/- slices.Clone at vessels, acts, tastes. -/
namespace Go.Proofs.YtjdgdeiedkickaaDoor.Mx
open Go.RowKit

theorem info_act : (Tryd.prog.info? 43).map (fun i => (i.zero, i.size, i.bytes)) = some (some (.agg #[.int .i64 0, .int .i64 0, .int .i64 0, .int .i64 0]), 4, 32) := by kernel_rfl
theorem elem_act : ElemAt Tryd.prog 44 43 (.agg #[.int .i64 0, .int .i64 0, .int .i64 0, .int .i64 0]) 4 32 := by
 obtain ⟨i0, hi, hz0, hz1, hz2⟩ := info_parts info_act
 exact ⟨i0, Tryd.underlying44, hi, hz0, hz1, hz2, rfl, by decide⟩
end Go.Proofs.YtjdgdeiedkickaaDoor.Mx
/- slices.IndexFunc at tastes. -/
namespace Go.Proofs.YtjdgdeiedkickaaDoor.Mx
open Go.RowKit

/-- A slice of tastes. -/
def TastsAt (w : World) (B : Nat) (A : Option Addr) (n : Nat) (l : List Tast) : Prop := Reads w B 6 A n (l.flatMap Tast.vals)
section
variable {w w' : World} {B B' n : Nat} {A : Option Addr} {l : List Tast}
theorem TastsAt.len (h : TastsAt w B A n l) : l.length = n := recs_n tast_k (by omega) h
theorem TastsAt.below (h : TastsAt w B A n l) (hb : Below B w w') : TastsAt w' B A n l := Reads.below h hb
theorem TastsAt.more (h : TastsAt w B A n l) (hB : B ≤ B') : TastsAt w B' A n l := Reads.more h hB
theorem TastsAt.cell (h : TastsAt w B A n l) {k : Nat} (hk : k < n) : ∃ b off x, A = some ⟨b, off, none⟩ ∧ b < B ∧ l[k]? = some x ∧ w.cell? ⟨b, off + k * 6, none⟩ = some (.int .i64 x.num) ∧ w.cell? ⟨b, off + k * 6 + 1, none⟩ = some (.int .i64 x.vessel) ∧ w.cell? ⟨b, off + k * 6 + 2, none⟩ = some (.int .i64 x.after)
  ∧ w.cell? ⟨b, off + k * 6 + 3, none⟩ = some (.int .i64 x.fountain) ∧ w.cell? ⟨b, off + k * 6 + 4, none⟩ = some (.int .i64 x.lo) ∧ w.cell? ⟨b, off + k * 6 + 5, none⟩ = some (.int .i64 x.hi) := by
 obtain ⟨b, off, x, e, hb, hx, hc⟩ := recs_cell tast_k (by omega) h hk
 exact ⟨b, off, x, e, hb, hx, hc 0 _ rfl, hc 1 _ rfl, hc 2 _ rfl, hc 3 _ rfl, hc 4 _ rfl, hc 5 _ rfl⟩
end
@[reducible] def tastW (x : Tast) : Value := .agg #[.int .i64 x.num, .int .i64 x.vessel, .int .i64 x.after, .int .i64 x.fountain, .int .i64 x.lo, .int .i64 x.hi]

/-- The first place at which something is so; -1 if there is none. -/
def idxL {α : Type} (p : α → Bool) (l : List α) : Int := if l.any p then (l.findIdx p : Int) else -1
theorem idxL_none {α : Type} {p : α → Bool} {l : List α} (h : ∀ y ∈ l, p y = false) : idxL p l = -1 := by
 unfold idxL
 rw [if_neg]
 simp only [List.any_eq_true, not_exists, not_and, Bool.not_eq_true]
 exact h
theorem idxL_some {α : Type} {p : α → Bool} {l : List α} {k : Nat} {x : α} (hx : l[k]? = some x) (hp : p x = true) (h : ∀ y ∈ l.take k, p y = false) : idxL p l = k := by
 obtain ⟨hk, rfl⟩ := List.getElem?_eq_some_iff.1 hx
 have hf : l.findIdx p = k := by
  rw [List.findIdx_eq hk]
  refine ⟨hp, fun j hj => ?_⟩
  have := h (l[j]'(by omega)) (by
   rw [List.mem_take_iff_getElem]
   exact ⟨j, by omega, rfl⟩)
  simp [this]
 unfold idxL
 rw [if_pos (List.any_eq_true.2 ⟨_, List.getElem_mem hk, hp⟩), hf]

/-- A predicate on links, as a function value: in all worlds in which the blocks below K lie as in w. -/
structure PredT (w : World) (K : Nat) (F : FuncId) (C : Array Value) (p : Tast → Bool) : Prop where
 enters : ∀ args W, (callFunc F args).run Tryd.prog W = .ok (.enter F args) W
 calls : ∀ x W, Below K w W → Calls Tryd.prog F (#[.agg #[.int .i64 x.num, .int .i64 x.vessel, .int .i64 x.after, .int .i64 x.fountain, .int .i64 x.lo, .int .i64 x.hi]] ++ C) W fun e w' => e = .returned (.bool (p x)) ∧ Below W.heap.size W w'
theorem PredT.below {w w' : World} {K : Nat} {F : FuncId} {C : Array Value} {p : Tast → Bool} (h : PredT w K F C p) (hb : Below K w w') : PredT w' K F C p :=
 ⟨h.enters, fun x W hW => h.calls x W (hb.trans hW)⟩

set_option maxRecDepth 100000 in
set_option maxHeartbeats 2000000 in
theorem indexFunc_tastM (F : FuncId) (C : Array Value) (p : Tast → Bool) (A : Option Addr) (n c : Nat) (l : List Tast) (w : World) (hr : TastsAt w w.heap.size A n l) (hn : n ≤ maxLen) (hE : ∀ args W, (callFunc F args).run Tryd.prog W = .ok (.enter F args) W)
  (hF : ∀ x ∈ l, ∀ W, Below w.heap.size w W → Calls Tryd.prog F (#[.agg #[.int .i64 x.num, .int .i64 x.vessel, .int .i64 x.after, .int .i64 x.fountain, .int .i64 x.lo, .int .i64 x.hi]] ++ C) W fun e w' => e = .returned (.bool (p x)) ∧ Below W.heap.size W w') :
  Calls Tryd.prog 80 #[.slice A n c, .func (.func F) #[] C] w fun e w' => e = .returned (.int .i64 (idxL p l)) ∧ Below w.heap.size w w' := by
 unfold maxLen at hn
 have HF := Lib.hid hF
 clear hF
 go_enter Tryd.func80, Tryd.ntmps80
 go_wp2_with fail
 go_loopw [8, 5] (fun i j wr => ∃ k : Nat, k ≤ n ∧ i = .int .i64 k ∧ (∀ y ∈ l.take k, p y = false) ∧ Below w.heap.size w wr)
  (fun i _ _ => n - (intOf i).toNat)
 case atStart => exact ⟨0, by omega, rfl, by simp, Below.refl _ _⟩
 case round =>
  obtain ⟨k, hk, rfl, hno, hb⟩ := hrel
  have HN := Lib.hid hno
  clear hno
  by_cases hlt : k < n
  ·obtain ⟨b, off, x, rfl, hbB, hx, hc0, hc1, hc2, hc3, hc4, hc5⟩ := (hr.below hb).cell hlt
   have HX := Lib.hid hx
   clear hx
   go_wp2_with fail
   refine (HF.out x (mem_of_at HX.out) _ hb).mono ?_
   rintro e w' ⟨rfl, hb'⟩
   cases hp : p x with
   | true =>
    have HP := Lib.hid hp
    clear hp
    go_wp2_with fail
    go_ret
    exact ⟨ret_int (idxL_some HX.out HP.out HN.out).symm, hb.trans (hb'.mono hb.size)⟩
   | false =>
    have HP := Lib.hid hp
    clear hp
    go_wp2_with fail
    go_roundw
    case rel => exact ⟨k + 1, by omega, by go_num, take_snoc_all HX.out HP.out HN.out, hb.trans (hb'.mono hb.size)⟩
    case measure => simp [intOf]; omega
  ·go_wp2_with fail
   go_ret
   exact ⟨ret_int (idxL_none (by
    have := HN.out
    rwa [List.take_of_length_le (by have := hr.len; omega)] at this)).symm, hb⟩
end Go.Proofs.YtjdgdeiedkickaaDoor.Mx
/- What was tasted of a fountain: mix.truths.tastes. -/
namespace Go.Proofs.YtjdgdeiedkickaaDoor.Mx
open Go.RowKit
/-- A fountain's truths in the making: their block, and the table. -/
def trC (T : Tb) (f : Int) (As : Option Addr) (ns cs : Nat) : Array Value := #[.pointer (some ⟨T.g, 0, none⟩), .int .i64 f, .slice As ns cs]
/-- Whether a taste lets this be. -/
def tasteB (m : Mix) (f : Int) (t : Int) (has : Held) (x : Tast) : Bool := decide (x.fountain = f) && decide (x.after = t) && !(decide (x.lo ≤ heldAt has (idxV m.vessels x.vessel)) && decide (heldAt has (idxV m.vessels x.vessel) ≤ x.hi))
theorem tasted_any (m : Mix) (f : Int) (t : Nat) (has : Held) : tastedB m f t has = !m.tastes.any (tasteB m f t has) := by
 unfold tastedB tasteB
 rw [List.not_any_eq_all_not]
theorem idxL_ge {α : Type} {p : α → Bool} {l : List α} : decide (0 ≤ idxL p l) = l.any p := by
 unfold idxL
 cases h : l.any p <;> simp
set_option maxHeartbeats 1000000 in
theorem containsFunc_tast (F : FuncId) (C : Array Value) (p : Tast → Bool) (A : Option Addr) (n c : Nat) (l : List Tast) (w : World) (hr : TastsAt w w.heap.size A n l) (hn : n ≤ maxLen)
  (hE : ∀ args W, (callFunc F args).run Tryd.prog W = .ok (.enter F args) W)
  (hF : ∀ x ∈ l, ∀ W, Below w.heap.size w W → Calls Tryd.prog F (#[.agg #[.int .i64 x.num, .int .i64 x.vessel, .int .i64 x.after, .int .i64 x.fountain, .int .i64 x.lo, .int .i64 x.hi]] ++ C) W fun e w' => e = .returned (.bool (p x)) ∧ Below W.heap.size W w') :
  Calls Tryd.prog 72 #[.slice A n c, .func (.func F) #[] C] w fun e w' => e = .returned (.bool (l.any p)) ∧ Below w.heap.size w w' := by
 have H := Lib.hid (indexFunc_tastM F C p A n c l w hr hn hE hF)
 clear hE hF
 go_enter Tryd.func72, Tryd.ntmps72
 go_wp2_with fail
 refine H.out.mono ?_
 rintro e w' ⟨rfl, hb⟩
 go_wp2_with fail
 go_ret
 exact ⟨ret_bool idxL_ge, hb⟩

set_option maxRecDepth 100000 in
set_option maxHeartbeats 8000000 in
theorem tastes1_in (T : Tb) (f : Int) (As : Option Addr) (ns cs : Nat) (x : Tast) (t : Int) (has : Held) (gU g1 g2 g3 : Nat) (w : World) (hT : TbAt w T) (hU : Blk w gU 84 (trC T f As ns cs))
  (h1 : Blk w g1 78 #[.pointer (some ⟨gU, 0, none⟩)]) (h2 : Blk w g2 3 #[.int .i64 t]) (h3 : Blk w g3 74 #[.int .i64 (heldAt has 0), .int .i64 (heldAt has 1), .int .i64 (heldAt has 2), .int .i64 (heldAt has 3)]) (hx : 0 ≤ idxV T.m.vessels x.vessel ∧ idxV T.m.vessels x.vessel < 4) :
  CallsIn Fence.wide 9 Tryd.prog 73 (#[.agg #[.int .i64 x.num, .int .i64 x.vessel, .int .i64 x.after, .int .i64 x.fountain, .int .i64 x.lo, .int .i64 x.hi]] ++ #[.pointer (some ⟨g1, 0, none⟩), .pointer (some ⟨g2, 0, none⟩), .pointer (some ⟨g3, 0, none⟩)]) w fun e w' => e = .returned (.bool (tasteB T.m f t has x)) ∧ Below w.heap.size w w' := by
 have HT := Lib.hid hT
 have HU := Lib.hid hU
 have H1 := Lib.hid h1
 have H2 := Lib.hid h2
 have H3 := Lib.hid h3
 have HX := Lib.hid hx
 clear hT hU h1 h2 h3 hx
 refine callsIn_of_wp Tryd.func73 rfl trivial ?_ rfl
 simp only [Tryd.ntmps73, List.size_toArray, List.length_cons, List.length_nil, Nat.reduceAdd, Nat.reduceSub, Array.replicate_succ, Array.replicate_zero, List.push_toArray, List.append_toArray, List.nil_append, List.cons_append]
 gi_wp2
 have HLay := Lib.hid (Lay.one w 120 #[.int .i64 x.num, .int .i64 x.vessel, .int .i64 x.after, .int .i64 x.fountain, .int .i64 x.lo, .int .i64 x.hi])
 generalize (w.alloc (.cells #[.int .i64 x.num, .int .i64 x.vessel, .int .i64 x.after, .int .i64 x.fountain, .int .i64 x.lo, .int .i64 x.hi] 120)) = w0 at *
 by_cases ha : x.fountain = f
 ·
  by_cases hb : x.after = t
  ·
   obtain ⟨q, hq⟩ : ∃ q : Nat, idxV T.m.vessels x.vessel = q := ⟨(idxV T.m.vessels x.vessel).toNat, by have := HX.out; omega⟩
   have HQ4 : Hid (q < 4) := Lib.hid (by have := HX.out; omega)
   have HQ := Lib.hid hq
   have HAB := Lib.hid (And.intro ha hb)
   have hae : (x.fountain == f) = true := by simpa using ha
   have hbe : (x.after == t) = true := by simpa using hb
   clear ha hb hq
   refine wpIn_flow_old [([true, true, true, true, true, true, true, true, true, true, true, true, true, true, true, true, true, true, true, true, true, true, true, true, true, true], 26), ([false, false, false, false, false, false, false, false, false, false, false, false, false, false, false, false, false, false, false, false, false, false, false, false, false, false, false, true, true], 29), ([], 30)] [false, false, false, false, false, false, false, false, false, false, false, false, false, false, false, false, false, false, false, false, false, false, false, false, false, false, false, false, false, false, false, true, true, true] [] (by kernel_rfl) (by kernel_rfl) (by kernel_rfl) (below_drewN (Below.refl _ _) 1) ?_
   refine wpFlow_cons (A := ?AF1) rfl ?hq1 ?_
   case hq1 =>
    rintro σ hσ of hof hcl
    have HOF := Lib.hid hof
    have HCL := Lib.hid hcl
    clear hof hcl
    have c0_ : ∀ z, (of z).cell? ⟨w.heap.size, 0, none⟩ = some (.int .i64 x.num) := fun z => ((HLay.out.below (HOF.out z)).blk 0 rfl).cell 0
    have c1_ : ∀ z, (of z).cell? ⟨w.heap.size, 1, none⟩ = some (.int .i64 x.vessel) := fun z => ((HLay.out.below (HOF.out z)).blk 0 rfl).cell 1
    have c2_ : ∀ z, (of z).cell? ⟨w.heap.size, 2, none⟩ = some (.int .i64 x.after) := fun z => ((HLay.out.below (HOF.out z)).blk 0 rfl).cell 2
    have c3_ : ∀ z, (of z).cell? ⟨w.heap.size, 3, none⟩ = some (.int .i64 x.fountain) := fun z => ((HLay.out.below (HOF.out z)).blk 0 rfl).cell 3
    have c4_ : ∀ z, (of z).cell? ⟨w.heap.size, 4, none⟩ = some (.int .i64 x.lo) := fun z => ((HLay.out.below (HOF.out z)).blk 0 rfl).cell 4
    have c5_ : ∀ z, (of z).cell? ⟨w.heap.size, 5, none⟩ = some (.int .i64 x.hi) := fun z => ((HLay.out.below (HOF.out z)).blk 0 rfl).cell 5
    have hfw : ∀ f, Fence.wide.fn f := fun _ => trivial
    have b1 : ∀ z, (of z).cell? ⟨g1, 0, none⟩ = some (.pointer (some ⟨gU, 0, none⟩)) := fun z => (H1.out.below (HLay.out.1.trans ((HOF.out z).mono HLay.out.1.size)) H1.out.lt).cell 0
    have b2 : ∀ z, (of z).cell? ⟨g2, 0, none⟩ = some (.int .i64 t) := fun z => (H2.out.below (HLay.out.1.trans ((HOF.out z).mono HLay.out.1.size)) H2.out.lt).cell 0
    have u0 : ∀ z, (of z).cell? ⟨gU, 0, none⟩ = some (.pointer (some ⟨T.g, 0, none⟩)) := fun z => (HU.out.below (HLay.out.1.trans ((HOF.out z).mono HLay.out.1.size)) HU.out.lt).cell 0
    have u1 : ∀ z, (of z).cell? ⟨gU, 1, none⟩ = some (.int .i64 f) := fun z => (HU.out.below (HLay.out.1.trans ((HOF.out z).mono HLay.out.1.size)) HU.out.lt).cell 1
    have e3 : ∀ z, (of z).cell? ⟨g3, q, none⟩ = some (.int .i64 (heldAt has (q : Int))) := fun z => ((H3.out.below (HLay.out.1.trans ((HOF.out z).mono HLay.out.1.size)) H3.out.lt).cell q).trans (held_at has HQ4.out)
    have hq4 := HQ4.out
    simp only [pickB]
    repeat (gi_big_quiet_step (fail))
    refine wpQuietIn_nil ?_
    exact rfl
   intro W1 hW
   replace HLay := Lib.hid (HLay.out.below hW)
   clear hW
   gi_wp2
   refine ⟨trivial, (callsIn_wide.2 (vessel_any T x.vessel W1 (HT.out.below HLay.out.1))).mono ?_⟩
   rintro e W2 ⟨rfl, hb⟩
   replace HLay := Lib.hid (HLay.out.below hb)
   rw [HQ.out]
   gi_wp2
   refine ⟨trivial, hb, ?_⟩
   clear hb
   refine wpFlow_cons (A := ?AF2) rfl ?hq2 ?_
   case hq2 =>
    rintro σ hσ of hof hcl
    have HOF := Lib.hid hof
    have HCL := Lib.hid hcl
    clear hof hcl
    have c0_ : ∀ z, (of z).cell? ⟨w.heap.size, 0, none⟩ = some (.int .i64 x.num) := fun z => ((HLay.out.below (HOF.out z)).blk 0 rfl).cell 0
    have c1_ : ∀ z, (of z).cell? ⟨w.heap.size, 1, none⟩ = some (.int .i64 x.vessel) := fun z => ((HLay.out.below (HOF.out z)).blk 0 rfl).cell 1
    have c2_ : ∀ z, (of z).cell? ⟨w.heap.size, 2, none⟩ = some (.int .i64 x.after) := fun z => ((HLay.out.below (HOF.out z)).blk 0 rfl).cell 2
    have c3_ : ∀ z, (of z).cell? ⟨w.heap.size, 3, none⟩ = some (.int .i64 x.fountain) := fun z => ((HLay.out.below (HOF.out z)).blk 0 rfl).cell 3
    have c4_ : ∀ z, (of z).cell? ⟨w.heap.size, 4, none⟩ = some (.int .i64 x.lo) := fun z => ((HLay.out.below (HOF.out z)).blk 0 rfl).cell 4
    have c5_ : ∀ z, (of z).cell? ⟨w.heap.size, 5, none⟩ = some (.int .i64 x.hi) := fun z => ((HLay.out.below (HOF.out z)).blk 0 rfl).cell 5
    have hfw : ∀ f, Fence.wide.fn f := fun _ => trivial
    have b1 : ∀ z, (of z).cell? ⟨g1, 0, none⟩ = some (.pointer (some ⟨gU, 0, none⟩)) := fun z => (H1.out.below (HLay.out.1.trans ((HOF.out z).mono HLay.out.1.size)) H1.out.lt).cell 0
    have b2 : ∀ z, (of z).cell? ⟨g2, 0, none⟩ = some (.int .i64 t) := fun z => (H2.out.below (HLay.out.1.trans ((HOF.out z).mono HLay.out.1.size)) H2.out.lt).cell 0
    have u0 : ∀ z, (of z).cell? ⟨gU, 0, none⟩ = some (.pointer (some ⟨T.g, 0, none⟩)) := fun z => (HU.out.below (HLay.out.1.trans ((HOF.out z).mono HLay.out.1.size)) HU.out.lt).cell 0
    have u1 : ∀ z, (of z).cell? ⟨gU, 1, none⟩ = some (.int .i64 f) := fun z => (HU.out.below (HLay.out.1.trans ((HOF.out z).mono HLay.out.1.size)) HU.out.lt).cell 1
    have e3 : ∀ z, (of z).cell? ⟨g3, q, none⟩ = some (.int .i64 (heldAt has (q : Int))) := fun z => ((H3.out.below (HLay.out.1.trans ((HOF.out z).mono HLay.out.1.size)) H3.out.lt).cell q).trans (held_at has HQ4.out)
    have hq4 := HQ4.out
    simp only [pickB]
    repeat (gi_big_quiet_step (fail))
    refine wpQuietIn_nil ?_
    exact rfl
   intro W3 hW
   replace HLay := Lib.hid (HLay.out.below hW)
   clear hW
   gi_wp2
   refine ⟨trivial, (Below.refl _ _).alloc (Nat.le_refl _) _, ?_⟩
   have hb : Below W3.heap.size W3 (W3.alloc (.cells #[.int .i64 (heldAt has (q : Int))] 3)) := (Below.refl _ _).alloc (Nat.le_refl _) _
   replace HLay := Lib.hid (HLay.out.below hb)
   have HPl := Lib.hid (show IntsAt (W3.alloc (.cells #[.int .i64 (heldAt has (q : Int))] 3)) (W3.alloc (.cells #[.int .i64 (heldAt has (q : Int))] 3)).heap.size (some ⟨W3.heap.size, 0, none⟩) 1 [heldAt has (q : Int)] from IntsAt.new W3 3 [heldAt has (q : Int)] _ (by simp))
   obtain ⟨P5, hP⟩ : ∃ P, W3.heap.size = P := ⟨_, rfl⟩
   rw [hP] at HPl ⊢
   generalize (W3.alloc (.cells #[.int .i64 (heldAt has (q : Int))] 3)) = V4 at *
   clear hb hP
   refine wpFlow_cons rfl Quietly.none ?_
   intro W6 hW
   replace HLay := Lib.hid (HLay.out.below hW)
   replace HPl := Lib.hid ((HPl.out.below hW).more hW.size)
   clear hW
   gi_wp2
   refine ⟨trivial, (callsIn_wide.2 (in_any x.lo x.hi (some ⟨P5, 0, none⟩) 1 1 [heldAt has (q : Int)] W6 HPl.out (by decide))).mono ?_⟩
   rintro e W7 ⟨rfl, hb⟩
   replace HLay := Lib.hid (HLay.out.below hb)
   replace HPl := Lib.hid ((HPl.out.below hb).more hb.size)
   gi_wp2
   refine ⟨trivial, hb, ?_⟩
   clear hb
   clear HPl
   refine wpFlow_nil (A := ?AF3) ?hq3 ?_
   case hq3 =>
    rintro σ hσ of hof hcl
    have HOF := Lib.hid hof
    have HCL := Lib.hid hcl
    clear hof hcl
    have c0_ : ∀ z, (of z).cell? ⟨w.heap.size, 0, none⟩ = some (.int .i64 x.num) := fun z => ((HLay.out.below (HOF.out z)).blk 0 rfl).cell 0
    have c1_ : ∀ z, (of z).cell? ⟨w.heap.size, 1, none⟩ = some (.int .i64 x.vessel) := fun z => ((HLay.out.below (HOF.out z)).blk 0 rfl).cell 1
    have c2_ : ∀ z, (of z).cell? ⟨w.heap.size, 2, none⟩ = some (.int .i64 x.after) := fun z => ((HLay.out.below (HOF.out z)).blk 0 rfl).cell 2
    have c3_ : ∀ z, (of z).cell? ⟨w.heap.size, 3, none⟩ = some (.int .i64 x.fountain) := fun z => ((HLay.out.below (HOF.out z)).blk 0 rfl).cell 3
    have c4_ : ∀ z, (of z).cell? ⟨w.heap.size, 4, none⟩ = some (.int .i64 x.lo) := fun z => ((HLay.out.below (HOF.out z)).blk 0 rfl).cell 4
    have c5_ : ∀ z, (of z).cell? ⟨w.heap.size, 5, none⟩ = some (.int .i64 x.hi) := fun z => ((HLay.out.below (HOF.out z)).blk 0 rfl).cell 5
    have hfw : ∀ f, Fence.wide.fn f := fun _ => trivial
    simp only [pickB]
    repeat (gi_big_quiet_step (fail))
    refine wpQuietIn_nil ?_
    exact rfl
   intro W8 hW
   replace HLay := Lib.hid (HLay.out.below hW)
   clear hW
   simp only [pickB]
   refine wpT_nil ?_
   gi_wp2
   have HR : Hid (tasteB T.m f t has x = !inB x.lo x.hi [heldAt has (q : Int)]) := Lib.hid (by
    unfold tasteB
    rw [HQ.out, inB_one, decide_eq_true HAB.out.1, decide_eq_true HAB.out.2, Bool.decide_and]
    rfl)
   refine bodyPost_ret (v := .bool (!inB x.lo x.hi [heldAt has (q : Int)])) (by simp [results, Tryd.results73, go_sem]) rfl ?_
   exact ⟨by rw [HR.out], HLay.out.1⟩
  ·
   have hae : (x.fountain == f) = true := by simpa using ha
   have hbe : (x.after == t) = false := by simpa using hb
   have HR : Hid (tasteB T.m f t has x = false) := Lib.hid (by unfold tasteB; simp; intros; omega)
   refine wpIn_flow_old [] [true, true, true, true, true, true, true, true, true, true, true, true, true, true, true, true, true, true, true, true, true, true, true, true, true, true, true, true, true, true, true, true, true, true] [] (by kernel_rfl) (by kernel_rfl) (by kernel_rfl) (below_drewN (Below.refl _ _) 1) ?_
   refine wpFlow_nil (A := ?AF4) ?hq4 ?_
   case hq4 =>
    rintro σ hσ of hof hcl
    have HOF := Lib.hid hof
    have HCL := Lib.hid hcl
    clear hof hcl
    have c0_ : ∀ z, (of z).cell? ⟨w.heap.size, 0, none⟩ = some (.int .i64 x.num) := fun z => ((HLay.out.below (HOF.out z)).blk 0 rfl).cell 0
    have c1_ : ∀ z, (of z).cell? ⟨w.heap.size, 1, none⟩ = some (.int .i64 x.vessel) := fun z => ((HLay.out.below (HOF.out z)).blk 0 rfl).cell 1
    have c2_ : ∀ z, (of z).cell? ⟨w.heap.size, 2, none⟩ = some (.int .i64 x.after) := fun z => ((HLay.out.below (HOF.out z)).blk 0 rfl).cell 2
    have c3_ : ∀ z, (of z).cell? ⟨w.heap.size, 3, none⟩ = some (.int .i64 x.fountain) := fun z => ((HLay.out.below (HOF.out z)).blk 0 rfl).cell 3
    have c4_ : ∀ z, (of z).cell? ⟨w.heap.size, 4, none⟩ = some (.int .i64 x.lo) := fun z => ((HLay.out.below (HOF.out z)).blk 0 rfl).cell 4
    have c5_ : ∀ z, (of z).cell? ⟨w.heap.size, 5, none⟩ = some (.int .i64 x.hi) := fun z => ((HLay.out.below (HOF.out z)).blk 0 rfl).cell 5
    have hfw : ∀ f, Fence.wide.fn f := fun _ => trivial
    have b1 : ∀ z, (of z).cell? ⟨g1, 0, none⟩ = some (.pointer (some ⟨gU, 0, none⟩)) := fun z => (H1.out.below (HLay.out.1.trans ((HOF.out z).mono HLay.out.1.size)) H1.out.lt).cell 0
    have b2 : ∀ z, (of z).cell? ⟨g2, 0, none⟩ = some (.int .i64 t) := fun z => (H2.out.below (HLay.out.1.trans ((HOF.out z).mono HLay.out.1.size)) H2.out.lt).cell 0
    have u0 : ∀ z, (of z).cell? ⟨gU, 0, none⟩ = some (.pointer (some ⟨T.g, 0, none⟩)) := fun z => (HU.out.below (HLay.out.1.trans ((HOF.out z).mono HLay.out.1.size)) HU.out.lt).cell 0
    have u1 : ∀ z, (of z).cell? ⟨gU, 1, none⟩ = some (.int .i64 f) := fun z => (HU.out.below (HLay.out.1.trans ((HOF.out z).mono HLay.out.1.size)) HU.out.lt).cell 1
    simp only [pickB]
    repeat (gi_big_quiet_step (fail))
    refine wpQuietIn_nil ?_
    exact rfl
   intro W9 hW
   replace HLay := Lib.hid (HLay.out.below hW)
   clear hW
   simp only [pickB]
   refine wpT_nil ?_
   gi_wp2
   refine bodyPost_ret (v := .bool false) (by simp [results, Tryd.results73, go_sem]) rfl ?_
   exact ⟨by rw [HR.out], HLay.out.1⟩
 ·
  have hae : (x.fountain == f) = false := by simpa using ha
  have HR : Hid (tasteB T.m f t has x = false) := Lib.hid (by unfold tasteB; simp; intros; omega)
  refine wpIn_flow_old [] [true, true, true, true, true, true, true, true, true, true, true, true, true, true, true, true, true, true, true, true, true, true, true, true, true, true, true, true, true, true, true, true, true, true] [] (by kernel_rfl) (by kernel_rfl) (by kernel_rfl) (below_drewN (Below.refl _ _) 1) ?_
  refine wpFlow_nil (A := ?AF5) ?hq5 ?_
  case hq5 =>
   rintro σ hσ of hof hcl
   have HOF := Lib.hid hof
   have HCL := Lib.hid hcl
   clear hof hcl
   have c0_ : ∀ z, (of z).cell? ⟨w.heap.size, 0, none⟩ = some (.int .i64 x.num) := fun z => ((HLay.out.below (HOF.out z)).blk 0 rfl).cell 0
   have c1_ : ∀ z, (of z).cell? ⟨w.heap.size, 1, none⟩ = some (.int .i64 x.vessel) := fun z => ((HLay.out.below (HOF.out z)).blk 0 rfl).cell 1
   have c2_ : ∀ z, (of z).cell? ⟨w.heap.size, 2, none⟩ = some (.int .i64 x.after) := fun z => ((HLay.out.below (HOF.out z)).blk 0 rfl).cell 2
   have c3_ : ∀ z, (of z).cell? ⟨w.heap.size, 3, none⟩ = some (.int .i64 x.fountain) := fun z => ((HLay.out.below (HOF.out z)).blk 0 rfl).cell 3
   have c4_ : ∀ z, (of z).cell? ⟨w.heap.size, 4, none⟩ = some (.int .i64 x.lo) := fun z => ((HLay.out.below (HOF.out z)).blk 0 rfl).cell 4
   have c5_ : ∀ z, (of z).cell? ⟨w.heap.size, 5, none⟩ = some (.int .i64 x.hi) := fun z => ((HLay.out.below (HOF.out z)).blk 0 rfl).cell 5
   have hfw : ∀ f, Fence.wide.fn f := fun _ => trivial
   have b1 : ∀ z, (of z).cell? ⟨g1, 0, none⟩ = some (.pointer (some ⟨gU, 0, none⟩)) := fun z => (H1.out.below (HLay.out.1.trans ((HOF.out z).mono HLay.out.1.size)) H1.out.lt).cell 0
   have b2 : ∀ z, (of z).cell? ⟨g2, 0, none⟩ = some (.int .i64 t) := fun z => (H2.out.below (HLay.out.1.trans ((HOF.out z).mono HLay.out.1.size)) H2.out.lt).cell 0
   have u0 : ∀ z, (of z).cell? ⟨gU, 0, none⟩ = some (.pointer (some ⟨T.g, 0, none⟩)) := fun z => (HU.out.below (HLay.out.1.trans ((HOF.out z).mono HLay.out.1.size)) HU.out.lt).cell 0
   have u1 : ∀ z, (of z).cell? ⟨gU, 1, none⟩ = some (.int .i64 f) := fun z => (HU.out.below (HLay.out.1.trans ((HOF.out z).mono HLay.out.1.size)) HU.out.lt).cell 1
   simp only [pickB]
   repeat (gi_big_quiet_step (fail))
   refine wpQuietIn_nil ?_
   exact rfl
  intro W10 hW
  replace HLay := Lib.hid (HLay.out.below hW)
  clear hW
  simp only [pickB]
  refine wpT_nil ?_
  gi_wp2
  refine bodyPost_ret (v := .bool false) (by simp [results, Tryd.results73, go_sem]) rfl ?_
  exact ⟨by rw [HR.out], HLay.out.1⟩

theorem enters_tastes1 (args : Array Value) (W : World) : (callFunc 73 args).run Tryd.prog W = .ok (.enter 73 args) W := by
 simp [go_sem]
theorem TbOk.tast {T : Tb} {x : Tast} (h : TbOk T) (hx : x ∈ T.m.tastes) : 0 ≤ idxV T.m.vessels x.vessel ∧ idxV T.m.vessels x.vessel < 4 := by
 have h1 := h.ok
 unfold okMix at h1
 simp only [Bool.and_eq_true] at h1
 have h2 := List.all_eq_true.1 h1.1.1.1.2 x hx
 have h3 := (of_decide_eq_true h2).1
 have := idxV_lt h3
 have := h.vess
 omega

set_option maxRecDepth 100000 in
set_option maxHeartbeats 8000000 in
theorem tastes_in (T : Tb) (f : Int) (As : Option Addr) (ns cs : Nat) (t : Int) (has : Held) (gU : Nat) (w : World) (hT : TbAt w T) (hU : Blk w gU 84 (trC T f As ns cs)) (hok : TbOk T) :
  CallsIn Fence.wide 9 Tryd.prog 47 #[.pointer (some ⟨gU, 0, none⟩), .int .i64 t, .agg #[.int .i64 (heldAt has 0), .int .i64 (heldAt has 1), .int .i64 (heldAt has 2), .int .i64 (heldAt has 3)]] w fun e w' => e = .returned (.bool (!T.m.tastes.any (tasteB T.m f t has))) ∧ Below w.heap.size w w' := by
 have hmf : ∀ (fn : Fn) (first cap : Array Value) (w : World), (Instr.makeFunc fn first cap).run Tryd.prog w = .ok (.func fn first cap) w := fun _ _ _ _ => rfl
 have HT := Lib.hid hT
 have HU := Lib.hid hU
 have HOK := Lib.hid hok
 clear hT hU hok
 refine callsIn_of_wp Tryd.func47 rfl trivial ?_ rfl
 simp only [Tryd.ntmps47, List.size_toArray, List.length_cons, List.length_nil, Nat.reduceAdd, Nat.reduceSub, Array.replicate_succ, Array.replicate_zero, List.push_toArray, List.append_toArray, List.nil_append, List.cons_append]
 gi_upto_region 1 with fail
 have HLay := Lib.hid (Lay.three w 78 #[.pointer (some ⟨gU, 0, none⟩)] 3 #[.int .i64 t] 74 #[.int .i64 (heldAt has 0), .int .i64 (heldAt has 1), .int .i64 (heldAt has 2), .int .i64 (heldAt has 3)])
 generalize (((w.alloc (.cells #[.pointer (some ⟨gU, 0, none⟩)] 78)).alloc (.cells #[.int .i64 t] 3)).alloc (.cells #[.int .i64 (heldAt has 0), .int .i64 (heldAt has 1), .int .i64 (heldAt has 2), .int .i64 (heldAt has 3)] 74)) = w0 at *
 have x0_0 := (HLay.out.blk 0 rfl).cell 0
 have l0_ := HLay.out.lt 0 rfl
 have u0 := (HU.out.below HLay.out.1 HU.out.lt).cell 0
 have t3 := (HT.out.below HLay.out.1).blk.cell 3
 have ul := HU.out.lt
 have ul2 := (HU.out.below HLay.out.1 HU.out.lt).lt
 have tl := (HT.out.below HLay.out.1).blk.lt
 unfold trC at u0
 unfold Tb.cells at t3
 gi_wp2
 clear u0 t3 ul ul2 tl
 clear x0_0 l0_
 refine ⟨trivial, (callsIn_wide.2 (containsFunc_tast 73 #[.pointer (some ⟨w.heap.size, 0, none⟩), .pointer (some ⟨w.heap.size + 1, 0, none⟩), .pointer (some ⟨w.heap.size + 1 + 1, 0, none⟩)] (tasteB T.m f t has) T.At T.nt T.ct T.m.tastes w0 (show TastsAt w0 w0.heap.size T.At T.nt T.m.tastes from (HT.out.below HLay.out.1).mix.tastes) (by have := HT.out.small; unfold maxLen; omega) enters_tastes1
  (fun x hx W hW => callsIn_wide.1 (tastes1_in T f As ns cs x t has gU w.heap.size (w.heap.size + 1) (w.heap.size + 1 + 1) W ((HT.out.below HLay.out.1).below hW) ((HU.out.below HLay.out.1 HU.out.lt).below hW (Nat.lt_of_lt_of_le HU.out.lt HLay.out.1.size)) ((HLay.out.below hW).blk 0 rfl) ((HLay.out.below hW).blk 1 rfl) ((HLay.out.below hW).blk 2 rfl) (HOK.out.tast hx))))).mono ?_⟩
 rintro e W1 ⟨rfl, hb⟩
 replace HLay := Lib.hid (HLay.out.below hb)
 clear hb
 gi_wp2
 refine bodyPost_ret (v := .bool (!T.m.tastes.any (tasteB T.m f t has))) (by simp [results, Tryd.results47, go_sem]) rfl ?_
 exact ⟨rfl, HLay.out.1⟩

end Go.Proofs.YtjdgdeiedkickaaDoor.Mx
/- An entry that has come is deleted while the map is ranged over. -/
namespace Go.Proofs.YtjdgdeiedkickaaDoor
open Go.RowKit Go.MapKept
open Go.ChangeMaps (setBlock heap_setBlock_other heap_setBlock_same)
open Go.Maps (Keyed)
set_option linter.unusedSectionVars false

theorem filter_eraseIdx {γ : Type} {q : γ → Bool} : ∀ {l : List γ} {j : Nat} {y : γ}, l[j]? = some y → q y = false → (l.eraseIdx j).filter q = l.filter q
 | [], j, y, h, _ => by simp at h
 | z :: l, 0, y, h, hq => by
  simp at h
  subst h
  rw [List.eraseIdx_cons_zero, List.filter_cons_of_neg (by simp [hq])]
 | z :: l, j + 1, y, h, hq => by
  rw [List.eraseIdx_cons_succ]
  have ih := filter_eraseIdx (l := l) (j := j) (y := y) (by simpa using h) hq
  by_cases hz : q z = true
  ·rw [List.filter_cons_of_pos hz, List.filter_cons_of_pos hz, ih]
  ·rw [List.filter_cons_of_neg hz, List.filter_cons_of_neg hz, ih]
theorem erase_cut' {α β : Type} [DecidableEq α] : ∀ {m : List (α × β)} {x : α} {v0 : β} {j : Nat}, (m.map Prod.fst).Nodup → m[j]? = some (x, v0) → (m.filter fun p => !decide (p.1 = x)) = m.eraseIdx j
 | [], x, v0, j, _, h => by simp at h
 | p :: m, x, v0, j, hn, h => by
  rw [List.map_cons, List.nodup_cons] at hn
  cases j with
  | zero =>
   simp at h
   subst h
   rw [List.eraseIdx_cons_zero, List.filter_cons_of_neg (by simp)]
   refine List.filter_eq_self.2 fun q hq => ?_
   have : q.1 ≠ x := fun e => hn.1 (List.mem_map.2 ⟨q, hq, e⟩)
   simpa using this
  | succ j =>
   have h' : m[j]? = some (x, v0) := by simpa using h
   have hp : p.1 ≠ x := fun e => hn.1 (List.mem_map.2 ⟨(x, v0), List.mem_of_getElem? h', e.symm⟩)
   rw [List.eraseIdx_cons_succ, List.filter_cons_of_pos (by simpa using hp), erase_cut' hn.2 h']
section
variable {P : Program} {t k e : TypeId} {α β : Type} [DecidableEq α] {encK : α → Value} {encV : β → Value} {okK : α → Prop} {zero : Value}
variable {w w' : World} {r it : Nat} {m left : List (α × β)}
/-- delete(m, x), x no longer to come. -/
theorem IterIs.delete_ (T : MapTy P t k e α β encK encV okK zero) (h : IterIs encK encV okK w it r m left) {x : α} (hx : okK x) (hl : ∀ p ∈ left, p.1 ≠ x) (ty : TypeId) :
  ∃ w', (Builtin.delete_ #[t, k] ty #[.map (some r), encK x]).run P w = .ok (.tuple #[]) w' ∧ IterIs encK encV okK w' it r (cut m x) left ∧ w.grownBy w' (some r) ∧ w'.heap.size = w.heap.size := by
 obtain ⟨l, hlx⟩ := T.reads x hx
 have hn := MapIs.nodup T h.map
 have hne := h.ne
 obtain ⟨es, clock, since, seen, c0, hb, hm, hs, hk, hi, hold, hsc, hsk, hleft⟩ := h
 rcases MapIs.find (w := w) T hm hk hx with ⟨h1, h2, h3⟩ | ⟨j, y, v0, h1, h2, h3, h4⟩
 ·have hcut : cut m x = m := by
   unfold cut
   exact List.filter_eq_self.2 fun p hp => by simpa using look_none.1 h2 p hp
  refine ⟨setBlock w r (.map es clock), ?_, ⟨es, clock, since, seen, c0, heap_setBlock_same hb _, by rw [hcut]; exact hm, hs, fun p hp => hk p (mem_cut.1 hp).1, (heap_setBlock_other hb _ hne).trans hi, hold, hsc, hsk, hleft⟩, (grown_setBlock hb _).1, (grown_setBlock hb _).2⟩
  simp [Builtin.delete_, run_underlying T.und, MapKept.run_getObj_map hb, T.keyed.check w _ hlx, h1, MapKept.run_setObj_map _ hb, Result.andThen, setBlock]
 ·have hjl : j < es.toList.length := (List.getElem?_eq_some_iff.1 h2).1
  have hjs : j < es.size := by simpa using hjl
  have hsub : (es.eraseIdxIfInBounds j).toList = es.toList.eraseIdx j := by
   unfold Array.eraseIdxIfInBounds
   rw [dif_pos hjs]
   simp
  have hseen : seen.contains y.born = true := by
   cases hc : seen.contains y.born with
   | true => rfl
   | false =>
    have hy : y ∈ (leftOf es seen).toList := by
     unfold leftOf
     rw [Array.toList_filter]
     exact List.mem_filter.2 ⟨List.mem_of_getElem? h2, by rw [hc]; rfl⟩
    have : (y.key, y.val) ∈ left.map (fun p => (encK p.1, encV p.2)) := by rw [← hleft]; exact List.mem_map.2 ⟨y, hy, rfl⟩
    obtain ⟨p, hp, he⟩ := List.mem_map.1 this
    simp at he
    exact absurd (T.inj _ _ (he.1.trans h3)) (hl p hp)
  refine ⟨setBlock w r (.map (es.eraseIdxIfInBounds j) clock), ?_, ⟨_, clock, since, seen, c0, heap_setBlock_same hb _, ?_, stamped_erase hs j, fun p hp => hk p (mem_cut.1 hp).1, (heap_setBlock_other hb _ hne).trans hi, ?_, hsc, hsk, ?_⟩, (grown_setBlock hb _).1, (grown_setBlock hb _).2⟩
  ·simp [Builtin.delete_, run_underlying T.und, MapKept.run_getObj_map hb, T.keyed.check w _ hlx, h1, MapKept.run_setObj_map _ hb, Result.andThen, setBlock]
  ·rw [hsub, Go.ChangeMaps.map_eraseIdx, hm, ← Go.ChangeMaps.map_eraseIdx]
   congr 1
   unfold cut
   exact (erase_cut' hn h4).symm
  ·intro z hz
   rw [hsub] at hz
   exact hold z (List.mem_of_mem_eraseIdx hz)
  ·rw [← hleft]
   congr 1
   unfold leftOf
   rw [Array.toList_filter, Array.toList_filter, hsub]
   exact filter_eraseIdx h2 (by rw [hseen]; rfl)
end
end Go.Proofs.YtjdgdeiedkickaaDoor
/- What vessels can hold of a fountain, as a map's keys. -/
namespace Go.Proofs.YtjdgdeiedkickaaDoor.Mx
open Go.RowKit Go.Shelf

structure D4 where
 a : Int
 b : Int
 c : Int
 d : Int
 deriving DecidableEq
def D4.key (x : D4) : Value := .agg #[.int .i64 x.a, .int .i64 x.b, .int .i64 x.c, .int .i64 x.d]
def D4.toH (x : D4) : Held := [x.a, x.b, x.c, x.d]
def ofH (s : Held) : D4 := ⟨heldAt s 0, heldAt s 1, heldAt s 2, heldAt s 3⟩
theorem ofH_toH (x : D4) : ofH x.toH = x := rfl
theorem toH_ofH {s : Held} (h : s.length = 4) : (ofH s).toH = s := by
 match s, h with
 | [a, b, c, d], _ => rfl
theorem toH_inj {x y : D4} (h : x.toH = y.toH) : x = y := by rw [← ofH_toH x, ← ofH_toH y, h]
def okZ (x : Int) : Prop := (Lit.int .i64 x).wf = true
theorem okZ_of {x : Int} (h1 : -1000000000000 ≤ x) (h2 : x ≤ 1000000000000) : okZ x := by
 have e1 : IntKind.i64.min = -9223372036854775808 := by decide
 have e2 : IntKind.i64.max = 9223372036854775807 := by decide
 show (decide (IntKind.i64.min ≤ x) && decide (x ≤ IntKind.i64.max)) = true
 rw [e1, e2]
 simp only [Bool.and_eq_true, decide_eq_true_eq]
 omega
def okD (x : D4) : Prop := okZ x.a ∧ okZ x.b ∧ okZ x.c ∧ okZ x.d
abbrev CanMap (w : World) (r : Nat) (m : List (D4 × Bool)) : Prop := MapIs D4.key Value.bool okD w r m
theorem arr4 : WideMaps.ArrKey Tryd.prog 74 3 4 := ⟨Tryd.underlying74, by kernel_rfl, by kernel_rfl, by kernel_rfl⟩
theorem types_pos : ∃ m, Tryd.prog.types.size = m + 1 := by
 have h : 0 < Tryd.prog.types.size := of_decide_eq_true (by kernel_rfl)
 exact ⟨Tryd.prog.types.size - 1, by omega⟩
theorem keyOf_four {P : Program} {k e : TypeId} {q : IntKind} (A : WideMaps.ArrKey P k e 4) (he : P.underlying e = some (.int q)) (hsz : ∃ m, P.types.size = m + 1) {a b c d : Int} (wa : (Lit.int q a).wf = true) (wb : (Lit.int q b).wf = true) (wc : (Lit.int q c).wf = true) (wd : (Lit.int q d).wf = true) :
  keyOf P k (.agg #[.int q a, .int q b, .int q c, .int q d]) = some (.string (keyBytes [.int q a, .int q b, .int q c, .int q d])) := by
 have hkt := A.keyType hsz
 obtain ⟨m, hm⟩ := hsz
 unfold keyOf
 simp only [A.hu]
 rw [if_pos (by simp [hkt, Value.formed, A.hu, A.size]), hm]
 unfold Program.keyLits
 simp only [A.hu, Value.cells]
 rw [if_pos (by rw [A.size]; rfl), show List.range 4 = [0, 1, 2, 3] from rfl, List.mapM_cons, List.mapM_cons, List.mapM_cons, List.mapM_cons, List.mapM_nil]
 simp [A.one, Program.keyLits, he, wa, wb, wc, wd]
theorem canTy : MapTy Tryd.prog 100 74 4 D4 Bool D4.key Value.bool okD (.bool false) where
 und := Tryd.underlying100
 keyed := Maps.Keyed.of_law arr4.law
 reads := fun x hx => ⟨_, keyOf_four arr4 Tryd.underlying3 types_pos hx.1 hx.2.1 hx.2.2.1 hx.2.2.2⟩
 inj := fun x y h => by
  obtain ⟨a, b, c, d⟩ := x
  obtain ⟨a', b', c', d'⟩ := y
  simp [D4.key] at h
  simp [h]
 zero := fun w => by kernel_rfl
/-- The map's keys are those for which P is so; all say true. -/
structure CanIs (m : List (D4 × Bool)) (P : Held → Prop) : Prop where
 all : ∀ p ∈ m, p.2 = true
 keys : ∀ x : D4, (∃ v, (x, v) ∈ m) ↔ P x.toH
section
variable {m : List (D4 × Bool)} {P Q : Held → Prop} {x : D4}
theorem CanIs.nil : CanIs [] fun _ => False := ⟨(fun p h => by cases h), fun x => ⟨(fun ⟨v, h⟩ => by cases h), fun h => h.elim⟩⟩
theorem CanIs.congr (h : CanIs m P) (e : ∀ x : D4, P x.toH ↔ Q x.toH) : CanIs m Q := ⟨h.all, fun x => (h.keys x).trans (e x)⟩
theorem CanIs.put (h : CanIs m P) (x : D4) : CanIs (put m x true) fun s => P s ∨ s = x.toH := by
 refine ⟨fun p hp => ?_, fun y => ?_⟩
 ·rcases mem_put hp with rfl | ⟨hp, _⟩
  ·rfl
  ·exact h.all p hp
 ·have hl : ∀ m' : List (D4 × Bool), (∃ v, (y, v) ∈ m') ↔ ∃ p ∈ m', p.1 = y := fun m' => ⟨fun ⟨v, hv⟩ => ⟨_, hv, rfl⟩, fun ⟨p, hp, e⟩ => ⟨p.2, by rw [← e]; exact hp⟩⟩
  constructor
  ·rintro ⟨v, hv⟩
   rcases mem_put hv with e | ⟨hv, _⟩
   ·right
    have : y = x := congrArg Prod.fst e
    rw [this]
   ·left
    exact (h.keys y).1 ⟨v, hv⟩
  ·intro hy
   have h1 := look_put (m := m) (x := x) (y := y) (v := true)
   by_cases e : y = x
   ·rw [if_pos e] at h1
    exact ⟨_, look_mem h1⟩
   ·rw [if_neg e] at h1
    rcases hy with hy | hy
    ·obtain ⟨v, hv⟩ := (h.keys y).2 hy
     cases hl2 : look m y with
     | none => exact absurd rfl (look_none.1 hl2 _ hv)
     | some u =>
      rw [hl2] at h1
      exact ⟨_, look_mem h1⟩
    ·exact absurd (toH_inj hy) e
theorem CanIs.cut (h : CanIs m P) (x : D4) : CanIs (cut m x) fun s => P s ∧ s ≠ x.toH := by
 refine ⟨fun p hp => h.all p (mem_cut.1 hp).1, fun y => ?_⟩
 constructor
 ·rintro ⟨v, hv⟩
  obtain ⟨h1, h2⟩ := mem_cut.1 hv
  exact ⟨(h.keys y).1 ⟨v, h1⟩, fun e => h2 (toH_inj e)⟩
 ·rintro ⟨h1, h2⟩
  obtain ⟨v, hv⟩ := (h.keys y).2 h1
  exact ⟨v, mem_cut.2 ⟨hv, fun e => h2 (by show y.toH = x.toH; rw [show y = x from e])⟩⟩
theorem CanIs.look_some (h : CanIs m P) (hp : P x.toH) : look m x = some true := by
 obtain ⟨v, hv⟩ := (h.keys x).2 hp
 cases hl : look m x with
 | none => exact absurd rfl (look_none.1 hl _ hv)
 | some u =>
  have := h.all _ (look_mem hl)
  dsimp only at this
  rw [this]
theorem CanIs.look_none (h : CanIs m P) (hp : ¬ P x.toH) : look m x = none := by
 cases hl : look m x with
 | none => rfl
 | some u => exact absurd ((h.keys x).1 ⟨u, look_mem hl⟩) hp
end
theorem info_can : (Tryd.prog.info? 100).map (fun i => (i.zero, i.size, i.bytes)) = some (some (.map none), 1, 8) := by kernel_rfl
theorem elem_can : ElemAt Tryd.prog 82 100 (.map none) 1 8 := by
 obtain ⟨i0, hi, hz0, hz1, hz2⟩ := info_parts info_can
 exact ⟨i0, Tryd.underlying82, hi, hz0, hz1, hz2, rfl, by decide⟩
end Go.Proofs.YtjdgdeiedkickaaDoor.Mx
/- mix.table.told: what lies in memory meanwhile. -/
namespace Go.Proofs.YtjdgdeiedkickaaDoor.Mx
open Go.RowKit Go.Shelf

def canV (r : Nat) : Value := .map (some r)
/-- A fountain's truths in memory: times ms, in maps rs. -/
structure TrAt (w : World) (gU : Nat) (T : Tb) (f : Int) (A : Option Addr) (n c : Nat) (rs : List Nat) (ms : List (List (D4 × Bool))) : Prop where
 blk : Blk w gU 84 (trC T f A n c)
 tb : TbAt w T
 rd : Reads w w.heap.size 1 A n (rs.map canV)
 len : ms.length = n
 maps : ∀ (i r : Nat) (m : List (D4 × Bool)), rs[i]? = some r → ms[i]? = some m → CanMap w r m
theorem TrAt.below {w w' : World} {gU : Nat} {T : Tb} {f : Int} {A : Option Addr} {n c : Nat} {rs : List Nat} {ms : List (List (D4 × Bool))} (h : TrAt w gU T f A n c rs ms) (hb : Below w.heap.size w w') : TrAt w' gU T f A n c rs ms :=
 ⟨h.blk.below hb h.blk.lt, h.tb.below hb, (h.rd.below hb).more hb.size, h.len, fun i r m hr hm => (h.maps i r m hr hm).below hb (h.maps i r m hr hm).lt⟩
/-- The same, and that it is the call's own. -/
structure TrOwn (w : World) (B : Nat) (gU : Nat) (T : Tb) (f : Int) (A : Option Addr) (n c : Nat) (rs : List Nat) (ms : List (List (D4 × Bool))) : Prop where
 blk : Blk w gU 84 (trC T f A n c)
 own : Own w B 100 1 A n c (rs.map canV)
 len : ms.length = n
 maps : ∀ (i r : Nat) (m : List (D4 × Bool)), rs[i]? = some r → ms[i]? = some m → CanMap w r m
 ge : B ≤ gU
theorem TrOwn.at_ {w : World} {B gU : Nat} {T : Tb} {f : Int} {A : Option Addr} {n c : Nat} {rs : List Nat} {ms : List (List (D4 × Bool))} (h : TrOwn w B gU T f A n c rs ms) (ht : TbAt w T) : TrAt w gU T f A n c rs ms :=
 ⟨h.blk, ht, h.own.reads (Nat.le_refl _), h.len, h.maps⟩
theorem TrOwn.below {w w' : World} {B gU : Nat} {T : Tb} {f : Int} {A : Option Addr} {n c : Nat} {rs : List Nat} {ms : List (List (D4 × Bool))} (h : TrOwn w B gU T f A n c rs ms) (hb : Below w.heap.size w w') : TrOwn w' B gU T f A n c rs ms :=
 ⟨h.blk.below hb h.blk.lt, h.own.below hb (Nat.le_refl _), h.len, fun i r m hr hm => (h.maps i r m hr hm).below hb (h.maps i r m hr hm).lt, h.ge⟩
theorem TrOwn.off {w w' : World} {B gU g0 : Nat} {T : Tb} {f : Int} {A : Option Addr} {n c : Nat} {rs : List Nat} {ms : List (List (D4 × Bool))} {t : TypeId} {cs : Array Value} (h : TrOwn w B gU T f A n c rs ms) (hg : w.grownBy w' (some g0)) (h0 : g0 < B) (hb : Blk w g0 t cs) : TrOwn w' B gU T f A n c rs ms :=
 ⟨h.blk.grown hg (fun e => by have := h.ge; cases e; omega), h.own.grown hg (fun a ha e => by have := (h.own.lt ha).1; have := Option.some.inj e; omega), h.len, fun i r m hr hm => (h.maps i r m hr hm).grown hg (fun e => by
  obtain ⟨es, cl, hb2, _⟩ := h.maps i r m hr hm
  unfold Blk at hb
  rw [Option.some.inj e, hb] at hb2
  cases hb2), h.ge⟩
/-- What told hands back. -/
def ToldOut (w : World) (T : Tb) (f : Int) (e : Ending) (w' : World) : Prop :=
 ∃ gU b A n c rs ms, e = .returned (.tuple #[.pointer (some ⟨gU, 0, none⟩), .bool b]) ∧ Below w.heap.size w w' ∧ TrOwn w' w.heap.size gU T f A n c rs ms ∧ n = T.m.acts.length + 1 ∧ (∀ (i : Nat) (m : List (D4 × Bool)), ms[i]? = some m → CanIs m (Truth T.m f T.L i)) ∧ (b = true ↔ Truth T.m f T.L 0 zeroH)

/-- The times, boxes bs, maps xs besides, marks ds. -/
structure TS (w : World) (A : Option Addr) (n c : Nat) (rs : List Nat) (ms : List (List (D4 × Bool))) (bs : List (Nat × TypeId × Array Value)) (xs : List (Nat × List (D4 × Bool))) (ds : List Deferred) (W : World) : Prop where
 bel : Below w.heap.size w W
 own : Own W w.heap.size 100 1 A n c (rs.map canV)
 len : ms.length = n
 maps : ∀ (i r : Nat) (m : List (D4 × Bool)), rs[i]? = some r → ms[i]? = some m → CanMap W r m ∧ w.heap.size ≤ r
 nodup : rs.Nodup
 bs : ∀ b ∈ bs, w.heap.size ≤ b.1 ∧ Blk W b.1 b.2.1 b.2.2 ∧ some b.1 ≠ A.map (·.block)
 xs : ∀ x ∈ xs, CanMap W x.1 x.2 ∧ w.heap.size ≤ x.1 ∧ x.1 ∉ rs
 marks : Marks w.heap.size W ds
theorem blk_not {W : World} {b g : Nat} {t : TypeId} {cs : Array Value} {o : Obj} (h : Blk W b t cs) (ho : W.heap[g]? = some o) (hc : o.isCells = false) : b ≠ g := fun e => by
 subst e
 unfold Blk at h
 rw [h] at ho
 cases ho
 simp [Obj.isCells] at hc
theorem map_not {W : World} {r g : Nat} {m : List (D4 × Bool)} {t : TypeId} {cs : Array Value} (h : CanMap W r m) (hg : Blk W g t cs) : r ≠ g := fun e => by
 subst e
 obtain ⟨es, cl, hb, _⟩ := h
 unfold Blk at hg
 rw [hb] at hg
 cases hg
theorem CanMap.obj {W : World} {r : Nat} {m : List (D4 × Bool)} (h : CanMap W r m) : ∃ es cl, W.heap[r]? = some (.map es cl) := by
 obtain ⟨es, cl, hb, _⟩ := h
 exact ⟨es, cl, hb⟩
section
variable {w W W' : World} {A : Option Addr} {n c : Nat} {rs : List Nat} {ms : List (List (D4 × Bool))} {bs bs' : List (Nat × TypeId × Array Value)} {xs xs' : List (Nat × List (D4 × Bool))} {ds : List Deferred}
theorem TS.blk (h : TS w A n c rs ms bs xs ds W) (i : Nat) {g : Nat} {t : TypeId} {cs : Array Value} (hi : bs[i]? = some (g, t, cs)) : Blk W g t cs := (h.bs _ (List.mem_of_getElem? hi)).2.1
theorem TS.mlen (h : TS w A n c rs ms bs xs ds W) : rs.length = n := by have := h.own.len; simpa using this
theorem TS.mapsAll (h : TS w A n c rs ms bs xs ds W) : ∀ r ∈ rs, (∃ m, CanMap W r m) ∧ w.heap.size ≤ r := fun r hr => by
 obtain ⟨i, hi, rfl⟩ := List.getElem_of_mem hr
 have h1 := h.mlen
 have h2 := h.len
 have hm : ms[i]? = some ms[i] := List.getElem?_eq_getElem (by omega)
 have := h.maps i _ _ (List.getElem?_eq_getElem hi) hm
 exact ⟨⟨_, this.1⟩, this.2⟩
theorem TS.below (h : TS w A n c rs ms bs xs ds W) (hb : Below W.heap.size W W') : TS w A n c rs ms bs xs ds W' :=
 ⟨h.bel.trans (hb.mono h.bel.size), h.own.below hb (Nat.le_refl _), h.len, fun i r m hr hm => ⟨(h.maps i r m hr hm).1.below hb (h.maps i r m hr hm).1.lt, (h.maps i r m hr hm).2⟩, h.nodup, fun b hb' => ⟨(h.bs b hb').1, (h.bs b hb').2.1.below hb (h.bs b hb').2.1.lt, (h.bs b hb').2.2⟩, fun x hx => ⟨(h.xs x hx).1.below hb (h.xs x hx).1.lt, (h.xs x hx).2⟩, h.marks.below hb⟩
theorem TS.sub (h : TS w A n c rs ms bs xs ds W) (hs : ∀ b ∈ bs', b ∈ bs) : TS w A n c rs ms bs' xs ds W := ⟨h.bel, h.own, h.len, h.maps, h.nodup, fun b hb => h.bs b (hs b hb), h.xs, h.marks⟩
theorem TS.subX (h : TS w A n c rs ms bs xs ds W) (hs : ∀ b ∈ xs', b ∈ xs) : TS w A n c rs ms bs xs' ds W := ⟨h.bel, h.own, h.len, h.maps, h.nodup, h.bs, fun b hb => h.xs b (hs b hb), h.marks⟩
theorem TS.add (h : TS w A n c rs ms bs xs ds W) {g : Nat} {t : TypeId} {cs : Array Value} (hg : w.heap.size ≤ g) (hb : Blk W g t cs) (hr : some g ≠ A.map (·.block)) : TS w A n c rs ms (bs ++ [(g, t, cs)]) xs ds W :=
 ⟨h.bel, h.own, h.len, h.maps, h.nodup, fun b k => by
  rcases List.mem_append.1 k with k | k
  ·exact h.bs b k
  ·obtain rfl := List.mem_singleton.1 k
   exact ⟨hg, hb, hr⟩, h.xs, h.marks⟩
/-- A block that was not there before is not the row. -/
theorem TS.new_row (h : TS w A n c rs ms bs xs ds W) {g : Nat} (hg : W.heap.size ≤ g) : some g ≠ A.map (·.block) := by
 cases hA : A with
 | none => simp
 | some a =>
  have := (h.own.lt hA).2
  simp
  omega
theorem TS.addX (h : TS w A n c rs ms bs xs ds W) {r : Nat} {m : List (D4 × Bool)} (hm : CanMap W r m) (hg : w.heap.size ≤ r) (hr : r ∉ rs) : TS w A n c rs ms bs (xs ++ [(r, m)]) ds W :=
 ⟨h.bel, h.own, h.len, h.maps, h.nodup, h.bs, fun x k => by
  rcases List.mem_append.1 k with k | k
  ·exact h.xs x k
  ·obtain rfl := List.mem_singleton.1 k
   exact ⟨hm, hg, hr⟩, h.marks⟩
theorem TS.more (h : TS w A n c rs ms bs xs ds W) {D : Nat} (hD : w.heap.size ≤ D) (hd : W.heap[D]? = some (.deferred (some []))) (hn : ∀ d ∈ ds, ∀ r, d.target = .collected r → r < D) (a : Array Value) : TS w A n c rs ms bs xs ({ target := .collected D, args := a } :: ds) W :=
 ⟨h.bel, h.own, h.len, h.maps, h.nodup, h.bs, h.xs, h.marks.more hD hd hn a⟩
/-- Something else turns: block g. -/
theorem TS.core (h : TS w A n c rs ms bs xs ds W) {g : Nat} (hg : W.grownBy W' (some g)) (h0 : w.heap.size ≤ g) (hA : some g ≠ A.map (·.block)) (hb : ∀ b ∈ bs, b.1 ≠ g) (hr : ∀ r ∈ rs, r ≠ g) (hx : ∀ x ∈ xs, x.1 ≠ g) (hd : ∀ x, W.heap[g]? ≠ some (.deferred x)) : TS w A n c rs ms bs xs ds W' :=
 ⟨h.bel.grown hg h.bel.size (fun k e => by cases e; exact h0), h.own.grown hg (fun a ha e => hA (by rw [ha]; exact e.symm)), h.len, fun i r m hir him => ⟨(h.maps i r m hir him).1.grown hg (fun e => hr r (List.mem_of_getElem? hir) (Option.some.inj e)), (h.maps i r m hir him).2⟩, h.nodup,
  fun b k => ⟨(h.bs b k).1, (h.bs b k).2.1.grown hg (fun e => hb b k (Option.some.inj e)), (h.bs b k).2.2⟩, fun x k => ⟨(h.xs x k).1.grown hg (fun e => hx x k (Option.some.inj e)), (h.xs x k).2⟩,
  h.marks.keep fun d hd' k hk h0' => (hg.block k (Array.getElem?_eq_some_iff.1 h0').1 (fun e => by cases e; exact hd _ h0')).trans h0'⟩
/-- An iterator's step. -/
theorem TS.iter (h : TS w A n c rs ms bs xs ds W) {g : Nat} {x1 x2 x3 x4} (ho : W.heap[g]? = some (.mapIter x1 x2 x3 x4)) (h0 : w.heap.size ≤ g) (hg : W.grownBy W' (some g)) : TS w A n c rs ms bs xs ds W' := by
 refine h.core hg h0 ?_ (fun b k => blk_not (h.bs b k).2.1 ho rfl) (fun r hr e => ?_) (fun x k e => ?_) (fun x e => by rw [ho] at e; cases e)
 ·intro e
  rcases h.own.form with ⟨e1, _⟩ | ⟨g', cur, e1, _, hbk, _⟩
  ·rw [e1] at e; cases e
  ·rw [e1] at e
   exact blk_not hbk ho rfl (Option.some.inj e).symm
 ·obtain ⟨⟨m, hm⟩, _⟩ := h.mapsAll r hr
  obtain ⟨es, cl, hb⟩ := hm.obj
  rw [e, ho] at hb
  cases hb
 ·obtain ⟨es, cl, hb⟩ := (h.xs x k).1.obj
  rw [e, ho] at hb
  cases hb
theorem TS.mapRow (h : TS w A n c rs ms bs xs ds W) {r : Nat} {m : List (D4 × Bool)} (hm : CanMap W r m) : some r ≠ A.map (·.block) := by
 intro e
 rcases h.own.form with ⟨e1, _⟩ | ⟨g', cur, e1, _, hbk, _⟩
 ·rw [e1] at e; cases e
 ·rw [e1] at e
  exact map_not hm hbk (Option.some.inj e)
/-- The map besides turns. -/
theorem TS.setX {r : Nat} {m m' : List (D4 × Bool)} (h : TS w A n c rs ms bs [(r, m)] ds W) (hg : W.grownBy W' (some r)) (hm : CanMap W' r m') : TS w A n c rs ms bs [(r, m')] ds W' := by
 have hx := h.xs (r, m) (by simp)
 have h1 := (h.subX (xs' := []) (fun b k => by cases k)).core hg hx.2.1 (h.mapRow hx.1) (fun b k e => map_not hx.1 (h.bs b k).2.1 e.symm) (fun q hq e => hx.2.2 (by rw [← e]; exact hq)) (fun x k => by cases k) (fun x e => by
  obtain ⟨es, cl, hb⟩ := hx.1.obj
  rw [hb] at e
  cases e)
 exact h1.addX hm hx.2.1 hx.2.2
/-- A time's map turns. -/
theorem TS.setMap (h : TS w A n c rs ms bs xs ds W) {i r : Nat} {m m' : List (D4 × Bool)} (hir : rs[i]? = some r) (him : ms[i]? = some m) (hg : W.grownBy W' (some r)) (hm : CanMap W' r m') : TS w A n c rs (ms.set i m') bs xs ds W' := by
 have hx := h.maps i r m hir him
 refine ⟨h.bel.grown hg h.bel.size (fun k e => by cases e; exact hx.2), h.own.grown hg (fun a ha e => h.mapRow hx.1 (by rw [ha]; exact e.symm)), by rw [List.length_set]; exact h.len, fun j q m2 hq hm2 => ?_, h.nodup,
  fun b k => ⟨(h.bs b k).1, (h.bs b k).2.1.grown hg (fun e => map_not hx.1 (h.bs b k).2.1 (Option.some.inj e).symm), (h.bs b k).2.2⟩, fun x k => ⟨(h.xs x k).1.grown hg (fun e => (h.xs x k).2.2 (by rw [Option.some.inj e]; exact List.mem_of_getElem? hir)), (h.xs x k).2⟩,
  h.marks.keep fun d hd' k hk h0' => (hg.block k (Array.getElem?_eq_some_iff.1 h0').1 (fun e => by
   cases e
   obtain ⟨es, cl, hb⟩ := hx.1.obj
   rw [hb] at h0'
   cases h0')).trans h0'⟩
 by_cases e : i = j
 ·subst e
  rw [hir] at hq
  cases hq
  rw [List.getElem?_set_self (List.getElem?_eq_some_iff.1 him).1] at hm2
  cases hm2
  exact ⟨hm, hx.2⟩
 ·rw [List.getElem?_set_ne e] at hm2
  have hy := h.maps j q m2 hq hm2
  refine ⟨hy.1.grown hg (fun e2 => ?_), hy.2⟩
  have e3 : q = r := Option.some.inj e2
  subst e3
  exact e ((List.getElem?_inj (List.getElem?_eq_some_iff.1 hir).1 h.nodup).1 (hir.trans hq.symm))
/-- A box turns. -/
theorem TS.setBox (h : TS w A n c rs ms bs xs ds W) {g : Nat} {t : TypeId} {cs cs' : Array Value} (hin : (g, t, cs) ∈ bs) (hg : W.grownBy W' (some g)) (hb : Blk W' g t cs') (hs : ∀ b ∈ bs', (b ∈ bs ∧ b.1 ≠ g) ∨ b = (g, t, cs')) : TS w A n c rs ms bs' xs ds W' := by
 have hx := h.bs _ hin
 dsimp only at hx
 have hobj : W.heap[g]? = some (.cells cs t (0, 0)) := hx.2.1
 have h1 := (h.sub (bs' := bs.filter fun b => b.1 != g) (fun b k => (List.mem_filter.1 k).1)).core hg hx.1 hx.2.2 (fun b k => by have := (List.mem_filter.1 k).2; simpa using this) (fun r hr e => by
  obtain ⟨⟨m, hm⟩, _⟩ := h.mapsAll r hr
  exact map_not hm hx.2.1 e) (fun x k e => map_not (h.xs x k).1 hx.2.1 e) (fun x e => by rw [hobj] at e; cases e)
 refine ⟨h1.bel, h1.own, h1.len, h1.maps, h1.nodup, fun b k => ?_, h1.xs, h1.marks⟩
 rcases hs b k with ⟨k1, k2⟩ | rfl
 ·exact h1.bs b (List.mem_filter.2 ⟨k1, by simpa using k2⟩)
 ·exact ⟨hx.1, hb, hx.2.2⟩
/-- All maps lie below S. -/
def TS.lim (S : Nat) (rs : List Nat) (xs : List (Nat × List (D4 × Bool))) (ds : List Deferred) : Prop := (∀ r ∈ rs, r < S) ∧ (∀ x ∈ xs, x.1 < S) ∧ ∀ d ∈ ds, ∀ r, d.target = .collected r → r < S
theorem TS.shut {S : Nat} (h : TS w A n c rs ms bs xs ds W) (hs : Shut S W W') (h0 : w.heap.size ≤ S) (hl : TS.lim S rs xs ds) : TS w A n c rs ms bs xs ds W' :=
 ⟨h.bel.trans (hs.below.mono h0), by
  refine ⟨h.own.1, ?_⟩
  rcases h.own.2 with h' | ⟨g, cap', cur, hv, hb, hg, hr⟩
  ·exact .inl h'
  ·exact .inr ⟨g, cap', cur, hv, hb, hs.cells _ _ _ _ hg, hr⟩, h.len, fun i r m hr hm => ⟨(h.maps i r m hr hm).1.below hs.below (hl.1 r (List.mem_of_getElem? hr)), (h.maps i r m hr hm).2⟩, h.nodup,
  fun b k => ⟨(h.bs b k).1, hs.blk (h.bs b k).2.1, (h.bs b k).2.2⟩, fun x k => ⟨(h.xs x k).1.below hs.below (hl.2.1 x k), (h.xs x k).2⟩, h.marks.shut hs hl.2.2⟩
theorem TS.limAll (h : TS w A n c rs ms bs xs ds W) : TS.lim W.heap.size rs xs ds := ⟨fun r hr => by obtain ⟨⟨m, hm⟩, _⟩ := h.mapsAll r hr; exact hm.lt, fun x k => (h.xs x k).1.lt, fun d hd r hr => h.marks.lt d hd r hr⟩
end
/-- What reads cells, stays as long as all blocks of cells stay. -/
theorem _root_.Go.Proofs.YtjdgdeiedkickaaDoor.Reads.cells {W W' : World} {B size n : Nat} {A : Option Addr} {xs : List Value} (h : Reads W B size A n xs) (hk : ∀ (b : Nat) cs t fr, W.heap[b]? = some (.cells cs t fr) → W'.heap[b]? = some (.cells cs t fr)) (hs : 0 < size) : Reads W' B size A n xs := by
 refine ⟨h.1, fun hn => ?_⟩
 obtain ⟨ad, e, hb, hc⟩ := h.2 hn
 refine ⟨ad, e, hb, fun j u hu => ?_⟩
 have h1 := hc j u hu
 obtain ⟨o, ho, hcell⟩ := cells_of_cell h1
 rw [← h1]
 refine World.cell?_of_block ?_
 rw [ho]
 cases o <;> simp [Obj.isCells] at hcell
 exact hk _ _ _ _ ho
theorem TbAt.cells {W W' : World} {T : Tb} (h : TbAt W T) (hk : ∀ (b : Nat) cs t fr, W.heap[b]? = some (.cells cs t fr) → W'.heap[b]? = some (.cells cs t fr)) (hz : W.heap.size ≤ W'.heap.size) : TbAt W' T :=
 ⟨hk _ _ _ _ h.blk, ⟨(h.mix.vessels.cells hk (by decide)).more hz, (h.mix.acts.cells hk (by decide)).more hz, (h.mix.tastes.cells hk (by decide)).more hz⟩, (h.all.cells hk (by decide)).more hz, h.small⟩
theorem MvIn.cells {g0 g1 g2 g3 : Nat} {T : Tb} {i f : Int} {has : Held} {W W' : World} (h : MvIn g0 g1 g2 g3 T i f has W) (hk : ∀ (b : Nat) cs t fr, W.heap[b]? = some (.cells cs t fr) → W'.heap[b]? = some (.cells cs t fr)) (hz : W.heap.size ≤ W'.heap.size) : MvIn g0 g1 g2 g3 T i f has W' :=
 ⟨hk _ _ _ _ h.t, hk _ _ _ _ h.i, hk _ _ _ _ h.f, hk _ _ _ _ h.h, h.tb.cells hk hz⟩
theorem cells_put {W : World} {l : Nat} {o o' : Obj} (h : W.heap[l]? = some o) (hc : o.isCells = false) (b : Nat) (cs : Array Value) (t : TypeId) (fr : Nat × Nat) (hb : W.heap[b]? = some (.cells cs t fr)) : (W.putObj l o').heap[b]? = some (.cells cs t fr) := by
 refine (World.putObj_heap_other ?_).trans hb
 intro e
 subst e
 rw [h] at hb
 cases hb
 simp [Obj.isCells] at hc
theorem blk_put {g : Nat} {t : TypeId} {cs : Array Value} {w : World} (W : World) (l : Nat) (o o' : Obj) (_ : w.heap.size ≤ l) (h : W.heap[l]? = some o) (hc : o.isCells = false) (_ : o.isWalk = false) : Blk W g t cs → Blk (W.putObj l o') g t cs :=
 fun hb => cells_put h hc _ _ _ _ hb
end Go.Proofs.YtjdgdeiedkickaaDoor.Mx
