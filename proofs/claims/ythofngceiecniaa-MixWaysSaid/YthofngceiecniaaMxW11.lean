/- Part 11 of the texts of this claim, joined. -/
import Derived.IntWalk
import Derived.Sort.CutIn
import Derived.RangeFuncNested
import Derived.Test.YthofngceiecniaaMxW10
set_option linter.unusedVariables false
/- All ways of a drop: the search of mix.table.ways. -/
namespace Go.Proofs.Ythofngceiecniaa
section
open Go.RowKit Go.Shelf
attribute [local go_sem] Oper.semAt_some
structure Wy where
 l : List Int
 A : Option Addr
 n : Nat
 cap : Nat
@[reducible] def Wy.val (x : Wy) : Value := .slice x.A x.n x.cap
def AtW (n0 n1 : Nat) (x : Wy) (W : World) : Prop := IntsAt W W.heap.size x.A x.n x.l ∧ Safe n1 W x.A ∧ x.n ≤ 13
structure TbLow (W : World) (B : Nat) (T : Tb) : Prop where
 blk : Blk W T.g 123 T.cells
 g : T.g < B
 mix : MixAt W B T.Av T.nv T.Aa T.na T.At T.nt T.m
 all : Reads W B 4 T.AA T.nl (T.L.flatMap heldC)
 small : T.nv ≤ 4 ∧ T.na ≤ 12 ∧ T.nt ≤ 8 ∧ T.nl ≤ 13
theorem TbLow.at_ {W : World} {B : Nat} {T : Tb} (h : TbLow W B T) (hB : B ≤ W.heap.size) : TbAt W T := ⟨h.blk, h.mix.more hB, h.all.more hB, h.small⟩
theorem TbLow.kp {W W' : World} {n0 n1 : Nat} {T : Tb} (h : TbLow W n0 T) (hk : KpR n0 n1 W W') : TbLow W' n0 T :=
 ⟨hk.blk (.inl h.g) h.blk, h.g, ⟨h.mix.vessels.low (Nat.le_refl _) hk, h.mix.acts.low (Nat.le_refl _) hk, h.mix.tastes.low (Nat.le_refl _) hk⟩, h.all.low (Nat.le_refl _) hk, h.small⟩
theorem TbAt.low {W : World} {T : Tb} (h : TbAt W T) : TbLow W W.heap.size T := ⟨h.blk, h.blk.lt, h.mix, h.all, h.small⟩
structure WyBox (n0 l' gs gy gt ge q k : Nat) (T : Tb) (W : World) : Prop where
 tb : TbLow W n0 T
 bs : Blk W gs 118 #[.int .i64 (q : Int), .int .i64 (k : Int)]
 bt : Blk W gt 82 #[.pointer (some ⟨T.g, 0, none⟩)]
 by_ : Blk W gy 168 #[.func (.yield l') #[] #[]]
 be : Blk W ge 169 #[.func (.func 98) #[] #[.pointer (some ⟨gs, 0, none⟩), .pointer (some ⟨gy, 0, none⟩), .pointer (some ⟨gt, 0, none⟩), .pointer (some ⟨ge, 0, none⟩)]]
structure WyPl (n0 n1 gs gy gt ge : Nat) : Prop where
 s : gs < n0
 t : gt < n0
 y : n1 ≤ gy
 e : n1 ≤ ge
theorem WyBox.kp {n0 n1 l' gs gy gt ge q k : Nat} {T : Tb} {W W' : World} (h : WyBox n0 l' gs gy gt ge q k T W) (hp : WyPl n0 n1 gs gy gt ge) (hk : KpR n0 n1 W W') : WyBox n0 l' gs gy gt ge q k T W' :=
 ⟨h.tb.kp hk, hk.blk (.inl hp.s) h.bs, hk.blk (.inl hp.t) h.bt, hk.blk (.inr hp.y) h.by_, hk.blk (.inr hp.e) h.be⟩
theorem wpListIn_wanted {F : Fence} {nn : Nat} {P : Program} {ops : Array Oper} {rest : List Oper} {o : Oper} {a : Act} {w : World} {Q : Exit → Act → World → Prop} (hw : Region.wanted o (yielded ops a.tmps) = true) (h : wpListIn F nn P ops Q ({ o with guard := none } :: rest) a w) : wpListIn F nn P ops Q (o :: rest) a w := by
 simp only [wpListIn] at h ⊢
 rw [if_pos hw]
 rw [if_pos (by unfold Region.wanted; rfl)] at h
 exact h
theorem cell_kp {n0 n1 : Nat} {W W' : World} {b off : Nat} {u : Value} (hk : KpR n0 n1 W W') (hb : b < n0) (h : W.cell? ⟨b, off, none⟩ = some u) : W'.cell? ⟨b, off, none⟩ = some u := by
 obtain ⟨o, ho, hc⟩ := cells_of_cell h
 rw [← h]
 refine World.cell?_of_block ?_
 rw [ho]
 exact hk.2 _ _ (.inl hb) ho (.inl hc)
def KpB (n0 n1 B : Nat) (W W' : World) : Prop := W.heap.size ≤ W'.heap.size ∧ ∀ (k : Nat) (o : Obj), k < B → (k < n0 ∨ (n1 ≤ k ∧ rowObj o)) → W.heap[k]? = some o → (o.isCells = true ∨ o.isWalk = true) → W'.heap[k]? = some o
theorem KpB.of_below {n0 n1 B : Nat} {A C : World} (h : Below A.heap.size A C) : KpB n0 n1 B A C := ⟨h.size, fun k o _ _ ho _ => (h.block k (Array.getElem?_eq_some_iff.1 ho).1).trans ho⟩
theorem KpB.of_kp {n0 n1 B : Nat} {A C : World} (h : KpR n0 n1 A C) : KpB n0 n1 B A C := ⟨h.1, fun k o _ hk ho hc => h.2 k o hk ho hc⟩
theorem KpB.of_grown {n0 n1 B : Nat} {A C : World} {row : Option Nat} (h : A.grownBy C row) (hr : ∀ k, row = some k → B ≤ k) : KpB n0 n1 B A C := ⟨h.size, fun k o hk _ ho _ => (h.block k (Array.getElem?_eq_some_iff.1 ho).1 (fun e => by have := hr k e.symm; omega)).trans ho⟩
theorem KpB.kp {n0 n1 : Nat} {A C : World} (h : KpB n0 n1 A.heap.size A C) : KpR n0 n1 A C := ⟨h.1, fun k o hk ho hc => h.2 k o (Array.getElem?_eq_some_iff.1 ho).1 hk ho hc⟩
instance kpb_grows (n0 n1 B : Nat) : Gr.Grows (KpB n0 n1 B) where
 refl := fun W => ⟨Nat.le_refl _, fun _ _ _ _ h _ => h⟩
 trans := fun h k => ⟨Nat.le_trans h.1 k.1, fun i o hi h2 ho hc => k.2 i o hi h2 (h.2 i o hi h2 ho hc) hc⟩
 below := fun h => KpB.of_below h
 size := fun h => h.1
theorem KpB.trans {n0 n1 B : Nat} {A C D : World} (h : KpB n0 n1 B A C) (k : KpB n0 n1 B C D) : KpB n0 n1 B A D := ⟨Nat.le_trans h.1 k.1, fun i o hi h2 ho hc => k.2 i o hi h2 (h.2 i o hi h2 ho hc) hc⟩
set_option maxRecDepth 100000 in
set_option maxHeartbeats 16000000 in
theorem follow_in (N n0 n1 l' gs gy gt ge q k : Nat) (T : Tb) (J : List Wy → World → Prop) (hJ : ∀ s A B, J s A → Below A.heap.size A B → J s B) (hpl : WyPl n0 n1 gs gy gt ge) (hn01 : n0 ≤ n1) (hok : TbOk T) (hk12 : k ≤ T.m.acts.length)
  (hY : ∀ m pre x W, J pre W → pre.length < N → AtW n0 n1 x W → YieldAt Fence.wide m Try.prog l' #[x.val] W fun e W' => e = .returned (.bool true) ∧ J (pre ++ [x]) W' ∧ KpR n0 n1 W W') :
  ∀ (d : Nat) (t : Nat) (v : Int) (Aw : Option Addr) (nw cw : Nat) (wl : List Int) (pre : List Wy) (W : World),
   WyBox n0 l' gs gy gt ge q k T W → J pre W → IntsAt W W.heap.size Aw nw wl → Safe n1 W Aw → nw ≤ t → t + d = k → n1 ≤ W.heap.size → (0 ≤ v ∧ v < 4) → pre.length + (folP T.m T.L (q : Int) d t v wl).length ≤ N →
   CallsIn Fence.wide 9 Try.prog 98 #[.agg #[.int .i64 v, .int .i64 (t : Int)], .slice Aw nw cw, .pointer (some ⟨gs, 0, none⟩), .pointer (some ⟨gy, 0, none⟩), .pointer (some ⟨gt, 0, none⟩), .pointer (some ⟨ge, 0, none⟩)] W fun e W' =>
    e = .returned (.bool true) ∧ ∃ xs, xs.map Wy.l = folP T.m T.L (q : Int) d t v wl ∧ J (pre ++ xs) W' ∧ KpR n0 n1 W W' := by
 intro d
 induction d with
 | zero =>
  intro t v Aw nw cw wl pre W hbox hJ0 hr hs hnw htd hsz hv hNN
  have hlen := hr.len
  have HBX0 := lh hbox
  have HJ0 := lh hJ0
  have HR := lh hr
  have HS := lh hs
  have HJ := lh hJ
  have HP := lh hpl
  have HV := lh hv
  have HNN := lh hNN
  have HOK := lh hok
  have HK12 := lh hk12
  have HLN := lh hlen
  clear hbox hJ0 hr hs hJ hv hlen hNN
  refine callsIn_of_wp Try.func98 rfl trivial ?_ rfl
  simp only [Try.ntmps98, List.size_toArray, List.length_cons, List.length_nil, Nat.reduceAdd, Nat.reduceSub, Array.replicate_succ, Array.replicate_zero, List.push_toArray, List.append_toArray, List.nil_append, List.cons_append]
  gi_upto_region 1 with fail
  have hb0 : Below W.heap.size W (W.alloc (.cells #[.int .i64 v, .int .i64 (t : Int)] 118)) := (Below.refl _ _).alloc (Nat.le_refl _) _
  have HB0 := lh hb0
  have HBX := lh (HBX0.out.kp HP.out (KpR.of_below hb0))
  have HSB := lh (Blk.new W 118 #[.int .i64 v, .int .i64 (t : Int)])
  clear hb0
  generalize (W.alloc (.cells #[.int .i64 v, .int .i64 (t : Int)] 118)) = W0 at *
  obtain ⟨gw, hgw⟩ : ∃ g, W.heap.size = g := ⟨_, rfl⟩
  have HGW : Hid (W.heap.size ≤ gw) := lh (by omega)
  rw [hgw] at HSB ⊢
  clear hgw
  obtain rfl : t = k := by omega
  have c0 := HBX.out.bt.cell 0
  have c0l := HBX.out.bt.lt
  have c3 := HBX.out.be.cell 0
  have c3l := HBX.out.be.lt
  have c4 := HBX.out.bs.cell 0
  have c5 := HBX.out.bs.cell 1
  have c4l := HBX.out.bs.lt
  have c6 := HBX.out.by_.cell 0
  have c6l := HBX.out.by_.lt
  have d0 := HSB.out.cell 0
  have d1 := HSB.out.cell 1
  have dl := HSB.out.lt
  by_cases hvq : v = (q : Int)
  ·
   subst hvq
   gi_upto_region 2 with fail
   have HAT : Hid (AtW n0 n1 ⟨wl, Aw, nw, cw⟩ W0) := lh ⟨HR.out.safe (n0 := n0) HS.out (KpR.of_below HB0.out), HS.out.kp (n0 := n0) (KpR.of_below HB0.out), by have h1 := HK12.out; have h2 := HOK.out.acts; dsimp only; omega⟩
   have HJ2 := lh (HJ.out _ _ _ HJ0.out HB0.out)
   obtain ⟨fn, tmps, assign, body, hy, hR⟩ := hY 8 pre _ W0 HJ2.out (by have h9 := HNN.out; unfold folP at h9; rw [if_pos rfl, List.length_singleton] at h9; omega) HAT.out
   have HRd := lh hR
   clear hR
   gi_wp2
   refine HRd.out.mono ?_
   rintro e W3 ⟨rfl, hJ3, hk3⟩
   gi_wp2
   refine bodyPost_ret (v := .bool true) (by simp [results, Try.results98, go_sem]) rfl ?_
   exact ⟨rfl, [⟨wl, Aw, nw, cw⟩], by unfold folP; rw [if_pos rfl]; rfl, hJ3, (KpR.of_below HB0.out).trans hk3⟩
  ·
   have hvb : (v == (q : Int)) = false := by simpa using hvq
   have HVQ := lh hvq
   gi_wp2
   refine ⟨fun _ h => (by cases h), ?_⟩
   gi_wp2
   refine bodyPost_ret (v := .bool true) (by simp [results, Try.results98, go_sem]) rfl ?_
   exact ⟨rfl, [], by unfold folP; rw [if_neg HVQ.out]; rfl, by rw [List.append_nil]; exact HJ.out _ _ _ HJ0.out HB0.out, KpR.of_below HB0.out⟩
 | succ d ih =>
  intro t v Aw nw cw wl pre W hbox hJ0 hr hs hnw htd hsz hv hNN
  have hlen := hr.len
  have HBX0 := lh hbox
  have HJ0 := lh hJ0
  have HR := lh hr
  have HS := lh hs
  have HJ := lh hJ
  have HP := lh hpl
  have HV := lh hv
  have HNN := lh hNN
  have HOK := lh hok
  have HK12 := lh hk12
  have HLN := lh hlen
  clear hbox hJ0 hr hs hJ hv hlen hNN
  refine callsIn_of_wp Try.func98 rfl trivial ?_ rfl
  simp only [Try.ntmps98, List.size_toArray, List.length_cons, List.length_nil, Nat.reduceAdd, Nat.reduceSub, Array.replicate_succ, Array.replicate_zero, List.push_toArray, List.append_toArray, List.nil_append, List.cons_append]
  gi_upto_region 1 with fail
  have hb0 : Below W.heap.size W (W.alloc (.cells #[.int .i64 v, .int .i64 (t : Int)] 118)) := (Below.refl _ _).alloc (Nat.le_refl _) _
  have HB0 := lh hb0
  have HBX := lh (HBX0.out.kp HP.out (KpR.of_below hb0))
  have HSB := lh (Blk.new W 118 #[.int .i64 v, .int .i64 (t : Int)])
  clear hb0
  generalize (W.alloc (.cells #[.int .i64 v, .int .i64 (t : Int)] 118)) = W0 at *
  obtain ⟨gw, hgw⟩ : ∃ g, W.heap.size = g := ⟨_, rfl⟩
  have HGW : Hid (W.heap.size ≤ gw) := lh (by omega)
  rw [hgw] at HSB ⊢
  clear hgw
  have HIH := lh ih
  clear ih
  have htk : t < k := by omega
  obtain ⟨x, hx⟩ : ∃ x, T.m.acts[t]? = some x := ⟨_, List.getElem?_eq_getElem (by omega)⟩
  obtain ⟨all, hA⟩ := HOK.out.at_ hx
  have HX := lh hx
  have HAT := lh hA
  have hfol : folP T.m T.L (q : Int) (d + 1) t v wl = if fromI T.m x ≠ v then folP T.m T.L (q : Int) d (t + 1) v wl else (if 0 ≤ toI T.m x then folP T.m T.L (q : Int) d (t + 1) (toI T.m x) (wl ++ [(t : Int) + 1]) else []) ++ (if sizeA T.m all x = heldAt all v then [] else folP T.m T.L (q : Int) d (t + 1) v wl) := by
   show (match T.m.acts[t]?, T.L[t]? with | some x, some all => _ | _, _ => _) = _
   rw [hx, hA.ha]
  have HFO := lh hfol
  have ht12 : t + 1 ≤ 12 := by have h1 := HOK.out.acts; omega
  have htkI : ((t : Int) == (k : Int)) = false := by simpa using (show ¬ (t : Int) = (k : Int) by omega)
  clear hx hA hfol
  have c0 := HBX.out.bt.cell 0
  have c0l := HBX.out.bt.lt
  have c3 := HBX.out.be.cell 0
  have c3l := HBX.out.be.lt
  have c4 := HBX.out.bs.cell 0
  have c5 := HBX.out.bs.cell 1
  have c4l := HBX.out.bs.lt
  have c6 := HBX.out.by_.cell 0
  have c6l := HBX.out.by_.lt
  have d0 := HSB.out.cell 0
  have d1 := HSB.out.cell 1
  have dl := HSB.out.lt
  gi_upto_region 4 with fail
  clear c0 c0l c3 c3l c4 c5 c4l c6 c6l d0 d1 dl
  clear htkI
  have HTA := lh (HBX.out.tb.at_ (by have := HB0.out.size; omega))
  obtain ⟨ba, oa, x9, e1, e2, e3, e4⟩ := recs_cell act_k (by omega) HTA.out.mix.acts (i := t) (by have h1 := HTA.out.mix.lenA; have h2 := (List.getElem?_eq_some_iff.1 HX.out).1; omega)
  obtain rfl : x = x9 := Option.some.inj (HX.out.symm.trans e3)
  have HAA := lh e1
  have HAC : Hid (ba < n0 ∧ ∀ j u, x.vals[j]? = some u → W0.cell? ⟨ba, oa + t * 4 + j, none⟩ = some u) := lh ⟨by have h := HBX.out.tb.mix.acts; obtain ⟨a9, h1, h2, _⟩ := h.2 (by have h1 := HTA.out.mix.lenA; have h2 := (List.getElem?_eq_some_iff.1 HX.out).1; omega); rw [e1] at h1; cases h1; exact h2, e4⟩
  have hna : t < T.na := by have h1 := HTA.out.mix.lenA; have h2 := (List.getElem?_eq_some_iff.1 HX.out).1; omega
  have HNA := lh hna
  clear e1 e2 e3 e4 hna
  refine Gr.wpIn_flow_old (G := KpR n0 n1) [([true, true, true, true, true, true, true, true, true], 9)] [false, false, false, false, false, false, false, false, false, false, true, true, true, true, true] [] (by kernel_rfl) (by kernel_rfl) (by kernel_rfl) (below_drewN (Below.refl _ _) 1) ?_
  refine Gr.wpFlow_cons (A := ?AW1) rfl ?hw1 ?_
  case hw1 =>
   rintro σ hσ of hof hcl
   have HOF := lh hof
   have HCL := lh hcl
   clear hof hcl
   have c0 : ∀ z, (of z).cell? ⟨gt, 0, none⟩ = some (.pointer (some ⟨T.g, 0, none⟩)) := fun z => (HBX.out.kp HP.out (HOF.out z)).bt.cell 0
   have c1 : ∀ z, (of z).cell? ⟨T.g, 2, none⟩ = some (.slice (some ⟨ba, oa, none⟩) T.na T.ca) := fun z => (HBX.out.kp HP.out (HOF.out z)).tb.blk.cell 2 |>.trans (by rw [← HAA.out]; rfl)
   have c2 : ∀ z, (of z).cell? ⟨T.g, 4, none⟩ = some (.slice T.AA T.nl T.cl) := fun z => (HBX.out.kp HP.out (HOF.out z)).tb.blk.cell 4
   have c3 : ∀ z, (of z).cell? ⟨ge, 0, none⟩ = some (.func (.func 98) #[] #[.pointer (some ⟨gs, 0, none⟩), .pointer (some ⟨gy, 0, none⟩), .pointer (some ⟨gt, 0, none⟩), .pointer (some ⟨ge, 0, none⟩)]) := fun z => (HBX.out.kp HP.out (HOF.out z)).be.cell 0
   have c4 : ∀ z, (of z).cell? ⟨gs, 0, none⟩ = some (.int .i64 (q : Int)) := fun z => (HBX.out.kp HP.out (HOF.out z)).bs.cell 0
   have c5 : ∀ z, (of z).cell? ⟨gs, 1, none⟩ = some (.int .i64 (k : Int)) := fun z => (HBX.out.kp HP.out (HOF.out z)).bs.cell 1
   have a0 : ∀ z, (of z).cell? ⟨ba, oa + t * 4, none⟩ = some (.int .i64 x.kind) := fun z => cell_kp (HOF.out z) HAC.out.1 (HAC.out.2 0 _ rfl)
   have a1 : ∀ z, (of z).cell? ⟨ba, oa + t * 4 + 1, none⟩ = some (.int .i64 x.fr) := fun z => cell_kp (HOF.out z) HAC.out.1 (HAC.out.2 1 _ rfl)
   have a2 : ∀ z, (of z).cell? ⟨ba, oa + t * 4 + 2, none⟩ = some (.int .i64 x.to) := fun z => cell_kp (HOF.out z) HAC.out.1 (HAC.out.2 2 _ rfl)
   have a3 : ∀ z, (of z).cell? ⟨ba, oa + t * 4 + 3, none⟩ = some (.int .i64 x.drops) := fun z => cell_kp (HOF.out z) HAC.out.1 (HAC.out.2 3 _ rfl)
   have hna := HNA.out
   have hfw := hfT
   simp only [pickB]
   iterate 9 (gi_big_quiet_step (fail))
   refine wpQuietIn_nil ?_
   exact rfl
  intro W1 hW
  have HB1 := lh hW
  clear hW
  gi_wp2
  refine ⟨trivial, (callsIn_wide.2 (callsIn_wide.1 (ends_in T x W1 ((HBX.out.kp HP.out (KpR.of_below HB1.out)).tb.at_ (by have h1 := HB0.out.size; have h2 := HB1.out.size; omega)) HAT.out.ok.kind))).mono ?_⟩
  rintro e W2 ⟨rfl, hb⟩
  obtain ⟨fr, hfr⟩ : ∃ fr, fromI T.m x = fr := ⟨_, rfl⟩
  obtain ⟨to, hto⟩ : ∃ to, toI T.m x = to := ⟨_, rfl⟩
  rw [hfr, hto]
  have HFR := lh hfr
  have HTO := lh hto
  have HB2 := lh (show Below W0.heap.size W0 W2 from HB1.out.trans (hb.mono HB1.out.size))
  have HBb := lh hb
  clear hfr hto hb
  gi_wp2
  refine ⟨trivial, KpR.of_below HBb.out, ?_⟩
  refine Gr.wpFlow_nil (A := ?AW2)  ?hw2 ?_
  case hw2 =>
   rintro σ hσ of hof hcl
   have HOF := lh hof
   have HCL := lh hcl
   clear hof hcl
   have hfw := hfT
   simp only [pickB]
   iterate 5 (gi_big_quiet_step (fail))
   refine wpQuietIn_nil ?_
   exact rfl
  intro W3 hW
  have HB3 := lh (show Below W0.heap.size W0 W3 from HB2.out.trans (hW.mono HB2.out.size))
  have hbw3 := HB0.out.trans (HB3.out.mono HB0.out.size)
  have HK := lh (show KpR n0 n1 W W3 from KpR.of_below hbw3)
  have HJC := lh (HJ.out _ _ _ HJ0.out hbw3)
  replace HBX := lh (HBX0.out.kp HP.out HK.out)
  replace HSB := lh (HSB.out.below HB3.out HSB.out.lt)
  have HSZ := lh (show n1 ≤ W3.heap.size from Nat.le_trans hsz hbw3.size)
  clear hW hbw3 HB1 HB2 HB3 HBb HAC HAA HTA HNA HB0 HBX0
  simp only [pickB]
  refine wpT_nil ?_
  by_cases hfv : fr = v
  ·
   have hfvb : (fr == v) = true := by simpa using hfv
   have HFV := lh hfv
   clear hfv
   have c0 := HBX.out.bt.cell 0
   have c0l := HBX.out.bt.lt
   have c3 := HBX.out.be.cell 0
   have c3l := HBX.out.be.lt
   have c4 := HBX.out.bs.cell 0
   have c5 := HBX.out.bs.cell 1
   have c4l := HBX.out.bs.lt
   have c6 := HBX.out.by_.cell 0
   have c6l := HBX.out.by_.lt
   have d0 := HSB.out.cell 0
   have d1 := HSB.out.cell 1
   have dl := HSB.out.lt
   gi_upto_region 7 with fail
   clear c0 c0l c3 c3l c4 c5 c4l c6 c6l d0 d1 dl
   clear hfvb
   by_cases ht0 : 0 ≤ to
   have HT12 := lh ht12
   have HGW9 : Hid (n1 ≤ gw) := lh (by have := HGW.out; omega)
   clear ht12
   ·
    have HTB0 := lh ht0
    have HTBB : Hid (decide (0 ≤ to) = true) := lh (decide_eq_true ht0)
    clear ht0
    refine Tr.wpIn_region_tree (G := KpB n0 n1 W3.heap.size) (V0 := W3) [([], [true, true, true, true, true, true, true, true, true, false, true, true], [9, 12]), ([9], [], [12]), ([12], [], [9]), ([9, 12], [], [13]), ([9, 12, 13], [], [14]), ([9, 12, 13, 14], [false, false, false, false, false, false, false, false, false, false, false, false, false, false, false, true, true], [])] 5 [] (by kernel_rfl) (by kernel_rfl) (by kernel_rfl) (below_drewN (Below.refl _ _) 1) ?_
    refine Tr.wpTree_two (A := ?AW3) rfl rfl rfl ?hw3 ?_ ?_
    case hw3 =>
     rintro σ hσ of hof hcl
     have HOF := lh hof
     have HCL := lh hcl
     clear hof hcl
     have c0 : ∀ z, (of z).cell? ⟨gt, 0, none⟩ = some (.pointer (some ⟨T.g, 0, none⟩)) := fun z => (HBX.out.kp HP.out (KpB.kp (HOF.out z))).bt.cell 0
     have c1 : ∀ z, (of z).cell? ⟨T.g, 2, none⟩ = some (.slice T.Aa T.na T.ca) := fun z => (HBX.out.kp HP.out (KpB.kp (HOF.out z))).tb.blk.cell 2
     have c2 : ∀ z, (of z).cell? ⟨T.g, 4, none⟩ = some (.slice T.AA T.nl T.cl) := fun z => (HBX.out.kp HP.out (KpB.kp (HOF.out z))).tb.blk.cell 4
     have c3 : ∀ z, (of z).cell? ⟨ge, 0, none⟩ = some (.func (.func 98) #[] #[.pointer (some ⟨gs, 0, none⟩), .pointer (some ⟨gy, 0, none⟩), .pointer (some ⟨gt, 0, none⟩), .pointer (some ⟨ge, 0, none⟩)]) := fun z => (HBX.out.kp HP.out (KpB.kp (HOF.out z))).be.cell 0
     have c4 : ∀ z, (of z).cell? ⟨gs, 0, none⟩ = some (.int .i64 (q : Int)) := fun z => (HBX.out.kp HP.out (KpB.kp (HOF.out z))).bs.cell 0
     have c5 : ∀ z, (of z).cell? ⟨gs, 1, none⟩ = some (.int .i64 (k : Int)) := fun z => (HBX.out.kp HP.out (KpB.kp (HOF.out z))).bs.cell 1
     have ht12 := HT12.out
     have htb := HTBB.out
     have hfw := hfT
     simp only [pickB]
     iterate 11 (gi_big_quiet_step (fail))
     refine wpQuietIn_nil ?_
     exact rfl
    ·
     intro W4 hW
     have HB4 := lh hW
     clear hW
     gi_wp2
     refine ⟨trivial, (callsIn_wide.2 (clone_int Aw nw cw wl W4 (HR.out.safe HS.out (HK.out.trans (KpR.of_below HB4.out))) (by unfold maxLen; have := HT12.out; omega) (by have := HT12.out; omega))).mono ?_⟩
     rintro e W5 ⟨A9, c9, rfl, hO, hCn, hb⟩
     have HO := lh (show Own W5 W3.heap.size 3 1 A9 nw c9 (wl.map (Value.int .i64)) from hO.mono HB4.out.size)
     have HBc := lh hb
     clear hO hCn hb
     gi_wp2
     first | refine ⟨trivial, KpB.of_below HBc.out, ?_⟩ | refine ⟨KpB.of_below HBc.out, ?_⟩
     refine Tr.wpTree_one (m := []) rfl rfl Gr.Quietly.none ?_
     intro W6 hW
     have HB6 := lh (show Below W3.heap.size W3 W6 from HB4.out.trans ((HBc.out.trans (hW.mono HBc.out.size)).mono HB4.out.size))
     replace HO := lh (HO.out.below hW (Nat.le_refl _))
     clear hW HBc HB4
     gi_wp2
     have hbs : Below W6.heap.size W6 (W6.alloc (.cells #[.int .i64 ((t : Int) + 1)] 3)) := (Below.refl _ _).alloc (Nat.le_refl _) _
     first | refine ⟨trivial, KpB.of_below hbs, ?_⟩ | refine ⟨KpB.of_below hbs, ?_⟩
     have HSL := lh (show IntsAt (W6.alloc (.cells #[.int .i64 ((t : Int) + 1)] 3)) (W6.alloc (.cells #[.int .i64 ((t : Int) + 1)] 3)).heap.size (some ⟨W6.heap.size, 0, none⟩) 1 [(t : Int) + 1] from IntsAt.new W6 3 [(t : Int) + 1] _ (by simp))
     have HBs := lh hbs
     clear hbs
     generalize (W6.alloc (.cells #[.int .i64 ((t : Int) + 1)] 3)) = W7 at *
     obtain ⟨gb, hgb⟩ : ∃ g, W6.heap.size = g := ⟨_, rfl⟩
     rw [hgb] at HSL ⊢
     clear hgb
     refine Tr.wpTree_one (m := []) rfl rfl Gr.Quietly.none ?_
     intro W8 hW
     have HB8 := lh (show Below W3.heap.size W3 W8 from HB6.out.trans ((HBs.out.trans (hW.mono HBs.out.size)).mono HB6.out.size))
     replace HO := lh ((HO.out.below HBs.out (Nat.le_refl _)).below hW (Nat.le_refl _))
     replace HSL := lh ((HSL.out.below hW).more hW.size)
     clear hW HBs HB6
     refine wpListIn_wanted (by first | rfl | (simp [Region.wanted, yielded]; done) | trace_state) ?_
     refine wpListIn_append_any rfl _ _ rfl elem_int rfl HO.out rfl HSL.out (ints_one [(t : Int) + 1]) (by unfold maxLen; have := HT12.out; omega) (by have := HT12.out; omega) (HB8.out.size) ?_
     intro A10 c10 W9 hown hg hA
     have HO10 := lh (show Own W9 W3.heap.size 3 1 A10 (nw + 1) c10 ((wl ++ [(t : Int) + 1]).map (Value.int .i64)) from by rw [List.map_append]; exact hown)
     have HK9 := lh (show KpB n0 n1 W3.heap.size W3 W9 from (KpB.of_below HB8.out).trans (KpB.of_grown hg (fun k e => by have h1 := own_row HO.out k e; exact h1.1)))
     have hup : KpB n0 n1 W3.heap.size W8 W9 := KpB.of_grown hg (fun k e => by have h1 := own_row HO.out k e; exact h1.1)
     have hbelow9 : Below W3.heap.size W3 W9 := HB8.out.grown hg HB8.out.size (fun k e => (own_row HO.out k e).1)
     have HBE9 := lh hbelow9
     clear hown hg hA hbelow9
     gi_wp2
     first | refine ⟨rfl, hup, ?_⟩ | refine ⟨trivial, hup, ?_⟩ | refine ⟨hup, ?_⟩
     clear hup HO HSL HB8
     refine Tr.wpTree_one (m := []) rfl rfl Gr.Quietly.none ?_
     intro W10 hW
     have HO11 := lh (HO10.out.below hW (Nat.le_refl _))
     have hbe10 : Below W3.heap.size W3 W10 := HBE9.out.trans (hW.mono HBE9.out.size)
     have HBE10 := lh hbe10
     have HBX10 := lh (HBX.out.kp HP.out (KpR.of_below hbe10))
     have HSZ10 := lh (Nat.le_trans HSZ.out hbe10.size)
     have HJ10 := lh (HJ.out _ _ _ HJC.out hbe10)
     clear hW hbe10 HO10 HBE9 HK9
     have htq := toI_small HOK.out.vess x
     rw [HTO.out] at htq
     have hih := HIH.out (t + 1) to A10 (nw + 1) c10 (wl ++ [(t : Int) + 1]) pre W10 HBX10.out HJ10.out (ints_of_own HO11.out (Nat.le_refl _)) (Safe.own HO11.out HSZ.out) (by omega) (by omega) HSZ10.out ⟨HTB0.out, htq⟩ (by have h9 := HNN.out; rw [HFO.out, if_neg (by rw [HFR.out, HFV.out]; simp), HTO.out, if_pos HTB0.out] at h9; simp only [List.length_append] at h9; omega)
     rw [show ((t + 1 : Nat) : Int) = (t : Int) + 1 from by omega] at hih
     gi_wp2
     refine ⟨trivial, (callsIn_wide.2 (callsIn_wide.1 hih)).mono ?_⟩
     rintro e W11 ⟨rfl, xs, hxs, hJ11, hk11⟩
     have HXS := lh hxs
     have HK11 := lh (show KpB n0 n1 W3.heap.size W10 W11 from KpB.of_kp hk11)
     have HK12' := lh (show KpR n0 n1 W3 W11 from (KpR.of_below HBE10.out).trans hk11)
     have HJ11 := lh hJ11
     clear hxs hJ11 hk11 hih htq HJ10 HBX10 HSZ10 HBE10 HO11
     gi_wp2
     first | refine ⟨rfl, HK11.out, ?_⟩ | refine ⟨trivial, HK11.out, ?_⟩ | refine ⟨HK11.out, ?_⟩
     clear HK11
     refine Tr.wpTree_end (A := ?AW4) rfl ?hw4 ?_
     case hw4 =>
      rintro σ hσ of hof hcl
      have HOF := lh hof
      have HCL := lh hcl
      clear hof hcl
      have htb := HTBB.out
      have hfw := hfT
      simp only [pickB]
      iterate 2 (gi_big_quiet_step (fail))
      refine wpQuietIn_nil ?_
      exact rfl
     intro W12 hW
     have HK7 := lh (show KpR n0 n1 W3 W12 from HK12'.out.trans (KpR.of_below hW))
     replace HJC := lh (HJ.out _ _ _ HJ11.out hW)
     clear hW HK12' HJ11
     simp only [pickB]
     refine wpT_nil ?_
     replace HBX := lh (HBX.out.kp HP.out HK7.out)
     replace HSB := lh (HK7.out.blk (.inr HGW9.out) HSB.out)
     replace HSZ := lh (Nat.le_trans HSZ.out HK7.out.1)
     replace HK := lh (HK.out.trans HK7.out)
     clear HK7
     gi_wp2
     have hfq := fromI_small HOK.out.vess x
     rw [HFR.out] at hfq
     obtain ⟨vq, hvq⟩ : ∃ vq : Nat, v = (vq : Int) := ⟨v.toNat, by have := HV.out; omega⟩
     have hvq4 : vq < 4 := by have := HV.out; omega
     have HTA := lh (HBX.out.tb.at_ (by have := HSZ.out; omega))
     have hil : t < T.nl := by
      have h1 := recs_n heldC_k (by omega) HTA.out.all
      have h2 := HOK.out.long
      have h3 := (List.getElem?_eq_some_iff.1 HX.out).1
      omega
     obtain ⟨bl, ol, all9, e1, e2, e3, e4⟩ := recs_cell heldC_k (by omega) HTA.out.all hil
     obtain rfl : all = all9 := Option.some.inj (HAT.out.ha.symm.trans e3)
     have HAA := lh e1
     have HAC : Hid (bl < n0 ∧ W12.cell? ⟨bl, ol + t * 4 + vq, none⟩ = some (.int .i64 (heldAt all (vq : Int)))) := lh ⟨by obtain ⟨a9, h1, h2, _⟩ := HBX.out.tb.all.2 (by omega); rw [e1] at h1; cases h1; exact h2, e4 vq _ (heldC_l all hvq4)⟩
     have HVQ := lh hvq
     have HIL := lh hil
     have HVQ4 := lh hvq4
     have hnl : T.nl ≤ 13 := HTA.out.small.2.2.2
     have HNL := lh hnl
     obtain ⟨n, hn⟩ : ∃ n, sizeA T.m all x = n := ⟨_, rfl⟩
     have HN := lh hn
     clear e1 e2 e3 e4 hfq hvq hil hvq4 hn hnl
     by_cases hnal : n = heldAt all v
     ·
      have hnb : (n == heldAt all (vq : Int)) = true := by rw [← HVQ.out]; simpa using hnal
      have HNB := lh hnb
      have HNAL := lh hnal
      clear hnb hnal
      refine Gr.wpIn_flow_old (G := KpR n0 n1) [([true, true, false, true, true, true, true, true, true, true, true, true], 2), ([false, false, false, false, false, false, false, false, false, false, false, false, true, true, true, true, true, true, true, true, true], 21)] [false, false, false, false, false, false, false, false, false, false, false, false, false, false, false, false, false, false, false, false, false, false, true, true] [] (by kernel_rfl) (by kernel_rfl) (by kernel_rfl) (below_drewN (Below.refl _ _) 1) ?_
      refine Gr.wpFlow_cons (A := ?AW5) rfl ?hw5 ?_
      case hw5 =>
       rintro σ hσ of hof hcl
       have HOF := lh hof
       have HCL := lh hcl
       clear hof hcl
       have c0 : ∀ z, (of z).cell? ⟨gt, 0, none⟩ = some (.pointer (some ⟨T.g, 0, none⟩)) := fun z => (HBX.out.kp HP.out (HOF.out z)).bt.cell 0
       have c1 : ∀ z, (of z).cell? ⟨T.g, 2, none⟩ = some (.slice T.Aa T.na T.ca) := fun z => (HBX.out.kp HP.out (HOF.out z)).tb.blk.cell 2
       have c2 : ∀ z, (of z).cell? ⟨T.g, 4, none⟩ = some (.slice (some ⟨bl, ol, none⟩) T.nl T.cl) := fun z => (HBX.out.kp HP.out (HOF.out z)).tb.blk.cell 4 |>.trans (by rw [← HAA.out]; rfl)
       have c3 : ∀ z, (of z).cell? ⟨ge, 0, none⟩ = some (.func (.func 98) #[] #[.pointer (some ⟨gs, 0, none⟩), .pointer (some ⟨gy, 0, none⟩), .pointer (some ⟨gt, 0, none⟩), .pointer (some ⟨ge, 0, none⟩)]) := fun z => (HBX.out.kp HP.out (HOF.out z)).be.cell 0
       have c4 : ∀ z, (of z).cell? ⟨gs, 0, none⟩ = some (.int .i64 (q : Int)) := fun z => (HBX.out.kp HP.out (HOF.out z)).bs.cell 0
       have c5 : ∀ z, (of z).cell? ⟨gs, 1, none⟩ = some (.int .i64 (k : Int)) := fun z => (HBX.out.kp HP.out (HOF.out z)).bs.cell 1
       have ch : ∀ z, (of z).cell? ⟨bl, ol + t * 4 + vq, none⟩ = some (.int .i64 (heldAt all (vq : Int))) := fun z => cell_kp (HOF.out z) HAC.out.1 HAC.out.2
       have b0 : ∀ z, (of z).cell? ⟨gw, 0, none⟩ = some (.int .i64 v) := fun z => ((HOF.out z).blk (.inr HGW9.out) HSB.out).cell 0
       have hil := HIL.out
       have hnl := HNL.out
       have hv4 := HVQ4.out
       have hvi : (vq : Int) < 4 := by omega
       have hvv := HFV.out
       have hvq := HVQ.out
       have hnb := HNB.out
       have hfw := hfT
       simp only [pickB]
       iterate 11 (gi_big_quiet_step (fail))
       refine wpQuietIn_nil ?_
       exact rfl
      intro W20 hW
      have HB20 := lh hW
      clear hW
      gi_wp2
      refine ⟨trivial, (callsIn_wide.2 (callsIn_wide.1 (size_in T t x all W20 ((HBX.out.kp HP.out (KpR.of_below HB20.out)).tb.at_ (by have h1 := HSZ.out; have h2 := HB20.out.size; omega)) HX.out HAT.out.ha HAT.out.ok.kind HAT.out.four))).mono ?_⟩
      rintro e W21 ⟨rfl, hb⟩
      rw [HN.out]
      have HB21 := lh (show Below W12.heap.size W12 W21 from HB20.out.trans (hb.mono HB20.out.size))
      have HBb := lh hb
      clear hb
      gi_wp2
      refine ⟨trivial, KpR.of_below HBb.out, ?_⟩
      have HK21 := lh (show KpR n0 n1 W12 W21 from KpR.of_below HB21.out)
      replace HBX := lh (HBX.out.kp HP.out HK21.out)
      replace HSB := lh (HK21.out.blk (.inr HGW9.out) HSB.out)
      replace HSZ := lh (Nat.le_trans HSZ.out HK21.out.1)
      replace HK := lh (HK.out.trans HK21.out)
      replace HJC := lh (HJ.out _ _ _ HJC.out HB21.out)
      clear HK21 HB21 HBb HB20 HAC
      refine Gr.wpFlow_cons (A := ?AW6) rfl ?hw6 ?_
      case hw6 =>
       rintro σ hσ of hof hcl
       have HOF := lh hof
       have HCL := lh hcl
       clear hof hcl
       have c0 : ∀ z, (of z).cell? ⟨gt, 0, none⟩ = some (.pointer (some ⟨T.g, 0, none⟩)) := fun z => (HBX.out.kp HP.out (HOF.out z)).bt.cell 0
       have c1 : ∀ z, (of z).cell? ⟨T.g, 2, none⟩ = some (.slice T.Aa T.na T.ca) := fun z => (HBX.out.kp HP.out (HOF.out z)).tb.blk.cell 2
       have c2 : ∀ z, (of z).cell? ⟨T.g, 4, none⟩ = some (.slice T.AA T.nl T.cl) := fun z => (HBX.out.kp HP.out (HOF.out z)).tb.blk.cell 4
       have c3 : ∀ z, (of z).cell? ⟨ge, 0, none⟩ = some (.func (.func 98) #[] #[.pointer (some ⟨gs, 0, none⟩), .pointer (some ⟨gy, 0, none⟩), .pointer (some ⟨gt, 0, none⟩), .pointer (some ⟨ge, 0, none⟩)]) := fun z => (HBX.out.kp HP.out (HOF.out z)).be.cell 0
       have c4 : ∀ z, (of z).cell? ⟨gs, 0, none⟩ = some (.int .i64 (q : Int)) := fun z => (HBX.out.kp HP.out (HOF.out z)).bs.cell 0
       have c5 : ∀ z, (of z).cell? ⟨gs, 1, none⟩ = some (.int .i64 (k : Int)) := fun z => (HBX.out.kp HP.out (HOF.out z)).bs.cell 1
       have b0 : ∀ z, (of z).cell? ⟨gw, 0, none⟩ = some (.int .i64 v) := fun z => ((HOF.out z).blk (.inr HGW9.out) HSB.out).cell 0
       have hnb := HNB.out
       have ht12 := HT12.out
       have hfw := hfT
       simp only [pickB]
       iterate 9 (gi_big_quiet_step (fail))
       refine wpQuietIn_nil ?_
       exact rfl
      intro W22 hW
      have HB22 := lh hW
      clear hW
      gi_wp2
      refine ⟨fun _ h => (by cases h), ?_⟩
      gi_wp2
      first | refine ⟨rfl, KpR.of_below (Below.refl _ _), ?_⟩ | refine ⟨trivial, KpR.of_below (Below.refl _ _), ?_⟩ | refine ⟨KpR.of_below (Below.refl _ _), ?_⟩
      have HK22 := lh (show KpR n0 n1 W21 W22 from KpR.of_below HB22.out)
      replace HK := lh (HK.out.trans HK22.out)
      have HJE := lh (HJ.out _ _ _ HJC.out HB22.out)
      clear HK22
      refine Gr.wpFlow_nil (A := ?AW7)  ?hw7 ?_
      case hw7 =>
       rintro σ hσ of hof hcl
       have HOF := lh hof
       have HCL := lh hcl
       clear hof hcl
       have hnb := HNB.out
       have hfw := hfT
       simp only [pickB]
       iterate 2 (gi_big_quiet_step (fail))
       refine wpQuietIn_nil ?_
       exact rfl
      intro W24 hW
      have HB24 := lh hW
      clear hW
      simp only [pickB]
      refine wpT_nil ?_
      gi_wp2
      refine bodyPost_ret (v := .bool true) (by simp [results, Try.results98, go_sem]) rfl ?_
      have HJF := HJ.out _ _ _ HJE.out HB24.out
      refine ⟨rfl, xs, ?_, ?_, HK.out.trans (KpR.of_below HB24.out)⟩
      ·rw [HFO.out, if_neg (by rw [HFR.out, HFV.out]; simp), HTO.out, HN.out, if_pos HTB0.out, if_pos HNAL.out]
       rw [HXS.out, List.append_nil]
      ·exact HJF
     ·
      have hnb : (n == heldAt all (vq : Int)) = false := by rw [← HVQ.out]; simpa using hnal
      have HNB := lh hnb
      have HNAL := lh hnal
      clear hnb hnal
      refine Gr.wpIn_flow_old (G := KpR n0 n1) [([true, true, false, true, true, true, true, true, true, true, true, true], 2), ([false, false, false, false, false, false, false, false, false, false, false, false, true, true, true, true, true, true, true, true, true], 21)] [false, false, false, false, false, false, false, false, false, false, false, false, false, false, false, false, false, false, false, false, false, false, true, true] [] (by kernel_rfl) (by kernel_rfl) (by kernel_rfl) (below_drewN (Below.refl _ _) 1) ?_
      refine Gr.wpFlow_cons (A := ?AW8) rfl ?hw8 ?_
      case hw8 =>
       rintro σ hσ of hof hcl
       have HOF := lh hof
       have HCL := lh hcl
       clear hof hcl
       have c0 : ∀ z, (of z).cell? ⟨gt, 0, none⟩ = some (.pointer (some ⟨T.g, 0, none⟩)) := fun z => (HBX.out.kp HP.out (HOF.out z)).bt.cell 0
       have c1 : ∀ z, (of z).cell? ⟨T.g, 2, none⟩ = some (.slice T.Aa T.na T.ca) := fun z => (HBX.out.kp HP.out (HOF.out z)).tb.blk.cell 2
       have c2 : ∀ z, (of z).cell? ⟨T.g, 4, none⟩ = some (.slice (some ⟨bl, ol, none⟩) T.nl T.cl) := fun z => (HBX.out.kp HP.out (HOF.out z)).tb.blk.cell 4 |>.trans (by rw [← HAA.out]; rfl)
       have c3 : ∀ z, (of z).cell? ⟨ge, 0, none⟩ = some (.func (.func 98) #[] #[.pointer (some ⟨gs, 0, none⟩), .pointer (some ⟨gy, 0, none⟩), .pointer (some ⟨gt, 0, none⟩), .pointer (some ⟨ge, 0, none⟩)]) := fun z => (HBX.out.kp HP.out (HOF.out z)).be.cell 0
       have c4 : ∀ z, (of z).cell? ⟨gs, 0, none⟩ = some (.int .i64 (q : Int)) := fun z => (HBX.out.kp HP.out (HOF.out z)).bs.cell 0
       have c5 : ∀ z, (of z).cell? ⟨gs, 1, none⟩ = some (.int .i64 (k : Int)) := fun z => (HBX.out.kp HP.out (HOF.out z)).bs.cell 1
       have ch : ∀ z, (of z).cell? ⟨bl, ol + t * 4 + vq, none⟩ = some (.int .i64 (heldAt all (vq : Int))) := fun z => cell_kp (HOF.out z) HAC.out.1 HAC.out.2
       have b0 : ∀ z, (of z).cell? ⟨gw, 0, none⟩ = some (.int .i64 v) := fun z => ((HOF.out z).blk (.inr HGW9.out) HSB.out).cell 0
       have hil := HIL.out
       have hnl := HNL.out
       have hv4 := HVQ4.out
       have hvi : (vq : Int) < 4 := by omega
       have hvv := HFV.out
       have hvq := HVQ.out
       have hnb := HNB.out
       have hfw := hfT
       simp only [pickB]
       iterate 11 (gi_big_quiet_step (fail))
       refine wpQuietIn_nil ?_
       exact rfl
      intro W20 hW
      have HB20 := lh hW
      clear hW
      gi_wp2
      refine ⟨trivial, (callsIn_wide.2 (callsIn_wide.1 (size_in T t x all W20 ((HBX.out.kp HP.out (KpR.of_below HB20.out)).tb.at_ (by have h1 := HSZ.out; have h2 := HB20.out.size; omega)) HX.out HAT.out.ha HAT.out.ok.kind HAT.out.four))).mono ?_⟩
      rintro e W21 ⟨rfl, hb⟩
      rw [HN.out]
      have HB21 := lh (show Below W12.heap.size W12 W21 from HB20.out.trans (hb.mono HB20.out.size))
      have HBb := lh hb
      clear hb
      gi_wp2
      refine ⟨trivial, KpR.of_below HBb.out, ?_⟩
      have HK21 := lh (show KpR n0 n1 W12 W21 from KpR.of_below HB21.out)
      replace HBX := lh (HBX.out.kp HP.out HK21.out)
      replace HSB := lh (HK21.out.blk (.inr HGW9.out) HSB.out)
      replace HSZ := lh (Nat.le_trans HSZ.out HK21.out.1)
      replace HK := lh (HK.out.trans HK21.out)
      replace HJC := lh (HJ.out _ _ _ HJC.out HB21.out)
      clear HK21 HB21 HBb HB20 HAC
      refine Gr.wpFlow_cons (A := ?AW9) rfl ?hw9 ?_
      case hw9 =>
       rintro σ hσ of hof hcl
       have HOF := lh hof
       have HCL := lh hcl
       clear hof hcl
       have c0 : ∀ z, (of z).cell? ⟨gt, 0, none⟩ = some (.pointer (some ⟨T.g, 0, none⟩)) := fun z => (HBX.out.kp HP.out (HOF.out z)).bt.cell 0
       have c1 : ∀ z, (of z).cell? ⟨T.g, 2, none⟩ = some (.slice T.Aa T.na T.ca) := fun z => (HBX.out.kp HP.out (HOF.out z)).tb.blk.cell 2
       have c2 : ∀ z, (of z).cell? ⟨T.g, 4, none⟩ = some (.slice T.AA T.nl T.cl) := fun z => (HBX.out.kp HP.out (HOF.out z)).tb.blk.cell 4
       have c3 : ∀ z, (of z).cell? ⟨ge, 0, none⟩ = some (.func (.func 98) #[] #[.pointer (some ⟨gs, 0, none⟩), .pointer (some ⟨gy, 0, none⟩), .pointer (some ⟨gt, 0, none⟩), .pointer (some ⟨ge, 0, none⟩)]) := fun z => (HBX.out.kp HP.out (HOF.out z)).be.cell 0
       have c4 : ∀ z, (of z).cell? ⟨gs, 0, none⟩ = some (.int .i64 (q : Int)) := fun z => (HBX.out.kp HP.out (HOF.out z)).bs.cell 0
       have c5 : ∀ z, (of z).cell? ⟨gs, 1, none⟩ = some (.int .i64 (k : Int)) := fun z => (HBX.out.kp HP.out (HOF.out z)).bs.cell 1
       have b0 : ∀ z, (of z).cell? ⟨gw, 0, none⟩ = some (.int .i64 v) := fun z => ((HOF.out z).blk (.inr HGW9.out) HSB.out).cell 0
       have hnb := HNB.out
       have ht12 := HT12.out
       have hfw := hfT
       simp only [pickB]
       iterate 9 (gi_big_quiet_step (fail))
       refine wpQuietIn_nil ?_
       exact rfl
      intro W22 hW
      have HB22 := lh hW
      clear hW
      have HK22 := lh (show KpR n0 n1 W21 W22 from KpR.of_below HB22.out)
      replace HBX := lh (HBX.out.kp HP.out HK22.out)
      replace HSZ := lh (Nat.le_trans HSZ.out HK22.out.1)
      replace HK := lh (HK.out.trans HK22.out)
      replace HJC := lh (HJ.out _ _ _ HJC.out HB22.out)
      clear HK22
      have hih := HIH.out (t + 1) v Aw nw cw wl (pre ++ xs) W22 HBX.out HJC.out (HR.out.safe HS.out HK.out) (HS.out.kp HK.out) (by omega) (by omega) HSZ.out HV.out (by have h9 := HNN.out; rw [HFO.out, if_neg (by rw [HFR.out, HFV.out]; simp), HTO.out, HN.out, if_pos HTB0.out, if_neg HNAL.out] at h9; have h8 := congrArg List.length HXS.out; rw [List.length_map] at h8; simp only [List.length_append] at h9 ⊢; omega)
      rw [show ((t + 1 : Nat) : Int) = (t : Int) + 1 from by omega] at hih
      gi_wp2
      refine ⟨trivial, (callsIn_wide.2 (callsIn_wide.1 hih)).mono ?_⟩
      rintro e W23 ⟨rfl, ys, hys, hJ23, hk23⟩
      have HYS := lh hys
      have HJE := lh hJ23
      have HK23 := lh hk23
      replace HK := lh (HK.out.trans HK23.out)
      clear hys hJ23 hk23 hih
      gi_wp2
      refine ⟨trivial, HK23.out, ?_⟩
      clear HK23
      refine Gr.wpFlow_nil (A := ?AW10)  ?hw10 ?_
      case hw10 =>
       rintro σ hσ of hof hcl
       have HOF := lh hof
       have HCL := lh hcl
       clear hof hcl
       have hnb := HNB.out
       have hfw := hfT
       simp only [pickB]
       iterate 2 (gi_big_quiet_step (fail))
       refine wpQuietIn_nil ?_
       exact rfl
      intro W24 hW
      have HB24 := lh hW
      clear hW
      simp only [pickB]
      refine wpT_nil ?_
      gi_wp2
      refine bodyPost_ret (v := .bool true) (by simp [results, Try.results98, go_sem]) rfl ?_
      have HJF := HJ.out _ _ _ HJE.out HB24.out
      refine ⟨rfl, (xs ++ ys), ?_, ?_, HK.out.trans (KpR.of_below HB24.out)⟩
      ·rw [HFO.out, if_neg (by rw [HFR.out, HFV.out]; simp), HTO.out, HN.out, if_pos HTB0.out, if_neg HNAL.out]
       rw [List.map_append, HXS.out, HYS.out]
      ·rw [← List.append_assoc]; exact HJF
    ·
     intro W4 hW
     have HB4 := lh hW
     clear hW
     gi_wp2
     have hbs : Below W4.heap.size W4 (W4.alloc (.cells #[.int .i64 ((t : Int) + 1)] 3)) := (Below.refl _ _).alloc (Nat.le_refl _) _
     first | refine ⟨trivial, KpB.of_below hbs, ?_⟩ | refine ⟨KpB.of_below hbs, ?_⟩
     have HSL := lh (show IntsAt (W4.alloc (.cells #[.int .i64 ((t : Int) + 1)] 3)) (W4.alloc (.cells #[.int .i64 ((t : Int) + 1)] 3)).heap.size (some ⟨W4.heap.size, 0, none⟩) 1 [(t : Int) + 1] from IntsAt.new W4 3 [(t : Int) + 1] _ (by simp))
     have HBs := lh hbs
     clear hbs
     generalize (W4.alloc (.cells #[.int .i64 ((t : Int) + 1)] 3)) = W5 at *
     obtain ⟨gb, hgb⟩ : ∃ g, W4.heap.size = g := ⟨_, rfl⟩
     rw [hgb] at HSL ⊢
     clear hgb
     refine Tr.wpTree_one (m := []) rfl rfl Gr.Quietly.none ?_
     intro W6 hW
     have HB6 := lh (show Below W3.heap.size W3 W6 from HB4.out.trans ((HBs.out.trans (hW.mono HBs.out.size)).mono HB4.out.size))
     replace HSL := lh ((HSL.out.below hW).more hW.size)
     clear hW HBs HB4
     gi_wp2
     refine ⟨trivial, (callsIn_wide.2 (clone_int Aw nw cw wl W6 (HR.out.safe HS.out (HK.out.trans (KpR.of_below HB6.out))) (by unfold maxLen; have := HT12.out; omega) (by have := HT12.out; omega))).mono ?_⟩
     rintro e W7 ⟨A9, c9, rfl, hO, hCn, hb⟩
     have HO := lh (show Own W7 W3.heap.size 3 1 A9 nw c9 (wl.map (Value.int .i64)) from hO.mono HB6.out.size)
     have HBc := lh hb
     clear hO hCn hb
     gi_wp2
     first | refine ⟨trivial, KpB.of_below HBc.out, ?_⟩ | refine ⟨KpB.of_below HBc.out, ?_⟩
     refine Tr.wpTree_one (m := []) rfl rfl Gr.Quietly.none ?_
     intro W8 hW
     have HB8 := lh (show Below W3.heap.size W3 W8 from HB6.out.trans ((HBc.out.trans (hW.mono HBc.out.size)).mono HB6.out.size))
     replace HO := lh (HO.out.below hW (Nat.le_refl _))
     replace HSL := lh (((HSL.out.below HBc.out).more HBc.out.size).below hW |>.more hW.size)
     clear hW HBc HB6
     refine wpListIn_wanted (by first | rfl | (simp [Region.wanted, yielded]; done) | trace_state) ?_
     refine wpListIn_append_any rfl _ _ rfl elem_int rfl HO.out rfl HSL.out (ints_one [(t : Int) + 1]) (by unfold maxLen; have := HT12.out; omega) (by have := HT12.out; omega) (HB8.out.size) ?_
     intro A10 c10 W9 hown hg hA
     have HO10 := lh (show Own W9 W3.heap.size 3 1 A10 (nw + 1) c10 ((wl ++ [(t : Int) + 1]).map (Value.int .i64)) from by rw [List.map_append]; exact hown)
     have HK9 := lh (show KpB n0 n1 W3.heap.size W3 W9 from (KpB.of_below HB8.out).trans (KpB.of_grown hg (fun k e => by have h1 := own_row HO.out k e; exact h1.1)))
     have hup : KpB n0 n1 W3.heap.size W8 W9 := KpB.of_grown hg (fun k e => by have h1 := own_row HO.out k e; exact h1.1)
     have hbelow9 : Below W3.heap.size W3 W9 := HB8.out.grown hg HB8.out.size (fun k e => (own_row HO.out k e).1)
     have HBE9 := lh hbelow9
     clear hown hg hA hbelow9
     gi_wp2
     first | refine ⟨rfl, hup, ?_⟩ | refine ⟨trivial, hup, ?_⟩ | refine ⟨hup, ?_⟩
     clear hup HO HSL HB8
     refine Tr.wpTree_one (m := []) rfl rfl Gr.Quietly.none ?_
     intro W10 hW
     have HO11 := lh (HO10.out.below hW (Nat.le_refl _))
     have hbe10 : Below W3.heap.size W3 W10 := HBE9.out.trans (hW.mono HBE9.out.size)
     have HBE10 := lh hbe10
     have HBX10 := lh (HBX.out.kp HP.out (KpR.of_below hbe10))
     have HSZ10 := lh (Nat.le_trans HSZ.out hbe10.size)
     have HJ10 := lh (HJ.out _ _ _ HJC.out hbe10)
     clear hW hbe10 HO10 HBE9 HK9
     have htq := toI_small HOK.out.vess x
     rw [HTO.out] at htq
     have hih := HIH.out (t + 1) to A10 (nw + 1) c10 (wl ++ [(t : Int) + 1]) pre W10 HBX10.out HJ10.out (ints_of_own HO11.out (Nat.le_refl _)) (Safe.own HO11.out HSZ.out) (by omega) (by omega) HSZ10.out ⟨HTB0.out, htq⟩ (by have h9 := HNN.out; rw [HFO.out, if_neg (by rw [HFR.out, HFV.out]; simp), HTO.out, if_pos HTB0.out] at h9; simp only [List.length_append] at h9; omega)
     rw [show ((t + 1 : Nat) : Int) = (t : Int) + 1 from by omega] at hih
     gi_wp2
     refine ⟨trivial, (callsIn_wide.2 (callsIn_wide.1 hih)).mono ?_⟩
     rintro e W11 ⟨rfl, xs, hxs, hJ11, hk11⟩
     have HXS := lh hxs
     have HK11 := lh (show KpB n0 n1 W3.heap.size W10 W11 from KpB.of_kp hk11)
     have HK12' := lh (show KpR n0 n1 W3 W11 from (KpR.of_below HBE10.out).trans hk11)
     have HJ11 := lh hJ11
     clear hxs hJ11 hk11 hih htq HJ10 HBX10 HSZ10 HBE10 HO11
     gi_wp2
     first | refine ⟨rfl, HK11.out, ?_⟩ | refine ⟨trivial, HK11.out, ?_⟩ | refine ⟨HK11.out, ?_⟩
     clear HK11
     refine Tr.wpTree_end (A := ?AW11) rfl ?hw11 ?_
     case hw11 =>
      rintro σ hσ of hof hcl
      have HOF := lh hof
      have HCL := lh hcl
      clear hof hcl
      have htb := HTBB.out
      have hfw := hfT
      simp only [pickB]
      iterate 2 (gi_big_quiet_step (fail))
      refine wpQuietIn_nil ?_
      exact rfl
     intro W12 hW
     have HK7 := lh (show KpR n0 n1 W3 W12 from HK12'.out.trans (KpR.of_below hW))
     replace HJC := lh (HJ.out _ _ _ HJ11.out hW)
     clear hW HK12' HJ11
     simp only [pickB]
     refine wpT_nil ?_
     replace HBX := lh (HBX.out.kp HP.out HK7.out)
     replace HSB := lh (HK7.out.blk (.inr HGW9.out) HSB.out)
     replace HSZ := lh (Nat.le_trans HSZ.out HK7.out.1)
     replace HK := lh (HK.out.trans HK7.out)
     clear HK7
     gi_wp2
     have hfq := fromI_small HOK.out.vess x
     rw [HFR.out] at hfq
     obtain ⟨vq, hvq⟩ : ∃ vq : Nat, v = (vq : Int) := ⟨v.toNat, by have := HV.out; omega⟩
     have hvq4 : vq < 4 := by have := HV.out; omega
     have HTA := lh (HBX.out.tb.at_ (by have := HSZ.out; omega))
     have hil : t < T.nl := by
      have h1 := recs_n heldC_k (by omega) HTA.out.all
      have h2 := HOK.out.long
      have h3 := (List.getElem?_eq_some_iff.1 HX.out).1
      omega
     obtain ⟨bl, ol, all9, e1, e2, e3, e4⟩ := recs_cell heldC_k (by omega) HTA.out.all hil
     obtain rfl : all = all9 := Option.some.inj (HAT.out.ha.symm.trans e3)
     have HAA := lh e1
     have HAC : Hid (bl < n0 ∧ W12.cell? ⟨bl, ol + t * 4 + vq, none⟩ = some (.int .i64 (heldAt all (vq : Int)))) := lh ⟨by obtain ⟨a9, h1, h2, _⟩ := HBX.out.tb.all.2 (by omega); rw [e1] at h1; cases h1; exact h2, e4 vq _ (heldC_l all hvq4)⟩
     have HVQ := lh hvq
     have HIL := lh hil
     have HVQ4 := lh hvq4
     have hnl : T.nl ≤ 13 := HTA.out.small.2.2.2
     have HNL := lh hnl
     obtain ⟨n, hn⟩ : ∃ n, sizeA T.m all x = n := ⟨_, rfl⟩
     have HN := lh hn
     clear e1 e2 e3 e4 hfq hvq hil hvq4 hn hnl
     by_cases hnal : n = heldAt all v
     ·
      have hnb : (n == heldAt all (vq : Int)) = true := by rw [← HVQ.out]; simpa using hnal
      have HNB := lh hnb
      have HNAL := lh hnal
      clear hnb hnal
      refine Gr.wpIn_flow_old (G := KpR n0 n1) [([true, true, false, true, true, true, true, true, true, true, true, true], 2), ([false, false, false, false, false, false, false, false, false, false, false, false, true, true, true, true, true, true, true, true, true], 21)] [false, false, false, false, false, false, false, false, false, false, false, false, false, false, false, false, false, false, false, false, false, false, true, true] [] (by kernel_rfl) (by kernel_rfl) (by kernel_rfl) (below_drewN (Below.refl _ _) 1) ?_
      refine Gr.wpFlow_cons (A := ?AW12) rfl ?hw12 ?_
      case hw12 =>
       rintro σ hσ of hof hcl
       have HOF := lh hof
       have HCL := lh hcl
       clear hof hcl
       have c0 : ∀ z, (of z).cell? ⟨gt, 0, none⟩ = some (.pointer (some ⟨T.g, 0, none⟩)) := fun z => (HBX.out.kp HP.out (HOF.out z)).bt.cell 0
       have c1 : ∀ z, (of z).cell? ⟨T.g, 2, none⟩ = some (.slice T.Aa T.na T.ca) := fun z => (HBX.out.kp HP.out (HOF.out z)).tb.blk.cell 2
       have c2 : ∀ z, (of z).cell? ⟨T.g, 4, none⟩ = some (.slice (some ⟨bl, ol, none⟩) T.nl T.cl) := fun z => (HBX.out.kp HP.out (HOF.out z)).tb.blk.cell 4 |>.trans (by rw [← HAA.out]; rfl)
       have c3 : ∀ z, (of z).cell? ⟨ge, 0, none⟩ = some (.func (.func 98) #[] #[.pointer (some ⟨gs, 0, none⟩), .pointer (some ⟨gy, 0, none⟩), .pointer (some ⟨gt, 0, none⟩), .pointer (some ⟨ge, 0, none⟩)]) := fun z => (HBX.out.kp HP.out (HOF.out z)).be.cell 0
       have c4 : ∀ z, (of z).cell? ⟨gs, 0, none⟩ = some (.int .i64 (q : Int)) := fun z => (HBX.out.kp HP.out (HOF.out z)).bs.cell 0
       have c5 : ∀ z, (of z).cell? ⟨gs, 1, none⟩ = some (.int .i64 (k : Int)) := fun z => (HBX.out.kp HP.out (HOF.out z)).bs.cell 1
       have ch : ∀ z, (of z).cell? ⟨bl, ol + t * 4 + vq, none⟩ = some (.int .i64 (heldAt all (vq : Int))) := fun z => cell_kp (HOF.out z) HAC.out.1 HAC.out.2
       have b0 : ∀ z, (of z).cell? ⟨gw, 0, none⟩ = some (.int .i64 v) := fun z => ((HOF.out z).blk (.inr HGW9.out) HSB.out).cell 0
       have hil := HIL.out
       have hnl := HNL.out
       have hv4 := HVQ4.out
       have hvi : (vq : Int) < 4 := by omega
       have hvv := HFV.out
       have hvq := HVQ.out
       have hnb := HNB.out
       have hfw := hfT
       simp only [pickB]
       iterate 11 (gi_big_quiet_step (fail))
       refine wpQuietIn_nil ?_
       exact rfl
      intro W20 hW
      have HB20 := lh hW
      clear hW
      gi_wp2
      refine ⟨trivial, (callsIn_wide.2 (callsIn_wide.1 (size_in T t x all W20 ((HBX.out.kp HP.out (KpR.of_below HB20.out)).tb.at_ (by have h1 := HSZ.out; have h2 := HB20.out.size; omega)) HX.out HAT.out.ha HAT.out.ok.kind HAT.out.four))).mono ?_⟩
      rintro e W21 ⟨rfl, hb⟩
      rw [HN.out]
      have HB21 := lh (show Below W12.heap.size W12 W21 from HB20.out.trans (hb.mono HB20.out.size))
      have HBb := lh hb
      clear hb
      gi_wp2
      refine ⟨trivial, KpR.of_below HBb.out, ?_⟩
      have HK21 := lh (show KpR n0 n1 W12 W21 from KpR.of_below HB21.out)
      replace HBX := lh (HBX.out.kp HP.out HK21.out)
      replace HSB := lh (HK21.out.blk (.inr HGW9.out) HSB.out)
      replace HSZ := lh (Nat.le_trans HSZ.out HK21.out.1)
      replace HK := lh (HK.out.trans HK21.out)
      replace HJC := lh (HJ.out _ _ _ HJC.out HB21.out)
      clear HK21 HB21 HBb HB20 HAC
      refine Gr.wpFlow_cons (A := ?AW13) rfl ?hw13 ?_
      case hw13 =>
       rintro σ hσ of hof hcl
       have HOF := lh hof
       have HCL := lh hcl
       clear hof hcl
       have c0 : ∀ z, (of z).cell? ⟨gt, 0, none⟩ = some (.pointer (some ⟨T.g, 0, none⟩)) := fun z => (HBX.out.kp HP.out (HOF.out z)).bt.cell 0
       have c1 : ∀ z, (of z).cell? ⟨T.g, 2, none⟩ = some (.slice T.Aa T.na T.ca) := fun z => (HBX.out.kp HP.out (HOF.out z)).tb.blk.cell 2
       have c2 : ∀ z, (of z).cell? ⟨T.g, 4, none⟩ = some (.slice T.AA T.nl T.cl) := fun z => (HBX.out.kp HP.out (HOF.out z)).tb.blk.cell 4
       have c3 : ∀ z, (of z).cell? ⟨ge, 0, none⟩ = some (.func (.func 98) #[] #[.pointer (some ⟨gs, 0, none⟩), .pointer (some ⟨gy, 0, none⟩), .pointer (some ⟨gt, 0, none⟩), .pointer (some ⟨ge, 0, none⟩)]) := fun z => (HBX.out.kp HP.out (HOF.out z)).be.cell 0
       have c4 : ∀ z, (of z).cell? ⟨gs, 0, none⟩ = some (.int .i64 (q : Int)) := fun z => (HBX.out.kp HP.out (HOF.out z)).bs.cell 0
       have c5 : ∀ z, (of z).cell? ⟨gs, 1, none⟩ = some (.int .i64 (k : Int)) := fun z => (HBX.out.kp HP.out (HOF.out z)).bs.cell 1
       have b0 : ∀ z, (of z).cell? ⟨gw, 0, none⟩ = some (.int .i64 v) := fun z => ((HOF.out z).blk (.inr HGW9.out) HSB.out).cell 0
       have hnb := HNB.out
       have ht12 := HT12.out
       have hfw := hfT
       simp only [pickB]
       iterate 9 (gi_big_quiet_step (fail))
       refine wpQuietIn_nil ?_
       exact rfl
      intro W22 hW
      have HB22 := lh hW
      clear hW
      gi_wp2
      refine ⟨fun _ h => (by cases h), ?_⟩
      gi_wp2
      first | refine ⟨rfl, KpR.of_below (Below.refl _ _), ?_⟩ | refine ⟨trivial, KpR.of_below (Below.refl _ _), ?_⟩ | refine ⟨KpR.of_below (Below.refl _ _), ?_⟩
      have HK22 := lh (show KpR n0 n1 W21 W22 from KpR.of_below HB22.out)
      replace HK := lh (HK.out.trans HK22.out)
      have HJE := lh (HJ.out _ _ _ HJC.out HB22.out)
      clear HK22
      refine Gr.wpFlow_nil (A := ?AW14)  ?hw14 ?_
      case hw14 =>
       rintro σ hσ of hof hcl
       have HOF := lh hof
       have HCL := lh hcl
       clear hof hcl
       have hnb := HNB.out
       have hfw := hfT
       simp only [pickB]
       iterate 2 (gi_big_quiet_step (fail))
       refine wpQuietIn_nil ?_
       exact rfl
      intro W24 hW
      have HB24 := lh hW
      clear hW
      simp only [pickB]
      refine wpT_nil ?_
      gi_wp2
      refine bodyPost_ret (v := .bool true) (by simp [results, Try.results98, go_sem]) rfl ?_
      have HJF := HJ.out _ _ _ HJE.out HB24.out
      refine ⟨rfl, xs, ?_, ?_, HK.out.trans (KpR.of_below HB24.out)⟩
      ·rw [HFO.out, if_neg (by rw [HFR.out, HFV.out]; simp), HTO.out, HN.out, if_pos HTB0.out, if_pos HNAL.out]
       rw [HXS.out, List.append_nil]
      ·exact HJF
     ·
      have hnb : (n == heldAt all (vq : Int)) = false := by rw [← HVQ.out]; simpa using hnal
      have HNB := lh hnb
      have HNAL := lh hnal
      clear hnb hnal
      refine Gr.wpIn_flow_old (G := KpR n0 n1) [([true, true, false, true, true, true, true, true, true, true, true, true], 2), ([false, false, false, false, false, false, false, false, false, false, false, false, true, true, true, true, true, true, true, true, true], 21)] [false, false, false, false, false, false, false, false, false, false, false, false, false, false, false, false, false, false, false, false, false, false, true, true] [] (by kernel_rfl) (by kernel_rfl) (by kernel_rfl) (below_drewN (Below.refl _ _) 1) ?_
      refine Gr.wpFlow_cons (A := ?AW15) rfl ?hw15 ?_
      case hw15 =>
       rintro σ hσ of hof hcl
       have HOF := lh hof
       have HCL := lh hcl
       clear hof hcl
       have c0 : ∀ z, (of z).cell? ⟨gt, 0, none⟩ = some (.pointer (some ⟨T.g, 0, none⟩)) := fun z => (HBX.out.kp HP.out (HOF.out z)).bt.cell 0
       have c1 : ∀ z, (of z).cell? ⟨T.g, 2, none⟩ = some (.slice T.Aa T.na T.ca) := fun z => (HBX.out.kp HP.out (HOF.out z)).tb.blk.cell 2
       have c2 : ∀ z, (of z).cell? ⟨T.g, 4, none⟩ = some (.slice (some ⟨bl, ol, none⟩) T.nl T.cl) := fun z => (HBX.out.kp HP.out (HOF.out z)).tb.blk.cell 4 |>.trans (by rw [← HAA.out]; rfl)
       have c3 : ∀ z, (of z).cell? ⟨ge, 0, none⟩ = some (.func (.func 98) #[] #[.pointer (some ⟨gs, 0, none⟩), .pointer (some ⟨gy, 0, none⟩), .pointer (some ⟨gt, 0, none⟩), .pointer (some ⟨ge, 0, none⟩)]) := fun z => (HBX.out.kp HP.out (HOF.out z)).be.cell 0
       have c4 : ∀ z, (of z).cell? ⟨gs, 0, none⟩ = some (.int .i64 (q : Int)) := fun z => (HBX.out.kp HP.out (HOF.out z)).bs.cell 0
       have c5 : ∀ z, (of z).cell? ⟨gs, 1, none⟩ = some (.int .i64 (k : Int)) := fun z => (HBX.out.kp HP.out (HOF.out z)).bs.cell 1
       have ch : ∀ z, (of z).cell? ⟨bl, ol + t * 4 + vq, none⟩ = some (.int .i64 (heldAt all (vq : Int))) := fun z => cell_kp (HOF.out z) HAC.out.1 HAC.out.2
       have b0 : ∀ z, (of z).cell? ⟨gw, 0, none⟩ = some (.int .i64 v) := fun z => ((HOF.out z).blk (.inr HGW9.out) HSB.out).cell 0
       have hil := HIL.out
       have hnl := HNL.out
       have hv4 := HVQ4.out
       have hvi : (vq : Int) < 4 := by omega
       have hvv := HFV.out
       have hvq := HVQ.out
       have hnb := HNB.out
       have hfw := hfT
       simp only [pickB]
       iterate 11 (gi_big_quiet_step (fail))
       refine wpQuietIn_nil ?_
       exact rfl
      intro W20 hW
      have HB20 := lh hW
      clear hW
      gi_wp2
      refine ⟨trivial, (callsIn_wide.2 (callsIn_wide.1 (size_in T t x all W20 ((HBX.out.kp HP.out (KpR.of_below HB20.out)).tb.at_ (by have h1 := HSZ.out; have h2 := HB20.out.size; omega)) HX.out HAT.out.ha HAT.out.ok.kind HAT.out.four))).mono ?_⟩
      rintro e W21 ⟨rfl, hb⟩
      rw [HN.out]
      have HB21 := lh (show Below W12.heap.size W12 W21 from HB20.out.trans (hb.mono HB20.out.size))
      have HBb := lh hb
      clear hb
      gi_wp2
      refine ⟨trivial, KpR.of_below HBb.out, ?_⟩
      have HK21 := lh (show KpR n0 n1 W12 W21 from KpR.of_below HB21.out)
      replace HBX := lh (HBX.out.kp HP.out HK21.out)
      replace HSB := lh (HK21.out.blk (.inr HGW9.out) HSB.out)
      replace HSZ := lh (Nat.le_trans HSZ.out HK21.out.1)
      replace HK := lh (HK.out.trans HK21.out)
      replace HJC := lh (HJ.out _ _ _ HJC.out HB21.out)
      clear HK21 HB21 HBb HB20 HAC
      refine Gr.wpFlow_cons (A := ?AW16) rfl ?hw16 ?_
      case hw16 =>
       rintro σ hσ of hof hcl
       have HOF := lh hof
       have HCL := lh hcl
       clear hof hcl
       have c0 : ∀ z, (of z).cell? ⟨gt, 0, none⟩ = some (.pointer (some ⟨T.g, 0, none⟩)) := fun z => (HBX.out.kp HP.out (HOF.out z)).bt.cell 0
       have c1 : ∀ z, (of z).cell? ⟨T.g, 2, none⟩ = some (.slice T.Aa T.na T.ca) := fun z => (HBX.out.kp HP.out (HOF.out z)).tb.blk.cell 2
       have c2 : ∀ z, (of z).cell? ⟨T.g, 4, none⟩ = some (.slice T.AA T.nl T.cl) := fun z => (HBX.out.kp HP.out (HOF.out z)).tb.blk.cell 4
       have c3 : ∀ z, (of z).cell? ⟨ge, 0, none⟩ = some (.func (.func 98) #[] #[.pointer (some ⟨gs, 0, none⟩), .pointer (some ⟨gy, 0, none⟩), .pointer (some ⟨gt, 0, none⟩), .pointer (some ⟨ge, 0, none⟩)]) := fun z => (HBX.out.kp HP.out (HOF.out z)).be.cell 0
       have c4 : ∀ z, (of z).cell? ⟨gs, 0, none⟩ = some (.int .i64 (q : Int)) := fun z => (HBX.out.kp HP.out (HOF.out z)).bs.cell 0
       have c5 : ∀ z, (of z).cell? ⟨gs, 1, none⟩ = some (.int .i64 (k : Int)) := fun z => (HBX.out.kp HP.out (HOF.out z)).bs.cell 1
       have b0 : ∀ z, (of z).cell? ⟨gw, 0, none⟩ = some (.int .i64 v) := fun z => ((HOF.out z).blk (.inr HGW9.out) HSB.out).cell 0
       have hnb := HNB.out
       have ht12 := HT12.out
       have hfw := hfT
       simp only [pickB]
       iterate 9 (gi_big_quiet_step (fail))
       refine wpQuietIn_nil ?_
       exact rfl
      intro W22 hW
      have HB22 := lh hW
      clear hW
      have HK22 := lh (show KpR n0 n1 W21 W22 from KpR.of_below HB22.out)
      replace HBX := lh (HBX.out.kp HP.out HK22.out)
      replace HSZ := lh (Nat.le_trans HSZ.out HK22.out.1)
      replace HK := lh (HK.out.trans HK22.out)
      replace HJC := lh (HJ.out _ _ _ HJC.out HB22.out)
      clear HK22
      have hih := HIH.out (t + 1) v Aw nw cw wl (pre ++ xs) W22 HBX.out HJC.out (HR.out.safe HS.out HK.out) (HS.out.kp HK.out) (by omega) (by omega) HSZ.out HV.out (by have h9 := HNN.out; rw [HFO.out, if_neg (by rw [HFR.out, HFV.out]; simp), HTO.out, HN.out, if_pos HTB0.out, if_neg HNAL.out] at h9; have h8 := congrArg List.length HXS.out; rw [List.length_map] at h8; simp only [List.length_append] at h9 ⊢; omega)
      rw [show ((t + 1 : Nat) : Int) = (t : Int) + 1 from by omega] at hih
      gi_wp2
      refine ⟨trivial, (callsIn_wide.2 (callsIn_wide.1 hih)).mono ?_⟩
      rintro e W23 ⟨rfl, ys, hys, hJ23, hk23⟩
      have HYS := lh hys
      have HJE := lh hJ23
      have HK23 := lh hk23
      replace HK := lh (HK.out.trans HK23.out)
      clear hys hJ23 hk23 hih
      gi_wp2
      refine ⟨trivial, HK23.out, ?_⟩
      clear HK23
      refine Gr.wpFlow_nil (A := ?AW17)  ?hw17 ?_
      case hw17 =>
       rintro σ hσ of hof hcl
       have HOF := lh hof
       have HCL := lh hcl
       clear hof hcl
       have hnb := HNB.out
       have hfw := hfT
       simp only [pickB]
       iterate 2 (gi_big_quiet_step (fail))
       refine wpQuietIn_nil ?_
       exact rfl
      intro W24 hW
      have HB24 := lh hW
      clear hW
      simp only [pickB]
      refine wpT_nil ?_
      gi_wp2
      refine bodyPost_ret (v := .bool true) (by simp [results, Try.results98, go_sem]) rfl ?_
      have HJF := HJ.out _ _ _ HJE.out HB24.out
      refine ⟨rfl, (xs ++ ys), ?_, ?_, HK.out.trans (KpR.of_below HB24.out)⟩
      ·rw [HFO.out, if_neg (by rw [HFR.out, HFV.out]; simp), HTO.out, HN.out, if_pos HTB0.out, if_neg HNAL.out]
       rw [List.map_append, HXS.out, HYS.out]
      ·rw [← List.append_assoc]; exact HJF
   ·
    have HT12 := lh ht12
    have HGW9 : Hid (n1 ≤ gw) := lh (by have := HGW.out; omega)
    clear ht12
    have HTB0 := lh ht0
    have HTBB : Hid (decide (0 ≤ to) = false) := lh (decide_eq_false ht0)
    clear ht0
    refine Tr.wpIn_region_tree (G := KpB n0 n1 W3.heap.size) (V0 := W3) [([], [true, true, true, true, true, true, true, true, true, false, true, true], [9, 12]), ([9], [], [12]), ([12], [], [9]), ([9, 12], [], [13]), ([9, 12, 13], [], [14]), ([9, 12, 13, 14], [false, false, false, false, false, false, false, false, false, false, false, false, false, false, false, true, true], [])] 5 [] (by kernel_rfl) (by kernel_rfl) (by kernel_rfl) (below_drewN (Below.refl _ _) 1) ?_
    refine Tr.wpTree_two (A := ?AW18) rfl rfl rfl ?hw18 ?_ ?_
    case hw18 =>
     rintro σ hσ of hof hcl
     have HOF := lh hof
     have HCL := lh hcl
     clear hof hcl
     have c0 : ∀ z, (of z).cell? ⟨gt, 0, none⟩ = some (.pointer (some ⟨T.g, 0, none⟩)) := fun z => (HBX.out.kp HP.out (KpB.kp (HOF.out z))).bt.cell 0
     have c1 : ∀ z, (of z).cell? ⟨T.g, 2, none⟩ = some (.slice T.Aa T.na T.ca) := fun z => (HBX.out.kp HP.out (KpB.kp (HOF.out z))).tb.blk.cell 2
     have c2 : ∀ z, (of z).cell? ⟨T.g, 4, none⟩ = some (.slice T.AA T.nl T.cl) := fun z => (HBX.out.kp HP.out (KpB.kp (HOF.out z))).tb.blk.cell 4
     have c3 : ∀ z, (of z).cell? ⟨ge, 0, none⟩ = some (.func (.func 98) #[] #[.pointer (some ⟨gs, 0, none⟩), .pointer (some ⟨gy, 0, none⟩), .pointer (some ⟨gt, 0, none⟩), .pointer (some ⟨ge, 0, none⟩)]) := fun z => (HBX.out.kp HP.out (KpB.kp (HOF.out z))).be.cell 0
     have c4 : ∀ z, (of z).cell? ⟨gs, 0, none⟩ = some (.int .i64 (q : Int)) := fun z => (HBX.out.kp HP.out (KpB.kp (HOF.out z))).bs.cell 0
     have c5 : ∀ z, (of z).cell? ⟨gs, 1, none⟩ = some (.int .i64 (k : Int)) := fun z => (HBX.out.kp HP.out (KpB.kp (HOF.out z))).bs.cell 1
     have ht12 := HT12.out
     have htb := HTBB.out
     have hfw := hfT
     simp only [pickB]
     iterate 11 (gi_big_quiet_step (fail))
     refine wpQuietIn_nil ?_
     exact rfl
    ·
     intro W4 hW
     have HB_W4 := lh (show Below W3.heap.size W3 W4 from hW)
     clear hW
     gi_wp2
     first | refine ⟨rfl, KpB.of_below (Below.refl _ _), ?_⟩ | refine ⟨trivial, KpB.of_below (Below.refl _ _), ?_⟩ | refine ⟨KpB.of_below (Below.refl _ _), ?_⟩ | ((first | refine ⟨trivial, ?_⟩ | refine ⟨fun _ h => (by cases h), ?_⟩); gi_wp2; first | refine ⟨rfl, KpB.of_below (Below.refl _ _), ?_⟩ | refine ⟨trivial, KpB.of_below (Below.refl _ _), ?_⟩ | refine ⟨KpB.of_below (Below.refl _ _), ?_⟩)
     refine Tr.wpTree_one (m := []) rfl rfl Gr.Quietly.none ?_
     intro W6 hW
     have HB_W6 := lh (show Below W3.heap.size W3 W6 from HB_W4.out.trans (hW.mono HB_W4.out.size))
     clear hW
     gi_wp2
     first | refine ⟨rfl, KpB.of_below (Below.refl _ _), ?_⟩ | refine ⟨trivial, KpB.of_below (Below.refl _ _), ?_⟩ | refine ⟨KpB.of_below (Below.refl _ _), ?_⟩ | ((first | refine ⟨trivial, ?_⟩ | refine ⟨fun _ h => (by cases h), ?_⟩); gi_wp2; first | refine ⟨rfl, KpB.of_below (Below.refl _ _), ?_⟩ | refine ⟨trivial, KpB.of_below (Below.refl _ _), ?_⟩ | refine ⟨KpB.of_below (Below.refl _ _), ?_⟩)
     refine Tr.wpTree_one (m := []) rfl rfl Gr.Quietly.none ?_
     intro W8 hW
     have HB_W8 := lh (show Below W3.heap.size W3 W8 from HB_W6.out.trans (hW.mono HB_W6.out.size))
     clear hW
     gi_wp2
     first | refine ⟨rfl, KpB.of_below (Below.refl _ _), ?_⟩ | refine ⟨trivial, KpB.of_below (Below.refl _ _), ?_⟩ | refine ⟨KpB.of_below (Below.refl _ _), ?_⟩ | ((first | refine ⟨trivial, ?_⟩ | refine ⟨fun _ h => (by cases h), ?_⟩); gi_wp2; first | refine ⟨rfl, KpB.of_below (Below.refl _ _), ?_⟩ | refine ⟨trivial, KpB.of_below (Below.refl _ _), ?_⟩ | refine ⟨KpB.of_below (Below.refl _ _), ?_⟩)
     refine Tr.wpTree_one (m := []) rfl rfl Gr.Quietly.none ?_
     intro W10 hW
     have HB_W10 := lh (show Below W3.heap.size W3 W10 from HB_W8.out.trans (hW.mono HB_W8.out.size))
     clear hW
     gi_wp2
     first | refine ⟨rfl, KpB.of_below (Below.refl _ _), ?_⟩ | refine ⟨trivial, KpB.of_below (Below.refl _ _), ?_⟩ | refine ⟨KpB.of_below (Below.refl _ _), ?_⟩ | ((first | refine ⟨trivial, ?_⟩ | refine ⟨fun _ h => (by cases h), ?_⟩); gi_wp2; first | refine ⟨rfl, KpB.of_below (Below.refl _ _), ?_⟩ | refine ⟨trivial, KpB.of_below (Below.refl _ _), ?_⟩ | refine ⟨KpB.of_below (Below.refl _ _), ?_⟩)
     refine Tr.wpTree_end (A := ?AW19) rfl ?hw19 ?_
     case hw19 =>
      rintro σ hσ of hof hcl
      have HOF := lh hof
      have HCL := lh hcl
      clear hof hcl
      have htb := HTBB.out
      have hfw := hfT
      simp only [pickB]
      iterate 2 (gi_big_quiet_step (fail))
      refine wpQuietIn_nil ?_
      exact rfl
     intro W12 hW
     have hb12 : Below W3.heap.size W3 W12 := HB_W10.out.trans (hW.mono HB_W10.out.size)
     have HK7 := lh (show KpR n0 n1 W3 W12 from KpR.of_below hb12)
     replace HJC := lh (HJ.out _ _ _ HJC.out hb12)
     clear hW hb12 HB_W4 HB_W6 HB_W8 HB_W10
     simp only [pickB]
     refine wpT_nil ?_
     replace HBX := lh (HBX.out.kp HP.out HK7.out)
     replace HSB := lh (HK7.out.blk (.inr HGW9.out) HSB.out)
     replace HSZ := lh (Nat.le_trans HSZ.out HK7.out.1)
     replace HK := lh (HK.out.trans HK7.out)
     clear HK7
     gi_wp2
     have hfq := fromI_small HOK.out.vess x
     rw [HFR.out] at hfq
     obtain ⟨vq, hvq⟩ : ∃ vq : Nat, v = (vq : Int) := ⟨v.toNat, by have := HV.out; omega⟩
     have hvq4 : vq < 4 := by have := HV.out; omega
     have HTA := lh (HBX.out.tb.at_ (by have := HSZ.out; omega))
     have hil : t < T.nl := by
      have h1 := recs_n heldC_k (by omega) HTA.out.all
      have h2 := HOK.out.long
      have h3 := (List.getElem?_eq_some_iff.1 HX.out).1
      omega
     obtain ⟨bl, ol, all9, e1, e2, e3, e4⟩ := recs_cell heldC_k (by omega) HTA.out.all hil
     obtain rfl : all = all9 := Option.some.inj (HAT.out.ha.symm.trans e3)
     have HAA := lh e1
     have HAC : Hid (bl < n0 ∧ W12.cell? ⟨bl, ol + t * 4 + vq, none⟩ = some (.int .i64 (heldAt all (vq : Int)))) := lh ⟨by obtain ⟨a9, h1, h2, _⟩ := HBX.out.tb.all.2 (by omega); rw [e1] at h1; cases h1; exact h2, e4 vq _ (heldC_l all hvq4)⟩
     have HVQ := lh hvq
     have HIL := lh hil
     have HVQ4 := lh hvq4
     have hnl : T.nl ≤ 13 := HTA.out.small.2.2.2
     have HNL := lh hnl
     obtain ⟨n, hn⟩ : ∃ n, sizeA T.m all x = n := ⟨_, rfl⟩
     have HN := lh hn
     clear e1 e2 e3 e4 hfq hvq hil hvq4 hn hnl
     by_cases hnal : n = heldAt all v
     ·
      have hnb : (n == heldAt all (vq : Int)) = true := by rw [← HVQ.out]; simpa using hnal
      have HNB := lh hnb
      have HNAL := lh hnal
      clear hnb hnal
      refine Gr.wpIn_flow_old (G := KpR n0 n1) [([true, true, false, true, true, true, true, true, true, true, true, true], 2), ([false, false, false, false, false, false, false, false, false, false, false, false, true, true, true, true, true, true, true, true, true], 21)] [false, false, false, false, false, false, false, false, false, false, false, false, false, false, false, false, false, false, false, false, false, false, true, true] [] (by kernel_rfl) (by kernel_rfl) (by kernel_rfl) (below_drewN (Below.refl _ _) 1) ?_
      refine Gr.wpFlow_cons (A := ?AW20) rfl ?hw20 ?_
      case hw20 =>
       rintro σ hσ of hof hcl
       have HOF := lh hof
       have HCL := lh hcl
       clear hof hcl
       have c0 : ∀ z, (of z).cell? ⟨gt, 0, none⟩ = some (.pointer (some ⟨T.g, 0, none⟩)) := fun z => (HBX.out.kp HP.out (HOF.out z)).bt.cell 0
       have c1 : ∀ z, (of z).cell? ⟨T.g, 2, none⟩ = some (.slice T.Aa T.na T.ca) := fun z => (HBX.out.kp HP.out (HOF.out z)).tb.blk.cell 2
       have c2 : ∀ z, (of z).cell? ⟨T.g, 4, none⟩ = some (.slice (some ⟨bl, ol, none⟩) T.nl T.cl) := fun z => (HBX.out.kp HP.out (HOF.out z)).tb.blk.cell 4 |>.trans (by rw [← HAA.out]; rfl)
       have c3 : ∀ z, (of z).cell? ⟨ge, 0, none⟩ = some (.func (.func 98) #[] #[.pointer (some ⟨gs, 0, none⟩), .pointer (some ⟨gy, 0, none⟩), .pointer (some ⟨gt, 0, none⟩), .pointer (some ⟨ge, 0, none⟩)]) := fun z => (HBX.out.kp HP.out (HOF.out z)).be.cell 0
       have c4 : ∀ z, (of z).cell? ⟨gs, 0, none⟩ = some (.int .i64 (q : Int)) := fun z => (HBX.out.kp HP.out (HOF.out z)).bs.cell 0
       have c5 : ∀ z, (of z).cell? ⟨gs, 1, none⟩ = some (.int .i64 (k : Int)) := fun z => (HBX.out.kp HP.out (HOF.out z)).bs.cell 1
       have ch : ∀ z, (of z).cell? ⟨bl, ol + t * 4 + vq, none⟩ = some (.int .i64 (heldAt all (vq : Int))) := fun z => cell_kp (HOF.out z) HAC.out.1 HAC.out.2
       have b0 : ∀ z, (of z).cell? ⟨gw, 0, none⟩ = some (.int .i64 v) := fun z => ((HOF.out z).blk (.inr HGW9.out) HSB.out).cell 0
       have hil := HIL.out
       have hnl := HNL.out
       have hv4 := HVQ4.out
       have hvi : (vq : Int) < 4 := by omega
       have hvv := HFV.out
       have hvq := HVQ.out
       have hnb := HNB.out
       have hfw := hfT
       simp only [pickB]
       iterate 11 (gi_big_quiet_step (fail))
       refine wpQuietIn_nil ?_
       exact rfl
      intro W20 hW
      have HB20 := lh hW
      clear hW
      gi_wp2
      refine ⟨trivial, (callsIn_wide.2 (callsIn_wide.1 (size_in T t x all W20 ((HBX.out.kp HP.out (KpR.of_below HB20.out)).tb.at_ (by have h1 := HSZ.out; have h2 := HB20.out.size; omega)) HX.out HAT.out.ha HAT.out.ok.kind HAT.out.four))).mono ?_⟩
      rintro e W21 ⟨rfl, hb⟩
      rw [HN.out]
      have HB21 := lh (show Below W12.heap.size W12 W21 from HB20.out.trans (hb.mono HB20.out.size))
      have HBb := lh hb
      clear hb
      gi_wp2
      refine ⟨trivial, KpR.of_below HBb.out, ?_⟩
      have HK21 := lh (show KpR n0 n1 W12 W21 from KpR.of_below HB21.out)
      replace HBX := lh (HBX.out.kp HP.out HK21.out)
      replace HSB := lh (HK21.out.blk (.inr HGW9.out) HSB.out)
      replace HSZ := lh (Nat.le_trans HSZ.out HK21.out.1)
      replace HK := lh (HK.out.trans HK21.out)
      replace HJC := lh (HJ.out _ _ _ HJC.out HB21.out)
      clear HK21 HB21 HBb HB20 HAC
      refine Gr.wpFlow_cons (A := ?AW21) rfl ?hw21 ?_
      case hw21 =>
       rintro σ hσ of hof hcl
       have HOF := lh hof
       have HCL := lh hcl
       clear hof hcl
       have c0 : ∀ z, (of z).cell? ⟨gt, 0, none⟩ = some (.pointer (some ⟨T.g, 0, none⟩)) := fun z => (HBX.out.kp HP.out (HOF.out z)).bt.cell 0
       have c1 : ∀ z, (of z).cell? ⟨T.g, 2, none⟩ = some (.slice T.Aa T.na T.ca) := fun z => (HBX.out.kp HP.out (HOF.out z)).tb.blk.cell 2
       have c2 : ∀ z, (of z).cell? ⟨T.g, 4, none⟩ = some (.slice T.AA T.nl T.cl) := fun z => (HBX.out.kp HP.out (HOF.out z)).tb.blk.cell 4
       have c3 : ∀ z, (of z).cell? ⟨ge, 0, none⟩ = some (.func (.func 98) #[] #[.pointer (some ⟨gs, 0, none⟩), .pointer (some ⟨gy, 0, none⟩), .pointer (some ⟨gt, 0, none⟩), .pointer (some ⟨ge, 0, none⟩)]) := fun z => (HBX.out.kp HP.out (HOF.out z)).be.cell 0
       have c4 : ∀ z, (of z).cell? ⟨gs, 0, none⟩ = some (.int .i64 (q : Int)) := fun z => (HBX.out.kp HP.out (HOF.out z)).bs.cell 0
       have c5 : ∀ z, (of z).cell? ⟨gs, 1, none⟩ = some (.int .i64 (k : Int)) := fun z => (HBX.out.kp HP.out (HOF.out z)).bs.cell 1
       have b0 : ∀ z, (of z).cell? ⟨gw, 0, none⟩ = some (.int .i64 v) := fun z => ((HOF.out z).blk (.inr HGW9.out) HSB.out).cell 0
       have hnb := HNB.out
       have ht12 := HT12.out
       have hfw := hfT
       simp only [pickB]
       iterate 9 (gi_big_quiet_step (fail))
       refine wpQuietIn_nil ?_
       exact rfl
      intro W22 hW
      have HB22 := lh hW
      clear hW
      gi_wp2
      refine ⟨fun _ h => (by cases h), ?_⟩
      gi_wp2
      first | refine ⟨rfl, KpR.of_below (Below.refl _ _), ?_⟩ | refine ⟨trivial, KpR.of_below (Below.refl _ _), ?_⟩ | refine ⟨KpR.of_below (Below.refl _ _), ?_⟩
      have HK22 := lh (show KpR n0 n1 W21 W22 from KpR.of_below HB22.out)
      replace HK := lh (HK.out.trans HK22.out)
      have HJE := lh (HJ.out _ _ _ HJC.out HB22.out)
      clear HK22
      refine Gr.wpFlow_nil (A := ?AW22)  ?hw22 ?_
      case hw22 =>
       rintro σ hσ of hof hcl
       have HOF := lh hof
       have HCL := lh hcl
       clear hof hcl
       have hnb := HNB.out
       have hfw := hfT
       simp only [pickB]
       iterate 2 (gi_big_quiet_step (fail))
       refine wpQuietIn_nil ?_
       exact rfl
      intro W24 hW
      have HB24 := lh hW
      clear hW
      simp only [pickB]
      refine wpT_nil ?_
      gi_wp2
      refine bodyPost_ret (v := .bool true) (by simp [results, Try.results98, go_sem]) rfl ?_
      have HJF := HJ.out _ _ _ HJE.out HB24.out
      refine ⟨rfl, [], ?_, ?_, HK.out.trans (KpR.of_below HB24.out)⟩
      ·rw [HFO.out, if_neg (by rw [HFR.out, HFV.out]; simp), HTO.out, HN.out, if_neg (Int.not_le.2 HTB0.out), if_pos HNAL.out]
       rfl
      ·rw [List.append_nil]; exact HJF
     ·
      have hnb : (n == heldAt all (vq : Int)) = false := by rw [← HVQ.out]; simpa using hnal
      have HNB := lh hnb
      have HNAL := lh hnal
      clear hnb hnal
      refine Gr.wpIn_flow_old (G := KpR n0 n1) [([true, true, false, true, true, true, true, true, true, true, true, true], 2), ([false, false, false, false, false, false, false, false, false, false, false, false, true, true, true, true, true, true, true, true, true], 21)] [false, false, false, false, false, false, false, false, false, false, false, false, false, false, false, false, false, false, false, false, false, false, true, true] [] (by kernel_rfl) (by kernel_rfl) (by kernel_rfl) (below_drewN (Below.refl _ _) 1) ?_
      refine Gr.wpFlow_cons (A := ?AW23) rfl ?hw23 ?_
      case hw23 =>
       rintro σ hσ of hof hcl
       have HOF := lh hof
       have HCL := lh hcl
       clear hof hcl
       have c0 : ∀ z, (of z).cell? ⟨gt, 0, none⟩ = some (.pointer (some ⟨T.g, 0, none⟩)) := fun z => (HBX.out.kp HP.out (HOF.out z)).bt.cell 0
       have c1 : ∀ z, (of z).cell? ⟨T.g, 2, none⟩ = some (.slice T.Aa T.na T.ca) := fun z => (HBX.out.kp HP.out (HOF.out z)).tb.blk.cell 2
       have c2 : ∀ z, (of z).cell? ⟨T.g, 4, none⟩ = some (.slice (some ⟨bl, ol, none⟩) T.nl T.cl) := fun z => (HBX.out.kp HP.out (HOF.out z)).tb.blk.cell 4 |>.trans (by rw [← HAA.out]; rfl)
       have c3 : ∀ z, (of z).cell? ⟨ge, 0, none⟩ = some (.func (.func 98) #[] #[.pointer (some ⟨gs, 0, none⟩), .pointer (some ⟨gy, 0, none⟩), .pointer (some ⟨gt, 0, none⟩), .pointer (some ⟨ge, 0, none⟩)]) := fun z => (HBX.out.kp HP.out (HOF.out z)).be.cell 0
       have c4 : ∀ z, (of z).cell? ⟨gs, 0, none⟩ = some (.int .i64 (q : Int)) := fun z => (HBX.out.kp HP.out (HOF.out z)).bs.cell 0
       have c5 : ∀ z, (of z).cell? ⟨gs, 1, none⟩ = some (.int .i64 (k : Int)) := fun z => (HBX.out.kp HP.out (HOF.out z)).bs.cell 1
       have ch : ∀ z, (of z).cell? ⟨bl, ol + t * 4 + vq, none⟩ = some (.int .i64 (heldAt all (vq : Int))) := fun z => cell_kp (HOF.out z) HAC.out.1 HAC.out.2
       have b0 : ∀ z, (of z).cell? ⟨gw, 0, none⟩ = some (.int .i64 v) := fun z => ((HOF.out z).blk (.inr HGW9.out) HSB.out).cell 0
       have hil := HIL.out
       have hnl := HNL.out
       have hv4 := HVQ4.out
       have hvi : (vq : Int) < 4 := by omega
       have hvv := HFV.out
       have hvq := HVQ.out
       have hnb := HNB.out
       have hfw := hfT
       simp only [pickB]
       iterate 11 (gi_big_quiet_step (fail))
       refine wpQuietIn_nil ?_
       exact rfl
      intro W20 hW
      have HB20 := lh hW
      clear hW
      gi_wp2
      refine ⟨trivial, (callsIn_wide.2 (callsIn_wide.1 (size_in T t x all W20 ((HBX.out.kp HP.out (KpR.of_below HB20.out)).tb.at_ (by have h1 := HSZ.out; have h2 := HB20.out.size; omega)) HX.out HAT.out.ha HAT.out.ok.kind HAT.out.four))).mono ?_⟩
      rintro e W21 ⟨rfl, hb⟩
      rw [HN.out]
      have HB21 := lh (show Below W12.heap.size W12 W21 from HB20.out.trans (hb.mono HB20.out.size))
      have HBb := lh hb
      clear hb
      gi_wp2
      refine ⟨trivial, KpR.of_below HBb.out, ?_⟩
      have HK21 := lh (show KpR n0 n1 W12 W21 from KpR.of_below HB21.out)
      replace HBX := lh (HBX.out.kp HP.out HK21.out)
      replace HSB := lh (HK21.out.blk (.inr HGW9.out) HSB.out)
      replace HSZ := lh (Nat.le_trans HSZ.out HK21.out.1)
      replace HK := lh (HK.out.trans HK21.out)
      replace HJC := lh (HJ.out _ _ _ HJC.out HB21.out)
      clear HK21 HB21 HBb HB20 HAC
      refine Gr.wpFlow_cons (A := ?AW24) rfl ?hw24 ?_
      case hw24 =>
       rintro σ hσ of hof hcl
       have HOF := lh hof
       have HCL := lh hcl
       clear hof hcl
       have c0 : ∀ z, (of z).cell? ⟨gt, 0, none⟩ = some (.pointer (some ⟨T.g, 0, none⟩)) := fun z => (HBX.out.kp HP.out (HOF.out z)).bt.cell 0
       have c1 : ∀ z, (of z).cell? ⟨T.g, 2, none⟩ = some (.slice T.Aa T.na T.ca) := fun z => (HBX.out.kp HP.out (HOF.out z)).tb.blk.cell 2
       have c2 : ∀ z, (of z).cell? ⟨T.g, 4, none⟩ = some (.slice T.AA T.nl T.cl) := fun z => (HBX.out.kp HP.out (HOF.out z)).tb.blk.cell 4
       have c3 : ∀ z, (of z).cell? ⟨ge, 0, none⟩ = some (.func (.func 98) #[] #[.pointer (some ⟨gs, 0, none⟩), .pointer (some ⟨gy, 0, none⟩), .pointer (some ⟨gt, 0, none⟩), .pointer (some ⟨ge, 0, none⟩)]) := fun z => (HBX.out.kp HP.out (HOF.out z)).be.cell 0
       have c4 : ∀ z, (of z).cell? ⟨gs, 0, none⟩ = some (.int .i64 (q : Int)) := fun z => (HBX.out.kp HP.out (HOF.out z)).bs.cell 0
       have c5 : ∀ z, (of z).cell? ⟨gs, 1, none⟩ = some (.int .i64 (k : Int)) := fun z => (HBX.out.kp HP.out (HOF.out z)).bs.cell 1
       have b0 : ∀ z, (of z).cell? ⟨gw, 0, none⟩ = some (.int .i64 v) := fun z => ((HOF.out z).blk (.inr HGW9.out) HSB.out).cell 0
       have hnb := HNB.out
       have ht12 := HT12.out
       have hfw := hfT
       simp only [pickB]
       iterate 9 (gi_big_quiet_step (fail))
       refine wpQuietIn_nil ?_
       exact rfl
      intro W22 hW
      have HB22 := lh hW
      clear hW
      have HK22 := lh (show KpR n0 n1 W21 W22 from KpR.of_below HB22.out)
      replace HBX := lh (HBX.out.kp HP.out HK22.out)
      replace HSZ := lh (Nat.le_trans HSZ.out HK22.out.1)
      replace HK := lh (HK.out.trans HK22.out)
      replace HJC := lh (HJ.out _ _ _ HJC.out HB22.out)
      clear HK22
      have hih := HIH.out (t + 1) v Aw nw cw wl pre W22 HBX.out HJC.out (HR.out.safe HS.out HK.out) (HS.out.kp HK.out) (by omega) (by omega) HSZ.out HV.out (by have h9 := HNN.out; rw [HFO.out, if_neg (by rw [HFR.out, HFV.out]; simp), HTO.out, HN.out, if_neg (Int.not_le.2 HTB0.out), if_neg HNAL.out] at h9; simp only [List.length_append, List.length_nil] at h9; omega)
      rw [show ((t + 1 : Nat) : Int) = (t : Int) + 1 from by omega] at hih
      gi_wp2
      refine ⟨trivial, (callsIn_wide.2 (callsIn_wide.1 hih)).mono ?_⟩
      rintro e W23 ⟨rfl, ys, hys, hJ23, hk23⟩
      have HYS := lh hys
      have HJE := lh hJ23
      have HK23 := lh hk23
      replace HK := lh (HK.out.trans HK23.out)
      clear hys hJ23 hk23 hih
      gi_wp2
      refine ⟨trivial, HK23.out, ?_⟩
      clear HK23
      refine Gr.wpFlow_nil (A := ?AW25)  ?hw25 ?_
      case hw25 =>
       rintro σ hσ of hof hcl
       have HOF := lh hof
       have HCL := lh hcl
       clear hof hcl
       have hnb := HNB.out
       have hfw := hfT
       simp only [pickB]
       iterate 2 (gi_big_quiet_step (fail))
       refine wpQuietIn_nil ?_
       exact rfl
      intro W24 hW
      have HB24 := lh hW
      clear hW
      simp only [pickB]
      refine wpT_nil ?_
      gi_wp2
      refine bodyPost_ret (v := .bool true) (by simp [results, Try.results98, go_sem]) rfl ?_
      have HJF := HJ.out _ _ _ HJE.out HB24.out
      refine ⟨rfl, ys, ?_, ?_, HK.out.trans (KpR.of_below HB24.out)⟩
      ·rw [HFO.out, if_neg (by rw [HFR.out, HFV.out]; simp), HTO.out, HN.out, if_neg (Int.not_le.2 HTB0.out), if_neg HNAL.out]
       rw [HYS.out]; rfl
      ·exact HJF
    ·
     intro W4 hW
     have HB_W4 := lh (show Below W3.heap.size W3 W4 from hW)
     clear hW
     gi_wp2
     first | refine ⟨rfl, KpB.of_below (Below.refl _ _), ?_⟩ | refine ⟨trivial, KpB.of_below (Below.refl _ _), ?_⟩ | refine ⟨KpB.of_below (Below.refl _ _), ?_⟩ | ((first | refine ⟨trivial, ?_⟩ | refine ⟨fun _ h => (by cases h), ?_⟩); gi_wp2; first | refine ⟨rfl, KpB.of_below (Below.refl _ _), ?_⟩ | refine ⟨trivial, KpB.of_below (Below.refl _ _), ?_⟩ | refine ⟨KpB.of_below (Below.refl _ _), ?_⟩)
     refine Tr.wpTree_one (m := []) rfl rfl Gr.Quietly.none ?_
     intro W6 hW
     have HB_W6 := lh (show Below W3.heap.size W3 W6 from HB_W4.out.trans (hW.mono HB_W4.out.size))
     clear hW
     gi_wp2
     first | refine ⟨rfl, KpB.of_below (Below.refl _ _), ?_⟩ | refine ⟨trivial, KpB.of_below (Below.refl _ _), ?_⟩ | refine ⟨KpB.of_below (Below.refl _ _), ?_⟩ | ((first | refine ⟨trivial, ?_⟩ | refine ⟨fun _ h => (by cases h), ?_⟩); gi_wp2; first | refine ⟨rfl, KpB.of_below (Below.refl _ _), ?_⟩ | refine ⟨trivial, KpB.of_below (Below.refl _ _), ?_⟩ | refine ⟨KpB.of_below (Below.refl _ _), ?_⟩)
     refine Tr.wpTree_one (m := []) rfl rfl Gr.Quietly.none ?_
     intro W8 hW
     have HB_W8 := lh (show Below W3.heap.size W3 W8 from HB_W6.out.trans (hW.mono HB_W6.out.size))
     clear hW
     gi_wp2
     first | refine ⟨rfl, KpB.of_below (Below.refl _ _), ?_⟩ | refine ⟨trivial, KpB.of_below (Below.refl _ _), ?_⟩ | refine ⟨KpB.of_below (Below.refl _ _), ?_⟩ | ((first | refine ⟨trivial, ?_⟩ | refine ⟨fun _ h => (by cases h), ?_⟩); gi_wp2; first | refine ⟨rfl, KpB.of_below (Below.refl _ _), ?_⟩ | refine ⟨trivial, KpB.of_below (Below.refl _ _), ?_⟩ | refine ⟨KpB.of_below (Below.refl _ _), ?_⟩)
     refine Tr.wpTree_one (m := []) rfl rfl Gr.Quietly.none ?_
     intro W10 hW
     have HB_W10 := lh (show Below W3.heap.size W3 W10 from HB_W8.out.trans (hW.mono HB_W8.out.size))
     clear hW
     gi_wp2
     first | refine ⟨rfl, KpB.of_below (Below.refl _ _), ?_⟩ | refine ⟨trivial, KpB.of_below (Below.refl _ _), ?_⟩ | refine ⟨KpB.of_below (Below.refl _ _), ?_⟩ | ((first | refine ⟨trivial, ?_⟩ | refine ⟨fun _ h => (by cases h), ?_⟩); gi_wp2; first | refine ⟨rfl, KpB.of_below (Below.refl _ _), ?_⟩ | refine ⟨trivial, KpB.of_below (Below.refl _ _), ?_⟩ | refine ⟨KpB.of_below (Below.refl _ _), ?_⟩)
     refine Tr.wpTree_end (A := ?AW26) rfl ?hw26 ?_
     case hw26 =>
      rintro σ hσ of hof hcl
      have HOF := lh hof
      have HCL := lh hcl
      clear hof hcl
      have htb := HTBB.out
      have hfw := hfT
      simp only [pickB]
      iterate 2 (gi_big_quiet_step (fail))
      refine wpQuietIn_nil ?_
      exact rfl
     intro W12 hW
     have hb12 : Below W3.heap.size W3 W12 := HB_W10.out.trans (hW.mono HB_W10.out.size)
     have HK7 := lh (show KpR n0 n1 W3 W12 from KpR.of_below hb12)
     replace HJC := lh (HJ.out _ _ _ HJC.out hb12)
     clear hW hb12 HB_W4 HB_W6 HB_W8 HB_W10
     simp only [pickB]
     refine wpT_nil ?_
     replace HBX := lh (HBX.out.kp HP.out HK7.out)
     replace HSB := lh (HK7.out.blk (.inr HGW9.out) HSB.out)
     replace HSZ := lh (Nat.le_trans HSZ.out HK7.out.1)
     replace HK := lh (HK.out.trans HK7.out)
     clear HK7
     gi_wp2
     have hfq := fromI_small HOK.out.vess x
     rw [HFR.out] at hfq
     obtain ⟨vq, hvq⟩ : ∃ vq : Nat, v = (vq : Int) := ⟨v.toNat, by have := HV.out; omega⟩
     have hvq4 : vq < 4 := by have := HV.out; omega
     have HTA := lh (HBX.out.tb.at_ (by have := HSZ.out; omega))
     have hil : t < T.nl := by
      have h1 := recs_n heldC_k (by omega) HTA.out.all
      have h2 := HOK.out.long
      have h3 := (List.getElem?_eq_some_iff.1 HX.out).1
      omega
     obtain ⟨bl, ol, all9, e1, e2, e3, e4⟩ := recs_cell heldC_k (by omega) HTA.out.all hil
     obtain rfl : all = all9 := Option.some.inj (HAT.out.ha.symm.trans e3)
     have HAA := lh e1
     have HAC : Hid (bl < n0 ∧ W12.cell? ⟨bl, ol + t * 4 + vq, none⟩ = some (.int .i64 (heldAt all (vq : Int)))) := lh ⟨by obtain ⟨a9, h1, h2, _⟩ := HBX.out.tb.all.2 (by omega); rw [e1] at h1; cases h1; exact h2, e4 vq _ (heldC_l all hvq4)⟩
     have HVQ := lh hvq
     have HIL := lh hil
     have HVQ4 := lh hvq4
     have hnl : T.nl ≤ 13 := HTA.out.small.2.2.2
     have HNL := lh hnl
     obtain ⟨n, hn⟩ : ∃ n, sizeA T.m all x = n := ⟨_, rfl⟩
     have HN := lh hn
     clear e1 e2 e3 e4 hfq hvq hil hvq4 hn hnl
     by_cases hnal : n = heldAt all v
     ·
      have hnb : (n == heldAt all (vq : Int)) = true := by rw [← HVQ.out]; simpa using hnal
      have HNB := lh hnb
      have HNAL := lh hnal
      clear hnb hnal
      refine Gr.wpIn_flow_old (G := KpR n0 n1) [([true, true, false, true, true, true, true, true, true, true, true, true], 2), ([false, false, false, false, false, false, false, false, false, false, false, false, true, true, true, true, true, true, true, true, true], 21)] [false, false, false, false, false, false, false, false, false, false, false, false, false, false, false, false, false, false, false, false, false, false, true, true] [] (by kernel_rfl) (by kernel_rfl) (by kernel_rfl) (below_drewN (Below.refl _ _) 1) ?_
      refine Gr.wpFlow_cons (A := ?AW27) rfl ?hw27 ?_
      case hw27 =>
       rintro σ hσ of hof hcl
       have HOF := lh hof
       have HCL := lh hcl
       clear hof hcl
       have c0 : ∀ z, (of z).cell? ⟨gt, 0, none⟩ = some (.pointer (some ⟨T.g, 0, none⟩)) := fun z => (HBX.out.kp HP.out (HOF.out z)).bt.cell 0
       have c1 : ∀ z, (of z).cell? ⟨T.g, 2, none⟩ = some (.slice T.Aa T.na T.ca) := fun z => (HBX.out.kp HP.out (HOF.out z)).tb.blk.cell 2
       have c2 : ∀ z, (of z).cell? ⟨T.g, 4, none⟩ = some (.slice (some ⟨bl, ol, none⟩) T.nl T.cl) := fun z => (HBX.out.kp HP.out (HOF.out z)).tb.blk.cell 4 |>.trans (by rw [← HAA.out]; rfl)
       have c3 : ∀ z, (of z).cell? ⟨ge, 0, none⟩ = some (.func (.func 98) #[] #[.pointer (some ⟨gs, 0, none⟩), .pointer (some ⟨gy, 0, none⟩), .pointer (some ⟨gt, 0, none⟩), .pointer (some ⟨ge, 0, none⟩)]) := fun z => (HBX.out.kp HP.out (HOF.out z)).be.cell 0
       have c4 : ∀ z, (of z).cell? ⟨gs, 0, none⟩ = some (.int .i64 (q : Int)) := fun z => (HBX.out.kp HP.out (HOF.out z)).bs.cell 0
       have c5 : ∀ z, (of z).cell? ⟨gs, 1, none⟩ = some (.int .i64 (k : Int)) := fun z => (HBX.out.kp HP.out (HOF.out z)).bs.cell 1
       have ch : ∀ z, (of z).cell? ⟨bl, ol + t * 4 + vq, none⟩ = some (.int .i64 (heldAt all (vq : Int))) := fun z => cell_kp (HOF.out z) HAC.out.1 HAC.out.2
       have b0 : ∀ z, (of z).cell? ⟨gw, 0, none⟩ = some (.int .i64 v) := fun z => ((HOF.out z).blk (.inr HGW9.out) HSB.out).cell 0
       have hil := HIL.out
       have hnl := HNL.out
       have hv4 := HVQ4.out
       have hvi : (vq : Int) < 4 := by omega
       have hvv := HFV.out
       have hvq := HVQ.out
       have hnb := HNB.out
       have hfw := hfT
       simp only [pickB]
       iterate 11 (gi_big_quiet_step (fail))
       refine wpQuietIn_nil ?_
       exact rfl
      intro W20 hW
      have HB20 := lh hW
      clear hW
      gi_wp2
      refine ⟨trivial, (callsIn_wide.2 (callsIn_wide.1 (size_in T t x all W20 ((HBX.out.kp HP.out (KpR.of_below HB20.out)).tb.at_ (by have h1 := HSZ.out; have h2 := HB20.out.size; omega)) HX.out HAT.out.ha HAT.out.ok.kind HAT.out.four))).mono ?_⟩
      rintro e W21 ⟨rfl, hb⟩
      rw [HN.out]
      have HB21 := lh (show Below W12.heap.size W12 W21 from HB20.out.trans (hb.mono HB20.out.size))
      have HBb := lh hb
      clear hb
      gi_wp2
      refine ⟨trivial, KpR.of_below HBb.out, ?_⟩
      have HK21 := lh (show KpR n0 n1 W12 W21 from KpR.of_below HB21.out)
      replace HBX := lh (HBX.out.kp HP.out HK21.out)
      replace HSB := lh (HK21.out.blk (.inr HGW9.out) HSB.out)
      replace HSZ := lh (Nat.le_trans HSZ.out HK21.out.1)
      replace HK := lh (HK.out.trans HK21.out)
      replace HJC := lh (HJ.out _ _ _ HJC.out HB21.out)
      clear HK21 HB21 HBb HB20 HAC
      refine Gr.wpFlow_cons (A := ?AW28) rfl ?hw28 ?_
      case hw28 =>
       rintro σ hσ of hof hcl
       have HOF := lh hof
       have HCL := lh hcl
       clear hof hcl
       have c0 : ∀ z, (of z).cell? ⟨gt, 0, none⟩ = some (.pointer (some ⟨T.g, 0, none⟩)) := fun z => (HBX.out.kp HP.out (HOF.out z)).bt.cell 0
       have c1 : ∀ z, (of z).cell? ⟨T.g, 2, none⟩ = some (.slice T.Aa T.na T.ca) := fun z => (HBX.out.kp HP.out (HOF.out z)).tb.blk.cell 2
       have c2 : ∀ z, (of z).cell? ⟨T.g, 4, none⟩ = some (.slice T.AA T.nl T.cl) := fun z => (HBX.out.kp HP.out (HOF.out z)).tb.blk.cell 4
       have c3 : ∀ z, (of z).cell? ⟨ge, 0, none⟩ = some (.func (.func 98) #[] #[.pointer (some ⟨gs, 0, none⟩), .pointer (some ⟨gy, 0, none⟩), .pointer (some ⟨gt, 0, none⟩), .pointer (some ⟨ge, 0, none⟩)]) := fun z => (HBX.out.kp HP.out (HOF.out z)).be.cell 0
       have c4 : ∀ z, (of z).cell? ⟨gs, 0, none⟩ = some (.int .i64 (q : Int)) := fun z => (HBX.out.kp HP.out (HOF.out z)).bs.cell 0
       have c5 : ∀ z, (of z).cell? ⟨gs, 1, none⟩ = some (.int .i64 (k : Int)) := fun z => (HBX.out.kp HP.out (HOF.out z)).bs.cell 1
       have b0 : ∀ z, (of z).cell? ⟨gw, 0, none⟩ = some (.int .i64 v) := fun z => ((HOF.out z).blk (.inr HGW9.out) HSB.out).cell 0
       have hnb := HNB.out
       have ht12 := HT12.out
       have hfw := hfT
       simp only [pickB]
       iterate 9 (gi_big_quiet_step (fail))
       refine wpQuietIn_nil ?_
       exact rfl
      intro W22 hW
      have HB22 := lh hW
      clear hW
      gi_wp2
      refine ⟨fun _ h => (by cases h), ?_⟩
      gi_wp2
      first | refine ⟨rfl, KpR.of_below (Below.refl _ _), ?_⟩ | refine ⟨trivial, KpR.of_below (Below.refl _ _), ?_⟩ | refine ⟨KpR.of_below (Below.refl _ _), ?_⟩
      have HK22 := lh (show KpR n0 n1 W21 W22 from KpR.of_below HB22.out)
      replace HK := lh (HK.out.trans HK22.out)
      have HJE := lh (HJ.out _ _ _ HJC.out HB22.out)
      clear HK22
      refine Gr.wpFlow_nil (A := ?AW29)  ?hw29 ?_
      case hw29 =>
       rintro σ hσ of hof hcl
       have HOF := lh hof
       have HCL := lh hcl
       clear hof hcl
       have hnb := HNB.out
       have hfw := hfT
       simp only [pickB]
       iterate 2 (gi_big_quiet_step (fail))
       refine wpQuietIn_nil ?_
       exact rfl
      intro W24 hW
      have HB24 := lh hW
      clear hW
      simp only [pickB]
      refine wpT_nil ?_
      gi_wp2
      refine bodyPost_ret (v := .bool true) (by simp [results, Try.results98, go_sem]) rfl ?_
      have HJF := HJ.out _ _ _ HJE.out HB24.out
      refine ⟨rfl, [], ?_, ?_, HK.out.trans (KpR.of_below HB24.out)⟩
      ·rw [HFO.out, if_neg (by rw [HFR.out, HFV.out]; simp), HTO.out, HN.out, if_neg (Int.not_le.2 HTB0.out), if_pos HNAL.out]
       rfl
      ·rw [List.append_nil]; exact HJF
     ·
      have hnb : (n == heldAt all (vq : Int)) = false := by rw [← HVQ.out]; simpa using hnal
      have HNB := lh hnb
      have HNAL := lh hnal
      clear hnb hnal
      refine Gr.wpIn_flow_old (G := KpR n0 n1) [([true, true, false, true, true, true, true, true, true, true, true, true], 2), ([false, false, false, false, false, false, false, false, false, false, false, false, true, true, true, true, true, true, true, true, true], 21)] [false, false, false, false, false, false, false, false, false, false, false, false, false, false, false, false, false, false, false, false, false, false, true, true] [] (by kernel_rfl) (by kernel_rfl) (by kernel_rfl) (below_drewN (Below.refl _ _) 1) ?_
      refine Gr.wpFlow_cons (A := ?AW30) rfl ?hw30 ?_
      case hw30 =>
       rintro σ hσ of hof hcl
       have HOF := lh hof
       have HCL := lh hcl
       clear hof hcl
       have c0 : ∀ z, (of z).cell? ⟨gt, 0, none⟩ = some (.pointer (some ⟨T.g, 0, none⟩)) := fun z => (HBX.out.kp HP.out (HOF.out z)).bt.cell 0
       have c1 : ∀ z, (of z).cell? ⟨T.g, 2, none⟩ = some (.slice T.Aa T.na T.ca) := fun z => (HBX.out.kp HP.out (HOF.out z)).tb.blk.cell 2
       have c2 : ∀ z, (of z).cell? ⟨T.g, 4, none⟩ = some (.slice (some ⟨bl, ol, none⟩) T.nl T.cl) := fun z => (HBX.out.kp HP.out (HOF.out z)).tb.blk.cell 4 |>.trans (by rw [← HAA.out]; rfl)
       have c3 : ∀ z, (of z).cell? ⟨ge, 0, none⟩ = some (.func (.func 98) #[] #[.pointer (some ⟨gs, 0, none⟩), .pointer (some ⟨gy, 0, none⟩), .pointer (some ⟨gt, 0, none⟩), .pointer (some ⟨ge, 0, none⟩)]) := fun z => (HBX.out.kp HP.out (HOF.out z)).be.cell 0
       have c4 : ∀ z, (of z).cell? ⟨gs, 0, none⟩ = some (.int .i64 (q : Int)) := fun z => (HBX.out.kp HP.out (HOF.out z)).bs.cell 0
       have c5 : ∀ z, (of z).cell? ⟨gs, 1, none⟩ = some (.int .i64 (k : Int)) := fun z => (HBX.out.kp HP.out (HOF.out z)).bs.cell 1
       have ch : ∀ z, (of z).cell? ⟨bl, ol + t * 4 + vq, none⟩ = some (.int .i64 (heldAt all (vq : Int))) := fun z => cell_kp (HOF.out z) HAC.out.1 HAC.out.2
       have b0 : ∀ z, (of z).cell? ⟨gw, 0, none⟩ = some (.int .i64 v) := fun z => ((HOF.out z).blk (.inr HGW9.out) HSB.out).cell 0
       have hil := HIL.out
       have hnl := HNL.out
       have hv4 := HVQ4.out
       have hvi : (vq : Int) < 4 := by omega
       have hvv := HFV.out
       have hvq := HVQ.out
       have hnb := HNB.out
       have hfw := hfT
       simp only [pickB]
       iterate 11 (gi_big_quiet_step (fail))
       refine wpQuietIn_nil ?_
       exact rfl
      intro W20 hW
      have HB20 := lh hW
      clear hW
      gi_wp2
      refine ⟨trivial, (callsIn_wide.2 (callsIn_wide.1 (size_in T t x all W20 ((HBX.out.kp HP.out (KpR.of_below HB20.out)).tb.at_ (by have h1 := HSZ.out; have h2 := HB20.out.size; omega)) HX.out HAT.out.ha HAT.out.ok.kind HAT.out.four))).mono ?_⟩
      rintro e W21 ⟨rfl, hb⟩
      rw [HN.out]
      have HB21 := lh (show Below W12.heap.size W12 W21 from HB20.out.trans (hb.mono HB20.out.size))
      have HBb := lh hb
      clear hb
      gi_wp2
      refine ⟨trivial, KpR.of_below HBb.out, ?_⟩
      have HK21 := lh (show KpR n0 n1 W12 W21 from KpR.of_below HB21.out)
      replace HBX := lh (HBX.out.kp HP.out HK21.out)
      replace HSB := lh (HK21.out.blk (.inr HGW9.out) HSB.out)
      replace HSZ := lh (Nat.le_trans HSZ.out HK21.out.1)
      replace HK := lh (HK.out.trans HK21.out)
      replace HJC := lh (HJ.out _ _ _ HJC.out HB21.out)
      clear HK21 HB21 HBb HB20 HAC
      refine Gr.wpFlow_cons (A := ?AW31) rfl ?hw31 ?_
      case hw31 =>
       rintro σ hσ of hof hcl
       have HOF := lh hof
       have HCL := lh hcl
       clear hof hcl
       have c0 : ∀ z, (of z).cell? ⟨gt, 0, none⟩ = some (.pointer (some ⟨T.g, 0, none⟩)) := fun z => (HBX.out.kp HP.out (HOF.out z)).bt.cell 0
       have c1 : ∀ z, (of z).cell? ⟨T.g, 2, none⟩ = some (.slice T.Aa T.na T.ca) := fun z => (HBX.out.kp HP.out (HOF.out z)).tb.blk.cell 2
       have c2 : ∀ z, (of z).cell? ⟨T.g, 4, none⟩ = some (.slice T.AA T.nl T.cl) := fun z => (HBX.out.kp HP.out (HOF.out z)).tb.blk.cell 4
       have c3 : ∀ z, (of z).cell? ⟨ge, 0, none⟩ = some (.func (.func 98) #[] #[.pointer (some ⟨gs, 0, none⟩), .pointer (some ⟨gy, 0, none⟩), .pointer (some ⟨gt, 0, none⟩), .pointer (some ⟨ge, 0, none⟩)]) := fun z => (HBX.out.kp HP.out (HOF.out z)).be.cell 0
       have c4 : ∀ z, (of z).cell? ⟨gs, 0, none⟩ = some (.int .i64 (q : Int)) := fun z => (HBX.out.kp HP.out (HOF.out z)).bs.cell 0
       have c5 : ∀ z, (of z).cell? ⟨gs, 1, none⟩ = some (.int .i64 (k : Int)) := fun z => (HBX.out.kp HP.out (HOF.out z)).bs.cell 1
       have b0 : ∀ z, (of z).cell? ⟨gw, 0, none⟩ = some (.int .i64 v) := fun z => ((HOF.out z).blk (.inr HGW9.out) HSB.out).cell 0
       have hnb := HNB.out
       have ht12 := HT12.out
       have hfw := hfT
       simp only [pickB]
       iterate 9 (gi_big_quiet_step (fail))
       refine wpQuietIn_nil ?_
       exact rfl
      intro W22 hW
      have HB22 := lh hW
      clear hW
      have HK22 := lh (show KpR n0 n1 W21 W22 from KpR.of_below HB22.out)
      replace HBX := lh (HBX.out.kp HP.out HK22.out)
      replace HSZ := lh (Nat.le_trans HSZ.out HK22.out.1)
      replace HK := lh (HK.out.trans HK22.out)
      replace HJC := lh (HJ.out _ _ _ HJC.out HB22.out)
      clear HK22
      have hih := HIH.out (t + 1) v Aw nw cw wl pre W22 HBX.out HJC.out (HR.out.safe HS.out HK.out) (HS.out.kp HK.out) (by omega) (by omega) HSZ.out HV.out (by have h9 := HNN.out; rw [HFO.out, if_neg (by rw [HFR.out, HFV.out]; simp), HTO.out, HN.out, if_neg (Int.not_le.2 HTB0.out), if_neg HNAL.out] at h9; simp only [List.length_append, List.length_nil] at h9; omega)
      rw [show ((t + 1 : Nat) : Int) = (t : Int) + 1 from by omega] at hih
      gi_wp2
      refine ⟨trivial, (callsIn_wide.2 (callsIn_wide.1 hih)).mono ?_⟩
      rintro e W23 ⟨rfl, ys, hys, hJ23, hk23⟩
      have HYS := lh hys
      have HJE := lh hJ23
      have HK23 := lh hk23
      replace HK := lh (HK.out.trans HK23.out)
      clear hys hJ23 hk23 hih
      gi_wp2
      refine ⟨trivial, HK23.out, ?_⟩
      clear HK23
      refine Gr.wpFlow_nil (A := ?AW32)  ?hw32 ?_
      case hw32 =>
       rintro σ hσ of hof hcl
       have HOF := lh hof
       have HCL := lh hcl
       clear hof hcl
       have hnb := HNB.out
       have hfw := hfT
       simp only [pickB]
       iterate 2 (gi_big_quiet_step (fail))
       refine wpQuietIn_nil ?_
       exact rfl
      intro W24 hW
      have HB24 := lh hW
      clear hW
      simp only [pickB]
      refine wpT_nil ?_
      gi_wp2
      refine bodyPost_ret (v := .bool true) (by simp [results, Try.results98, go_sem]) rfl ?_
      have HJF := HJ.out _ _ _ HJE.out HB24.out
      refine ⟨rfl, ys, ?_, ?_, HK.out.trans (KpR.of_below HB24.out)⟩
      ·rw [HFO.out, if_neg (by rw [HFR.out, HFV.out]; simp), HTO.out, HN.out, if_neg (Int.not_le.2 HTB0.out), if_neg HNAL.out]
       rw [HYS.out]; rfl
      ·exact HJF
  ·
   have hfvb : (fr == v) = false := by simpa using hfv
   have HFV := lh hfv
   clear hfv
   have c0 := HBX.out.bt.cell 0
   have c0l := HBX.out.bt.lt
   have c3 := HBX.out.be.cell 0
   have c3l := HBX.out.be.lt
   have c4 := HBX.out.bs.cell 0
   have c5 := HBX.out.bs.cell 1
   have c4l := HBX.out.bs.lt
   have c6 := HBX.out.by_.cell 0
   have c6l := HBX.out.by_.lt
   have d0 := HSB.out.cell 0
   have d1 := HSB.out.cell 1
   have dl := HSB.out.lt
   have hih := HIH.out (t + 1) v Aw nw cw wl pre W3 HBX.out HJC.out (HR.out.safe HS.out HK.out) (HS.out.kp HK.out) (by omega) (by omega) HSZ.out HV.out (by have h9 := HNN.out; rw [HFO.out, if_pos (by rw [HFR.out]; exact HFV.out)] at h9; exact h9)
   rw [show ((t + 1 : Nat) : Int) = (t : Int) + 1 from by omega] at hih
   gi_wp2
   refine ⟨trivial, (callsIn_wide.2 (callsIn_wide.1 hih)).mono ?_⟩
   rintro e W4 ⟨rfl, xs, hxs, hJ4, hk4⟩
   have HXS := lh hxs
   have HJ4 := lh hJ4
   have HK4 := lh hk4
   clear hxs hJ4 hk4 hih
   gi_wp2
   refine bodyPost_ret (v := .bool true) (by simp [results, Try.results98, go_sem]) rfl ?_
   exact ⟨rfl, xs, by rw [HFO.out, if_pos (by rw [HFR.out]; exact HFV.out)]; exact HXS.out, HJ4.out, HK.out.trans HK4.out⟩
end
section
open Go.RowKit
theorem isNaN_int (x : Int) (w : World) : Calls Try.prog 108 #[.int .i64 x] w fun e w' => e = .returned (.bool false) ∧ w' = w := by
 go_enter Try.func108, Try.ntmps108
 go_wp2_with fail
 go_ret
 exact ⟨rfl, rfl⟩
def cmpI (x y : Int) : Int := if x < y then -1 else if y < x then 1 else 0
theorem cmp_int (x y : Int) (w : World) : Calls Try.prog 79 #[.int .i64 x, .int .i64 y] w fun e w' => e = .returned (.int .i64 (cmpI x y)) ∧ w' = w := by
 have h3 : x < y ∨ (¬ x < y ∧ y < x) ∨ (¬ x < y ∧ ¬ y < x) := by omega
 rcases h3 with h1 | ⟨h1, h2⟩ | ⟨h1, h2⟩
 all_goals
  go_enter Try.func79, Try.ntmps79
  go_wp2_with fail
  refine (isNaN_int x w).mono ?_
  rintro e w1 ⟨rfl, rfl⟩
  go_wp2_with fail
  refine (isNaN_int y w1).mono ?_
  rintro e w2 ⟨rfl, rfl⟩
  go_wp2_with fail
  go_ret
  exact ⟨ret_int (by unfold cmpI; split <;> first | rfl | omega | (split <;> first | rfl | omega)), rfl⟩
set_option maxHeartbeats 2000000 in
theorem compare_int (A : Option Addr) (n c : Nat) (a : List Int) (B : Option Addr) (m d : Nat) (b : List Int) (w : World) (ha : IntsAt w w.heap.size A n a) (hb : IntsAt w w.heap.size B m b) (hn : n ≤ maxLen) (hm : m ≤ maxLen) :
  Calls Try.prog 100 #[.slice A n c, .slice B m d] w fun e w' => e = .returned (.int .i64 (cmpL a b)) ∧ w' = w := by
 unfold maxLen at hn hm
 go_enter Try.func100, Try.ntmps100
 go_wp2_with fail
 go_loopw [11] (fun i wr => ∃ k : Nat, k ≤ n ∧ k ≤ m ∧ i = .int .i64 k ∧ cmpL a b = cmpL (a.drop k) (b.drop k) ∧ wr = w)
  (fun i _ => n - (intOf i).toNat)
 case atStart => exact ⟨0, by omega, by omega, rfl, by simp, rfl⟩
 case round =>
  obtain ⟨k, hk, hk', rfl, hc, rfl⟩ := hrel
  have HC := lh hc
  clear hc
  have la := ha.len
  have lb := hb.len
  by_cases h1 : k < n
  ·by_cases h2 : k < m
   ·obtain ⟨b1, o1, x, rfl, hb1, hx, cx⟩ := ha.cell h1
    obtain ⟨b2, o2, y, rfl, hb2, hy, cy⟩ := hb.cell h2
    have HX := lh hx
    have HY := lh hy
    clear hx hy
    have h2' : ¬ m ≤ k := by omega
    go_wp2_with fail
    refine (cmp_int x y wr).mono ?_
    rintro e w1 ⟨rfl, rfl⟩
    by_cases hxy : x < y
    ·have he : cmpI x y = -1 := by unfold cmpI; rw [if_pos hxy]
     go_wp2_with fail
     go_ret
     exact ⟨ret_int (by rw [HC.out, cmpL_drop HX.out HY.out, if_pos hxy]), rfl⟩
    ·by_cases hyx : y < x
     ·have he : cmpI x y = 1 := by unfold cmpI; rw [if_neg (by omega), if_pos hyx]
      go_wp2_with fail
      go_ret
      exact ⟨ret_int (by rw [HC.out, cmpL_drop HX.out HY.out, if_neg (by omega), if_pos hyx]), rfl⟩
     ·have he : cmpI x y = 0 := by unfold cmpI; rw [if_neg (by omega), if_neg (by omega)]
      go_wp2_with fail
      go_roundw
      case rel => exact ⟨k + 1, by omega, by omega, by go_num, by rw [HC.out, cmpL_drop HX.out HY.out, if_neg (by omega), if_neg (by omega)], trivial⟩
      case measure => simp [intOf]; omega
   ·obtain ⟨b1, o1, x, rfl, hb1, hx, cx⟩ := ha.cell h1
    have HX := lh hx
    clear hx
    have h2' : m ≤ k := by omega
    go_wp2_with fail
    go_ret
    refine ⟨ret_int ?_, rfl⟩
    obtain ⟨hk1, _⟩ := List.getElem?_eq_some_iff.1 HX.out
    rw [HC.out, List.drop_eq_getElem_cons hk1, show b.drop k = [] from List.drop_eq_nil_of_le (by omega)]; rfl
  ·by_cases h2 : n < m
   ·go_wp2_with fail
    go_ret
    refine ⟨ret_int ?_, rfl⟩
    rw [HC.out, show a.drop k = [] from List.drop_eq_nil_of_le (by omega), List.drop_eq_getElem_cons (show k < b.length by omega)]; rfl
   ·go_wp2_with fail
    go_ret
    refine ⟨ret_int ?_, rfl⟩
    rw [HC.out, show a.drop k = [] from List.drop_eq_nil_of_le (by omega), show b.drop k = [] from List.drop_eq_nil_of_le (by omega)]; rfl
end
section
open Go.RowKit Go.Shelf
def or2 (a b : Int) : Int := if a = 0 then b else a
set_option maxRecDepth 100000 in
set_option maxHeartbeats 2000000 in
theorem orI_any (a b : Int) (g : Nat) (w : World) (hg : Blk w g 3 #[.int .i64 a, .int .i64 b]) :
  Calls Try.prog 99 #[.slice (some ⟨g, 0, none⟩) 2 2] w fun e w' => e = .returned (.int .i64 (or2 a b)) ∧ w' = w := by
 have c0 := hg.cell 0
 have c1 := hg.cell 1
 have hlt := hg.lt
 clear hg
 go_enter Try.func99, Try.ntmps99
 go_wp2_with fail
 go_loop [8, 5] (fun i x => ∃ k : Nat, k ≤ 2 ∧ i = .int .i64 k ∧ Hid ((0 < k → a = 0) ∧ (1 < k → b = 0))) (fun i _ => 2 - (intOf i).toNat)
 case atStart => exact ⟨0, by omega, rfl, lh ⟨fun h => absurd h (by omega), fun h => absurd h (by omega)⟩⟩
 case round =>
  obtain ⟨k, hk, rfl, HP⟩ := hrel
  have hk' : k = 0 ∨ k = 1 ∨ k = 2 := by omega
  rcases hk' with rfl | rfl | rfl
  ·by_cases ha : a = 0
   ·have ha' : (a == 0) = true := by simpa using ha
    have ha2 : (a != 0) = false := by simpa using ha
    have HA := lh ha
    clear ha
    go_wp2_with fail
    go_round
    case rel => exact ⟨1, by omega, by go_num, lh ⟨fun _ => HA.out, fun h => absurd h (by omega)⟩⟩
    case measure => simp [intOf]
   ·have ha' : (a == 0) = false := by simpa using ha
    have ha2 : (a != 0) = true := by simpa using ha
    have HA := lh ha
    clear ha
    go_wp2_with fail
    go_ret
    exact ⟨ret_int (by unfold or2; rw [if_neg HA.out]), rfl⟩
  ·by_cases hb : b = 0
   ·have hb' : (b == 0) = true := by simpa using hb
    have hb2 : (b != 0) = false := by simpa using hb
    have HB := lh hb
    clear hb
    go_wp2_with fail
    go_round
    case rel => exact ⟨2, by omega, by go_num, lh ⟨fun _ => HP.out.1 (by omega), fun _ => HB.out⟩⟩
    case measure => simp [intOf]
   ·have hb' : (b == 0) = false := by simpa using hb
    have hb2 : (b != 0) = true := by simpa using hb
    have HB := lh hb
    clear hb
    go_wp2_with fail
    go_ret
    exact ⟨ret_int (by unfold or2; rw [if_pos (HP.out.1 (by omega))]), rfl⟩
  ·go_wp2_with fail
   go_ret
   exact ⟨ret_int (by unfold or2; rw [if_pos (HP.out.1 (by omega)), HP.out.2 (by omega)]), rfl⟩
theorem or2_cmpS (a b : List Int) : or2 (cmpI a.length b.length) (cmpL a b) = cmpS a b := by
 unfold or2 cmpI cmpS
 by_cases h1 : a.length < b.length
 ·have h1' : (a.length : Int) < b.length := by omega
  simp [h1, h1']
 ·by_cases h2 : b.length < a.length
  ·have h1' : ¬ (a.length : Int) < b.length := by omega
   have h2' : (b.length : Int) < a.length := by omega
   simp [h1, h2, h1', h2']
  ·have h1' : ¬ (a.length : Int) < b.length := by omega
   have h2' : ¬ (b.length : Int) < a.length := by omega
   simp [h1, h2, h1', h2']
set_option maxRecDepth 100000 in
set_option maxHeartbeats 8000000 in
theorem shorter_any (A : Option Addr) (n c : Nat) (a : List Int) (B : Option Addr) (m d : Nat) (b : List Int) (w : World) (ha : IntsAt w w.heap.size A n a) (hb : IntsAt w w.heap.size B m b) (hn : n ≤ 1000) (hm : m ≤ 1000) :
  Calls Try.prog 68 #[.slice A n c, .slice B m d] w fun e w' => e = .returned (.int .i64 (cmpS a b)) ∧ Below w.heap.size w w' := by
 have hR := (or2_cmpS a b).symm
 rw [show a.length = n from ha.len, show b.length = m from hb.len] at hR
 have HR := lh hR
 have HA := lh ha
 have HB := lh hb
 clear hR ha hb
 generalize cmpS a b = cs at *
 go_enter Try.func68, Try.ntmps68
 go_wp2_with fail
 refine (cmp_int n m w).mono ?_
 rintro e w1 ⟨rfl, rfl⟩
 go_wp2_with fail
 refine (compare_int A n c a B m d b w1 HA.out HB.out (Nat.le_trans hn (by unfold maxLen; omega)) (Nat.le_trans hm (by unfold maxLen; omega))).mono ?_
 rintro e w2 ⟨rfl, rfl⟩
 go_wp2_with fail
 have hbs : Below w2.heap.size w2 (w2.alloc (.cells #[.int .i64 (cmpI n m), .int .i64 (cmpL a b)] 3)) := (Below.refl _ _).alloc (Nat.le_refl _) _
 refine (orI_any (cmpI n m) (cmpL a b) w2.heap.size _ (Blk.new w2 3 #[.int .i64 (cmpI n m), .int .i64 (cmpL a b)])).mono ?_
 rintro e w3 ⟨rfl, rfl⟩
 go_wp2_with fail
 go_ret
 exact ⟨ret_int (HR.out.symm), hbs⟩
end
section
open Go.RowKit Go.Shelf
attribute [local go_sem] Oper.semAt_some
theorem ints_keep {W W' : World} {B n : Nat} {A : Option Addr} {l : List Int} (h : IntsAt W B A n l) (hk : ∀ (b : Nat) cs t fr, W.heap[b]? = some (.cells cs t fr) → b < B → W'.heap[b]? = some (.cells cs t fr)) : IntsAt W' B A n l := by
 refine ⟨h.1, fun hn => ?_⟩
 obtain ⟨ad, e, hb, hc⟩ := h.2 hn
 refine ⟨ad, e, hb, fun j u hu => ?_⟩
 have h1 := hc j u hu
 obtain ⟨o, ho, hcell⟩ := cells_of_cell h1
 rw [← h1]
 refine World.cell?_of_block ?_
 rw [ho]
 cases o <;> simp [Obj.isCells] at hcell
 exact hk _ _ _ _ ho (by rw [block_of_add]; exact hb)
theorem Marks.drew {B : Nat} {w : World} {ds : List Deferred} (h : Marks B w ds) : Marks B w.drew ds := h.keep fun _ _ _ _ h0 => h0
theorem shut_ints {B : Nat} {W W' : World} {A : Option Addr} {n : Nat} {l : List Int} (h : IntsAt W W.heap.size A n l) (hs : Shut B W W') : IntsAt W' W'.heap.size A n l :=
 (ints_keep h (fun b cs ty fr hb _ => hs.cells _ _ _ _ hb)).more hs.below.size
abbrev zeroWy : Wy := ⟨[], none, 0, 0⟩
def Wy.at_ (x : Wy) (w : World) : Prop := IntsAt w w.heap.size x.A x.n x.l ∧ x.n ≤ 13
theorem Wy.at_.below {x : Wy} {w w' : World} (h : x.at_ w) (hb : Below w.heap.size w w') : x.at_ w' := ⟨(h.1.below hb).more hb.size, h.2⟩
def FirstWOut (w : World) (S : List Wy → Prop) (e : Ending) (w' : World) : Prop :=
 ∃ xs, S xs ∧ Below w.heap.size w w' ∧ ∃ b : Option Wy, (xs.map Wy.l).foldl stepS none = b.map Wy.l ∧ e = .returned (.tuple #[(b.getD zeroWy).val, .bool b.isSome]) ∧ ∀ x, b = some x → x.at_ w' ∧ ∀ a, x.A = some a → w.heap.size + 3 ≤ a.block
structure FwSt (w : World) (b : Option Wy) (S : Nat) (W : World) : Prop where
 bel : Below w.heap.size w W
 ord : Blk W w.heap.size 142 #[.func (.func 68) #[] #[]]
 best : Blk W (w.heap.size + 1) 57 #[(b.getD zeroWy).val]
 fnd : Blk W (w.heap.size + 1 + 1) 4 #[.bool b.isSome]
 sz : S ≤ W.heap.size
 at_ : ∀ x, b = some x → x.at_ W
 safe : ∀ x, b = some x → ∀ a, x.A = some a → S ≤ a.block
section
variable {w W W' : World} {b : Option Wy} {S : Nat}
theorem FwSt.below (h : FwSt w b S W) (hb : Below W.heap.size W W') : FwSt w b S W' :=
 ⟨h.bel.trans (hb.mono h.bel.size), h.ord.below hb h.ord.lt, h.best.below hb h.best.lt, h.fnd.below hb h.fnd.lt, Nat.le_trans h.sz hb.size, fun x e => (h.at_ x e).below hb, h.safe⟩
theorem FwSt.shut (h : FwSt w b S W) (hs : Shut S W W') (hS : w.heap.size ≤ S) : FwSt w b S W' :=
 ⟨h.bel.trans (hs.below.mono hS), hs.blk h.ord, hs.blk h.best, hs.blk h.fnd, Nat.le_trans h.sz hs.below.size, fun x e => ⟨shut_ints (h.at_ x e).1 hs, (h.at_ x e).2⟩, h.safe⟩
end
abbrev putW (W : World) (g g' : Nat) (y : Wy) : World := (W.setCell ⟨g, 0, none⟩ (.slice y.A y.n y.cap)).setCell ⟨g', 0, none⟩ (.bool true)
theorem FwSt.put {w W : World} {b : Option Wy} {S : Nat} (h : FwSt w b S W) (y : Wy) (hS : w.heap.size + 3 ≤ S) (hy : y.at_ W) (hyr : ∀ a, y.A = some a → S ≤ a.block) :
  FwSt w (some y) S (putW W (w.heap.size + 1) (w.heap.size + 1 + 1) y) ∧ KeepsFrom S W (putW W (w.heap.size + 1) (w.heap.size + 1 + 1) y) ∧ KpR w.heap.size S W (putW W (w.heap.size + 1) (w.heap.size + 1 + 1) y) := by
 have ko : KeepsOthers W (putW W (w.heap.size + 1) (w.heap.size + 1 + 1) y) := (KeepsOthers.setCell W _ _).trans (KeepsOthers.setCell _ _ _)
 have hb3 : Blk (W.setCell ⟨w.heap.size + 1, 0, none⟩ (.slice y.A y.n y.cap)) (w.heap.size + 1) 57 #[y.val] := h.best.set_ 0 _
 have ho3 := h.ord.far (p := ⟨w.heap.size + 1, 0, none⟩) (by simp) (.slice y.A y.n y.cap)
 have hf3 := h.fnd.far (p := ⟨w.heap.size + 1, 0, none⟩) (by simp) (.slice y.A y.n y.cap)
 refine ⟨⟨?_, ho3.far (p := ⟨w.heap.size + 1 + 1, 0, none⟩) (by simp; omega) _, hb3.far (p := ⟨w.heap.size + 1 + 1, 0, none⟩) (by simp) _, hf3.set_ 0 _, Nat.le_trans h.sz (by simp), ?_, fun x e => by cases e; exact hyr⟩, ko.from S, ?_⟩
 ·exact (h.bel.setCell (p := ⟨w.heap.size + 1, 0, none⟩) (by simp) _).setCell (p := ⟨w.heap.size + 1 + 1, 0, none⟩) (by simp; omega) _
 ·intro x e
  cases e
  have g1 : W.grownBy (W.setCell ⟨w.heap.size + 1, 0, none⟩ (.slice y.A y.n y.cap)) (some (w.heap.size + 1)) :=
   grown_setCell (grown_refl W _) (p := ⟨w.heap.size + 1, 0, none⟩) (.inl rfl) _
  have h1 := Reads.grown hy.1 g1 (Nat.le_refl _) (fun a ha e => by have := hyr a ha; have := Option.some.inj e; omega)
  have h2 := Reads.grown (h1.more g1.size) (grown_setCell (grown_refl _ (some (w.heap.size + 1 + 1))) (p := ⟨w.heap.size + 1 + 1, 0, none⟩) (.inl rfl) (.bool true)) (Nat.le_refl _) (fun a ha e => by have := hyr a ha; have := Option.some.inj e; omega)
  exact ⟨h2.more (by simp), hy.2⟩
 ·exact (KpR.setCell _ _ _ (by simp) (by simp; omega)).trans (KpR.setCell _ _ _ (by simp; omega) (by simp; omega))
set_option maxRecDepth 100000 in
set_option maxHeartbeats 8000000 in
theorem firstW_in (gf : Nat) (lb : Array Value) (S : List Wy → Prop) (w : World) (eg : ∀ args w, (callFunc gf args).run Try.prog w = .ok (.enter gf args) w)
  (hseq : ∀ w0, Below w.heap.size w w0 → SeqAt Fence.wide 8 Try.prog gf lb (fun x : Wy => #[x.val]) (AtW w.heap.size w0.heap.size) (KpR w.heap.size w0.heap.size) S w0) :
  CallsIn Fence.wide 9 Try.prog 66 #[.func (.func gf) #[] lb, .func (.func 68) #[] #[]] w (FirstWOut w S) := by
 have HSQ := lh hseq
 have HEG := lh eg
 clear hseq eg
 refine callsIn_of_wp_marks Try.func66 rfl trivial ?_ rfl
 simp only [Try.ntmps66, List.size_toArray, List.length_cons, List.length_nil, Nat.reduceAdd, Nat.reduceSub, Array.replicate_succ, Array.replicate_zero, List.push_toArray, List.append_toArray, List.nil_append, List.cons_append]
 gi_wp2
 have L0 := Lay.three w 142 #[.func (.func 68) #[] #[]] 57 #[.slice none 0 0] 4 #[.bool false]
 have z0 : (((w.alloc (.cells #[.func (.func 68) #[] #[]] 142)).alloc (.cells #[.slice none 0 0] 57)).alloc (.cells #[.bool false] 4)).heap.size = w.heap.size + 1 + 1 + 1 := by simp
 generalize (((w.alloc (.cells #[.func (.func 68) #[] #[]] 142)).alloc (.cells #[.slice none 0 0] 57)).alloc (.cells #[.bool false] 4)) = w0 at *
 have F0 : FwSt w none w0.heap.size w0 := ⟨L0.1, L0.blk 0 rfl, L0.blk 1 rfl, L0.blk 2 rfl, Nat.le_refl _, (fun x e => by cases e), fun x e => by cases e⟩
 have hsq := HSQ.out w0 L0.1
 have hz0 : w.heap.size + 3 ≤ w0.heap.size := by omega
 clear L0 z0
 refine wpIn_rangeAt rfl (by omega) (gf := gf) (lb := lb) rfl trivial HEG.out hsq (fun h k => KpR.trans h k) (fun W l o o' _ h h1 h2 => KpR.put W l o o' h h1 h2) (fun _ => rfl)
  (fun pre Wr => ∃ b, FwSt w b w0.heap.size Wr ∧ (pre.map Wy.l).foldl stepS none = b.map Wy.l)
  (ownFrom_shut (fun s Wr h => by obtain ⟨b, h, _⟩ := h; exact h.sz) (fun s Wr Wr' h hs => by obtain ⟨b, h, h2⟩ := h; exact ⟨b, h.shut hs (by omega), h2⟩))
  (fun s A B h hb => by obtain ⟨b, h, h2⟩ := h; exact ⟨b, h.below hb, h2⟩)
  ⟨none, F0, rfl⟩
  (fun y a' Wr => w0.heap.size ≤ Wr.heap.size ∧ AtW w.heap.size w0.heap.size y Wr ∧
   a' = { tmps := #[.func (.func gf) #[] lb, .func (.func 68) #[] #[], undef, .pointer (some ⟨w.heap.size, 0, none⟩), .slice none 0 0, .bool false, .pointer (some ⟨w.heap.size + 1, 0, none⟩), .pointer (some ⟨w.heap.size + 1 + 1, 0, none⟩), y.val, .func (.func gf) #[] lb, y.val, undef, undef, undef, undef, undef, undef, undef, undef, undef, undef, undef, undef], defers := [] })
  (fun y a' => ownFrom_shut (fun _ Wr h => h.1) (fun _ Wr Wr' h hs => by obtain ⟨h1, h3, h4⟩ := h; exact ⟨Nat.le_trans h1 hs.below.size, ⟨shut_ints h3.1 hs, fun a ha => ⟨(h3.2.1 a ha).1, by obtain ⟨cs, hb⟩ := (h3.2.1 a ha).2; exact ⟨cs, hs.blk hb⟩⟩, h3.2.2⟩, h4⟩)) ?assign ?body ?done
 case assign =>
  rintro l' pre y Wr K ⟨b, hI, hB⟩ hat hK
  gi_wp2
  exact hK _ _ (keepsFrom_below (Below.refl _ _)) (KpR.of_below (Below.refl _ _)) ⟨b, hI, hB⟩ ⟨hI.sz, hat, rfl⟩
 case body =>
  rintro l' pre y a' Wr ⟨b, hI, hB⟩ ⟨hsz, hat, rfl⟩
  have o0 := hI.ord.cell 0
  have f0 := hI.fnd.cell 0
  have f1 := hI.fnd.frozen 0
  have x0 := hI.best.cell 0
  have z0_ := hI.best.frozen 0
  have HI := lh hI
  have HB := lh hB
  have HAT := lh hat
  have hyr := lh (show ∀ a, y.A = some a → w0.heap.size ≤ a.block from fun a ha => (hat.2.1 a ha).1)
  clear hI hB hat
  cases b with
  | none =>
   gi_wp2
   refine ⟨fun _ h => (by cases h), ?_⟩
   gi_wp2
   have hp := HI.out.put y (by omega) ⟨HAT.out.1, HAT.out.2.2⟩ hyr.out
   refine ⟨hp.2.1, hp.2.2, some y, hp.1, ?_⟩
   rw [HB.out]
   rfl
  | some z =>
   have hcall := shorter_any y.A y.n y.cap y.l z.A z.n z.cap z.l Wr HAT.out.1 (HI.out.at_ z rfl).1 (by have := HAT.out.2.2; omega) (by have := (HI.out.at_ z rfl).2; omega)
   obtain ⟨cv, hcv⟩ : ∃ cv, cmpS y.l z.l = cv := ⟨_, rfl⟩
   rw [hcv] at hcall
   have HC := lh hcall
   have HCV := lh hcv
   clear hcall hcv
   gi_wp2
   refine ⟨trivial, (CallsIn.inRound l' (callsIn_wide.2 HC.out)).mono ?_⟩
   rintro e w1 ⟨rfl, hb1⟩
   have HI1 := lh (HI.out.below hb1)
   have HA1 := lh (show y.at_ w1 from Wy.at_.below ⟨HAT.out.1, HAT.out.2.2⟩ hb1)
   have HB1 := lh hb1
   clear o0 f0 f1 x0 z0_ hb1
   have f0 := HI1.out.fnd.cell 0
   have f1 := HI1.out.fnd.frozen 0
   have x0 := HI1.out.best.cell 0
   have z0_ := HI1.out.best.frozen 0
   by_cases hlt : cv < 0
   ·gi_wp2
    have hp := HI1.out.put y (by omega) HA1.out hyr.out
    refine ⟨(keepsFrom_below HB1.out).trans hp.2.1, (KpR.of_below HB1.out).trans hp.2.2, some y, hp.1, ?_⟩
    rw [HB.out]
    show stepS (some z.l) y.l = some y.l
    unfold stepS
    simp only
    rw [HCV.out, if_pos hlt]
   ·gi_wp2
    refine ⟨keepsFrom_below HB1.out, KpR.of_below HB1.out, some z, HI1.out, ?_⟩
    rw [HB.out]
    show stepS (some z.l) y.l = some z.l
    unfold stepS
    simp only
    rw [HCV.out, if_neg (by omega)]
 case done =>
  rintro D ys Wr hD hys ⟨b, hI, hB⟩ hK
  have f0 := hI.fnd.cell 0
  have x0 := hI.best.cell 0
  have hmk : Marks w.heap.size Wr [{ target := .collected D, args := #[] }] := ⟨⟨D, by omega, rfl, hK, by simp⟩, trivial⟩
  have HMK := lh hmk
  have HBEL := lh hI.bel
  have HAT := lh hI.at_
  have HSF := lh hI.safe
  have HBB := lh hB
  clear hI hK hmk hB
  obtain ⟨bv, hbv⟩ : ∃ bv, b.getD zeroWy = bv := ⟨_, rfl⟩
  rw [hbv] at x0
  have HBV := lh hbv
  clear hbv
  gi_wp2
  gi_region
  all_goals
   gi_wp2
   refine leaves_marks _ _ (Marks.drew HMK.out) ?_
   intro w' hs
   refine ⟨.tuple #[bv.val, .bool b.isSome], ?_, ⟨ys, hys, (below_drewN HBEL.out 1).trans hs.below, b, HBB.out, by rw [HBV.out], fun x hx => ?_⟩⟩
   ·simp [results, Try.results66, go_sem]
   ·have h1 := HAT.out x hx
    exact ⟨⟨shut_ints (Reads.drewN h1.1 1) hs, h1.2⟩, fun a ha => by have := HSF.out x hx a ha; omega⟩
end
section
open Go.RowKit
def SeqAtN {α : Type} (F : Fence) (n : Nat) (P : Program) (g : Nat) (lb : Array Value) (encs : α → Array Value) (At : α → World → Prop) (Kp : World → World → Prop) (S : List α → Prop) (N : Nat) (w : World) : Prop :=
 ∀ (l : Nat) (J : List α → World → Prop) (W : World), Below w.heap.size w W → (∀ s A B, J s A → Below A.heap.size A B → J s B) →
  (∀ pre x W1, J pre W1 → pre.length < N → At x W1 → YieldAt F (n - 1) P l (encs x) W1 fun e W' => e = .returned (.bool true) ∧ J (pre ++ [x]) W' ∧ Kp W1 W') →
  J [] W → CallsIn F n P g (#[.func (.yield l) #[] #[]] ++ lb) W fun e W' => (∃ v, e = .returned v) ∧ ∃ xs, S xs ∧ J xs W'
theorem wpIn_rangeAtN {α : Type} {F : Fence} {n : Nat} {P : Program} {g : Operand} {ps : Array Tmp} {assign body : Code} {Q : Exit → Act → World → Prop} {a : Act} {w : World}
  (hro : F.round = none) (h1 : 1 ≤ n) {gf : Nat} {lb : Array Value} (hg : a.eval g = .func (.func gf) #[] lb) (hFg : F.fn gf) (eg : ∀ args w, (callFunc gf args).run P w = .ok (.enter gf args) w)
  {encs : α → Array Value} {At : α → World → Prop} {Kp : World → World → Prop} {S : List α → Prop} {N : Nat} (hseq : SeqAtN F (n - 1) P gf lb encs At Kp S N w)
  (hKt : ∀ {A B C : World}, Kp A B → Kp B C → Kp A C) (hKb : ∀ (W : World) (l : Nat) (o o' : Obj), w.heap.size ≤ l → W.heap[l]? = some o → o.isCells = false → o.isWalk = false → Kp W (W.putObj l o')) (hps : ∀ x, (encs x).size = ps.size)
  (I : List α → World → Prop) (hI : OwnFrom w.heap.size I) (hIB : ∀ s A B, I s A → Below A.heap.size A B → I s B) (h0 : I [] w) (Ax : α → Act → World → Prop) (hAx : ∀ x a', OwnFrom w.heap.size (fun (_ : Unit) W => Ax x a' W))
  (hassign : ∀ (l : Nat) (pre : List α) (x : α) (W : World) (K : Act → World → Prop), I pre W → At x W → (∀ a' W', KeepsFrom w.heap.size W W' → Kp W W' → I pre W' → Ax x a' W' → K a' W') →
   assign.wpIn (F.inRound l) (n - 1 - 1) P (Exit.then K (fun _ _ _ => False)) { tmps := (ps.zip (encs x)).foldl (fun t (p, v) => t.setIfInBounds p v) a.tmps, defers := [] } W)
  (hbody : ∀ (l : Nat) (pre : List α) (x : α) (a' : Act) (W : World), I pre W → pre.length < N → Ax x a' W → body.wpIn (F.inRound l) (n - 1 - 1) P (fun e _ W3 => e = .normal ∧ KeepsFrom w.heap.size W W3 ∧ Kp W W3 ∧ I (pre ++ [x]) W3) a' W)
  (hdone : ∀ (D : Nat) (xs : List α) (W : World), w.heap.size ≤ D → S xs → I xs W → W.heap[D]? = some (.deferred (some [])) → Q .normal { a with defers := { target := .collected D, args := #[] } :: a.defers } W) :
  (Code.rangeFunc g ps assign body).wpIn F n P Q a w := by
 refine wpIn_rangeFunc fun fn hfn => ?_
 rw [hro]
 obtain ⟨rec, hrec⟩ : ∃ rec : LoopState → Loop, rec = fun st => { state := st, pending := none, fn, tmps := a.tmps, params := ps, assign, body, defers := w.heap.size } := ⟨_, rfl⟩
 have e1 : ((w.alloc (.deferred (some []))).alloc (.loop (rec .ready))).heap[w.heap.size + 1]? = some (.loop (rec .ready)) := by
  have h := World.alloc_heap_new (w.alloc (.deferred (some []))) (.loop (rec .ready))
  rwa [World.size_alloc] at h
 have e0 : ((w.alloc (.deferred (some []))).alloc (.loop (rec .ready))).heap[w.heap.size]? = some (.deferred (some [])) :=
  (Below.heap_alloc _ _ _ (by simp)).trans (World.alloc_heap_new w _)
 have i1 := hI.alloc (.loop (rec .ready)) (hI.alloc (.deferred (some [])) h0)
 have b1 : Below w.heap.size w ((w.alloc (.deferred (some []))).alloc (.loop (rec .ready))) := ((Below.refl _ w).alloc (Nat.le_refl _) _).alloc (by simp) _
 have z1 : ((w.alloc (.deferred (some []))).alloc (.loop (rec .ready))).heap.size = w.heap.size + 1 + 1 := by simp
 have en : (Instr.enterLoop fn a.tmps ps assign body none).run P w = .ok (w.heap.size + 1, [{ target := .collected w.heap.size, args := #[] }]) ((w.alloc (.deferred (some []))).alloc (.loop (rec .ready))) := by
  rw [hrec]
  exact run_enterLoop_outer _ _ _ _ _
 generalize (w.alloc (.deferred (some []))).alloc (.loop (rec .ready)) = W0 at *
 refine ⟨w.heap.size + 1, [{ target := .collected w.heap.size, args := #[] }], W0, { target := .fn (.func gf) lb, args := #[.func (.yield (w.heap.size + 1)) #[] #[]] }, W0, gf,
  #[.func (.yield (w.heap.size + 1)) #[] #[]] ++ lb, W0, en, ?_, ?_, ?_, fun _ => h1, ?_⟩
 ·simp only [resolve, hg]
  simp [go_sem]
 ·intro f hf
  simp [Target.leads] at hf
  subst hf
  exact hFg
 ·simp [invoke, go_sem, eg]
 ·refine (hseq (w.heap.size + 1) (fun pre W => I pre W ∧ W.heap[w.heap.size + 1]? = some (.loop (rec .ready)) ∧ W.heap[w.heap.size]? = some (.deferred (some []))) W0 b1
   (fun s A B hs hb => ⟨hIB s A B hs.1 hb, (hb.block _ (Array.getElem?_eq_some_iff.1 hs.2.1).1).trans hs.2.1, (hb.block _ (Array.getElem?_eq_some_iff.1 hs.2.2).1).trans hs.2.2⟩)
   ?_ ⟨i1, e1, e0⟩).mono ?_
  ·rintro pre x W ⟨hi, hl, hk⟩ hpn hat
   have hy := run_yield (P := P) (args := encs x) hl (by rw [hrec]; exact hps x)
   rw [hrec] at hy
   refine ⟨fn, _, assign, body, hy, roundIn_of_wpIn hfn (hassign _ pre x W _ hi hat fun a' V kf kp hiV hax => ?_)⟩
   have lV := kf.same _ _ (Nat.le_succ _) hl rfl
   have kV := kf.same _ _ (Nat.le_refl _) hk rfl
   have ltV := (Array.getElem?_eq_some_iff.1 lV).1
   refine ⟨_, run_beginRound lV (by rw [hrec]), ?_⟩
   have lU : (V.putObj (w.heap.size + 1) (.loop { rec .ready with state := .busy })).heap[w.heap.size + 1]? = some (.loop { rec .ready with state := .busy }) := World.putObj_heap_same ltV
   have kU : (V.putObj (w.heap.size + 1) (.loop { rec .ready with state := .busy })).heap[w.heap.size]? = some (.deferred (some [])) := (World.putObj_heap_other (by omega)).trans kV
   refine wpIn_mono (hbody _ pre x a' _ (hI.putObj _ hiV (Nat.le_succ _) lV rfl) hpn ((hAx x a').putObj (s := ()) _ hax (Nat.le_succ _) lV rfl)) ?_
   rintro e a3 W3 ⟨rfl, kf3, kp3, hi3⟩
   have l3 := kf3.same _ _ (Nat.le_succ _) lU rfl
   have k3 := kf3.same _ _ (Nat.le_refl _) kU rfl
   have er := run_endRound (P := P) none l3
   refine ⟨_, _, er, rfl, ⟨hI.putObj _ hi3 (Nat.le_succ _) l3 rfl, ?_, (World.putObj_heap_other (by omega)).trans k3⟩, hKt kp (hKt (hKt (hKb _ _ _ _ (Nat.le_succ _) lV rfl rfl) kp3) (hKb _ _ _ _ (Nat.le_succ _) l3 rfl rfl))⟩
   rw [World.putObj_heap_same (Array.getElem?_eq_some_iff.1 l3).1, hrec]
   rfl
  ·rintro e W2 ⟨⟨v, rfl⟩, xs, hS, hi, hl, hk⟩
   have el := run_endLoop (P := P) hl (by rw [hrec]; simp)
   rw [hrec] at el
   exact ⟨none, _, el, hdone _ xs _ (Nat.le_refl _) hS (hI.putObj _ hi (Nat.le_succ _) hl rfl) ((World.putObj_heap_other (by omega)).trans hk)⟩
theorem SeqAtN.plain {α : Type} {F : Fence} {n : Nat} {P : Program} {g : Nat} {lb : Array Value} {encs : α → Array Value} {At : α → World → Prop} {Kp : World → World → Prop} {S : List α → Prop} {N : Nat} {w : World} (h : SeqAtN F n P g lb encs At Kp S N w) : SeqAt F n P g lb encs At Kp S w :=
 fun l J W hW hJ hY h0 => h l J W hW hJ (fun pre x W1 h1 _ h2 => hY pre x W1 h1 h2) h0
end
end Go.Proofs.Ythofngceiecniaa
