/- Part 12 of the texts of this claim, joined. -/
import Derived.Test.YthofngceiecniaaMxW11
set_option linter.unusedVariables false
/- slices.Collect over ways: all of them, in order. -/
namespace Go.Proofs.Ythofngceiecniaa
section
open Go.RowKit Go.Shelf
attribute [local go_sem] Oper.semAt_some
theorem info_roww : (Try.prog.info? 57).map (fun i => (i.zero, i.size, i.bytes)) = some (some (.slice none 0 0), 1, 24) := by kernel_rfl
theorem elem_roww : ElemAt Try.prog 143 57 (.slice none 0 0) 1 24 := by
 obtain ⟨i, hi, h0, h1, h2⟩ := info_parts info_roww
 exact ⟨i, Try.underlying143, hi, h0, h1, h2, rfl, by decide⟩
theorem one_val {W : World} {g : Nat} {x : Value} {B : Nat} (hB : g < B) (h : W.cell? ⟨g, 0, none⟩ = some x) : Reads W B 1 (some ⟨g, 0, none⟩) 1 [x] :=
 ⟨rfl, fun _ => ⟨_, rfl, hB, fun j u hu => by
  match j, hu with
  | 0, hu => simp at hu; rw [← hu]; simpa [Addr.add] using h⟩⟩
theorem own_setCellW {w : World} {base n cap size : Nat} {e : TypeId} {A : Option Addr} {xs : List Value} (h : Own w base e size A n cap xs) {p : Addr} (hp : p.block < base) (u : Value) : Own (w.setCell p u) base e size A n cap xs := by
 refine ⟨h.1, ?_⟩
 rcases h.2 with h' | ⟨g, cap', cur, hv, hb, hg, hr⟩
 ·exact .inl h'
 ·exact .inr ⟨g, cap', cur, hv, hb, (Below.heap_setCell w p u g (by omega)).trans hg, hr⟩
theorem own_typ {w : World} {base n cap size : Nat} {e : TypeId} {A : Option Addr} {xs : List Value} (h : Own w base e size A n cap xs) : ∀ r, A.map (·.block) = some r → base ≤ r ∧ ∃ cs, Blk w r e cs := by
 intro r hr
 rcases h.form with ⟨rfl, _⟩ | ⟨g, cur, rfl, h2, hb, _⟩
 ·cases hr
 ·cases hr; exact ⟨h2, _, hb⟩
theorem KpR.of_row {n0 n1 : Nat} {A C : World} {row : Option Nat} (h : A.grownBy C row) (hr : ∀ r, row = some r → n0 ≤ r ∧ ∃ cs, Blk A r 57 cs) : KpR n0 n1 A C :=
 ⟨h.size, fun k o hk ho _ => (h.block k (Array.getElem?_eq_some_iff.1 ho).1 (fun e => by
  obtain ⟨h1, cs, hb⟩ := hr k e.symm
  rcases hk with hk | ⟨_, hk⟩
  ·omega
  ·unfold Blk at hb
   rw [hb] at ho
   cases ho
   exact hk.1 rfl)).trans ho⟩
theorem keepsFrom_row {B : Nat} {W W' : World} {row : Option Nat} (hg : W.grownBy W' row) (hr : ∀ r, row = some r → ∃ t cs, Blk W r t cs) : KeepsFrom B W W' :=
 ⟨hg.size, fun k o _ hk hc => (hg.block k (Array.getElem?_eq_some_iff.1 hk).1 (fun e => by
  obtain ⟨t, cs, hb⟩ := hr k e.symm
  unfold Blk at hb
  rw [hb] at hk
  cases hk
  cases hc)).trans hk⟩
theorem own_shut {B : Nat} {W W' : World} {base n cap size : Nat} {e : TypeId} {A : Option Addr} {xs : List Value} (h2 : Own W base e size A n cap xs) (hs : Shut B W W') : Own W' base e size A n cap xs := by
 refine ⟨h2.1, ?_⟩
 rcases h2.2 with h' | ⟨g, cap', cur, hv, hb, hg, hr⟩
 ·exact .inl h'
 ·exact .inr ⟨g, cap', cur, hv, hb, hs.cells _ _ _ _ hg, hr⟩
def Wy.own (n1 : Nat) (x : Wy) (W : World) : Prop := x.at_ W ∧ Safe n1 W x.A
theorem Wy.own.below {n1 : Nat} {x : Wy} {W W' : World} (h : x.own n1 W) (hb : Below W.heap.size W W') : x.own n1 W' := ⟨h.1.below hb, h.2.kp (n0 := 0) (KpR.of_below hb)⟩
theorem Wy.own.kp {n0 n1 : Nat} {x : Wy} {W W' : World} (h : x.own n1 W) (hk : KpR n0 n1 W W') : x.own n1 W' := ⟨⟨h.1.1.safe h.2 hk, h.1.2⟩, h.2.kp hk⟩
theorem Wy.own.shut {n1 B : Nat} {x : Wy} {W W' : World} (h : x.own n1 W) (hs : Shut B W W') : x.own n1 W' :=
 ⟨⟨shut_ints h.1.1 hs, h.1.2⟩, fun a ha => ⟨(h.2 a ha).1, by obtain ⟨cs, hb⟩ := (h.2 a ha).2; exact ⟨cs, hs.blk hb⟩⟩⟩
structure CoSt (w : World) (N : Nat) (pre : List Wy) (S : Nat) (B : Option Addr) (q : Nat) (Wr : World) : Prop where
 blk : Blk Wr w.heap.size 143 #[.slice B pre.length q]
 own : Own Wr (w.heap.size + 1) 57 1 B pre.length q (pre.map Wy.val)
 bel : Below w.heap.size w Wr
 sz : S ≤ Wr.heap.size
 len : pre.length ≤ N
 all : ∀ x ∈ pre, x.own S Wr
inductive FrCo (v0 v1 v2 v5 : Value) : Act → Prop
 | mk (u3 u4 u6 u7 u8 u9 u10 u11 u12 : Value) : FrCo v0 v1 v2 v5 { tmps := #[v0, v1, v2, u3, u4, v5, u6, u7, u8, u9, u10, u11, u12], defers := [] }
def CollectOut (w : World) (S : List Wy → Prop) (N : Nat) (e : Ending) (w' : World) : Prop :=
 ∃ xs B q, S xs ∧ xs.length ≤ N ∧ e = .returned (.slice B xs.length q) ∧ Own w' (w.heap.size + 1) 57 1 B xs.length q (xs.map Wy.val) ∧ (∀ x ∈ xs, x.own (w.heap.size + 1) w') ∧ Below w.heap.size w w'
set_option maxRecDepth 100000 in
set_option maxHeartbeats 8000000 in
theorem appendSeqW_in (gf : Nat) (lb : Array Value) (S : List Wy → Prop) (N : Nat) (w : World) (hN : N ≤ 1000000) (eg : ∀ args w, (callFunc gf args).run Try.prog w = .ok (.enter gf args) w)
  (hseq : ∀ w0, Below w.heap.size w w0 → SeqAtN Fence.wide 8 Try.prog gf lb (fun x : Wy => #[x.val]) (AtW w.heap.size w0.heap.size) (KpR w.heap.size w0.heap.size) S N w0) :
  CallsIn Fence.wide 9 Try.prog 101 #[.slice none 0 0, .func (.func gf) #[] lb] w (CollectOut w S N) := by
 have HSQ := lh hseq
 have HEG := lh eg
 clear hseq eg
 refine callsIn_of_wp_marks Try.func101 rfl trivial ?_ rfl
 simp only [Try.ntmps101, List.size_toArray, List.length_cons, List.length_nil, Nat.reduceAdd, Nat.reduceSub, Array.replicate_succ, Array.replicate_zero, List.push_toArray, List.append_toArray, List.nil_append, List.cons_append]
 gi_wp2
 have B0 := Blk.new w 143 #[.slice none 0 0]
 have b0 : Below w.heap.size w (w.alloc (.cells #[.slice none 0 0] 143)) := (Below.refl _ _).alloc (Nat.le_refl _) _
 have z0 : (w.alloc (.cells #[.slice none 0 0] 143)).heap.size = w.heap.size + 1 := by simp
 generalize (w.alloc (.cells #[.slice none 0 0] 143)) = w0 at *
 have hsq := HSQ.out w0 b0
 have Z0 := lh z0
 have hz0 : w.heap.size + 1 ≤ w0.heap.size := by omega
 clear z0
 refine wpIn_rangeAtN rfl (by omega) (gf := gf) (lb := lb) rfl trivial HEG.out hsq (fun h k => KpR.trans h k) (fun W l o o' _ h h1 h2 => KpR.put W l o o' h h1 h2) (fun _ => rfl)
  (fun pre Wr => ∃ B q, CoSt w N pre w0.heap.size B q Wr)
  (ownFrom_shut (fun s Wr h => by obtain ⟨B, q, h⟩ := h; exact h.sz) (fun s Wr Wr' h hs => by
   obtain ⟨B, q, h⟩ := h
   exact ⟨B, q, hs.blk h.blk, own_shut h.own hs, h.bel.trans (hs.below.mono b0.size), Nat.le_trans h.sz hs.below.size, h.len, fun x hx => (h.all x hx).shut hs⟩))
  (fun s A C h hb => by
   obtain ⟨B, q, h⟩ := h
   exact ⟨B, q, h.blk.below hb h.blk.lt, h.own.below hb (Nat.le_refl _), h.bel.trans (hb.mono h.bel.size), Nat.le_trans h.sz hb.size, h.len, fun x hx => (h.all x hx).below hb⟩)
  ⟨none, 0, B0, Own.none_ _ _ _ _, b0, Nat.le_refl _, Nat.zero_le _, fun x hx => by cases hx⟩
  (fun y a' Wr => w0.heap.size ≤ Wr.heap.size ∧ AtW w.heap.size w0.heap.size y Wr ∧ FrCo (.slice none 0 0) (.func (.func gf) #[] lb) (.pointer (some ⟨w.heap.size, 0, none⟩)) y.val a')
  (fun y a' => ownFrom_shut (fun _ Wr h => h.1) (fun _ Wr Wr' h hs => by obtain ⟨h1, h3, h4⟩ := h; exact ⟨Nat.le_trans h1 hs.below.size, ⟨shut_ints h3.1 hs, fun a ha => ⟨(h3.2.1 a ha).1, by obtain ⟨cs, hb⟩ := (h3.2.1 a ha).2; exact ⟨cs, hs.blk hb⟩⟩, h3.2.2⟩, h4⟩)) ?assign ?body ?done
 case assign =>
  rintro l' pre y Wr K hI hat hK
  gi_wp2
  exact hK _ _ (KeepsFrom.refl _ _) (KpR.of_below (Below.refl _ _)) hI ⟨by obtain ⟨B, q, h⟩ := hI; exact h.sz, hat, by constructor⟩
 case body =>
  rintro l' pre y a' W ⟨B, q, hI⟩ hpn ⟨hsz, hat, ha'⟩
  cases ha'
  obtain ⟨yl, yA, yn, yc⟩ := y
  have c0 := hI.blk.cell 0
  have c1 := hI.blk.frozen 0
  have hs1 := hI.blk.lt
  have HI := lh hI
  have HAT := lh hat
  have HLN := lh hpn
  have HOW := lh (hI.own.alloc (.cells #[.slice yA yn yc] 57))
  have HOB : Hid (Blk (W.alloc (.cells #[.slice yA yn yc] 57)) W.heap.size 57 #[.slice yA yn yc]) := lh (Blk.new _ _ _)
  clear hI hat hpn
  dsimp only [Wy.val] at *
  gi_wp2_with (first | (gi_at_builtin; refine wpListIn_append_any rfl (.tmp 8) (.tmp 10) (by rfl) elem_roww rfl HOW.out rfl (one_val (x := .slice yA yn yc) HOB.out.lt (HOB.out.cell 0)) (fun u hu => by rw [List.mem_singleton.1 hu]; rfl) (by have := HLN.out; unfold maxLen; omega) (by have := HLN.out; omega) (by simp; omega) ?_) | fail)
  rintro A8 c8 W8 hown hgr hA8
  have hal : Below W.heap.size W (W.alloc (.cells #[.slice yA yn yc] 57)) := (Below.refl _ _).alloc (Nat.le_refl _) _
  have hne : some w.heap.size ≠ B.map (·.block) := by
   intro e
   have h5 := (own_typ HOW.out _ e.symm).1
   omega
  have HB8 := lh ((HI.out.blk.alloc (.cells #[.slice yA yn yc] 57)).grown hgr hne)
  have HO8 := lh hown
  have HK8 := lh (show KeepsFrom w0.heap.size W W8 from (keepsFrom_below hal).trans (keepsFrom_row hgr (fun r e => by obtain ⟨_, cs, hb⟩ := own_typ HOW.out r e; exact ⟨_, cs, hb⟩)))
  have HL8 := lh (show Below w.heap.size W W8 from (hal.mono (by omega)).grown hgr (by simp; omega) (fun j hj => by have := (own_typ HOW.out j hj).1; omega))
  have HR8 := lh (show KpR w.heap.size w0.heap.size W W8 from (KpR.of_below hal).trans (KpR.of_row hgr (fun r e => ⟨by have := (own_typ HOW.out r e).1; omega, (own_typ HOW.out r e).2⟩)))
  have d0 := HB8.out.cell 0
  have d1 := HB8.out.frozen 0
  clear hown hgr hA8 hal hne
  gi_wp2
  have hk9 := HK8.out.trans (keepsFrom_setCell w0.heap.size W8 ⟨w.heap.size, 0, none⟩ (.slice A8 (pre.length + 1) c8))
  have hb9 : Below w.heap.size W (W8.setCell ⟨w.heap.size, 0, none⟩ (.slice A8 (pre.length + 1) c8)) := HL8.out.setCell (p := ⟨w.heap.size, 0, none⟩) (Nat.le_refl _) _
  have hr9 : KpR w.heap.size w0.heap.size W (W8.setCell ⟨w.heap.size, 0, none⟩ (.slice A8 (pre.length + 1) c8)) := HR8.out.trans (KpR.setCell _ _ _ (Nat.le_refl _) (by simp; omega))
  refine ⟨hk9, hr9, A8, c8, ?_, ?_, HI.out.bel.trans hb9, by have := hk9.size; omega, by have := HLN.out; simp; omega, ?_⟩
  ·have := HB8.out.set_ 0 (.slice A8 (pre.length + 1) c8)
   simpa using this
  ·rw [List.length_append, List.map_append]
   exact own_setCellW HO8.out (Nat.lt_succ_self _) _
  ·intro x hx
   rcases List.mem_append.1 hx with hx | hx
   ·exact (HI.out.all x hx).kp hr9
   ·rw [List.mem_singleton.1 hx]
    exact Wy.own.kp ⟨⟨HAT.out.1, HAT.out.2.2⟩, HAT.out.2.1⟩ hr9
 case done =>
  rintro D ys Wr hD hys ⟨B, q, hI⟩ hK
  have c0 := hI.blk.cell 0
  have hs1 := hI.blk.lt
  have hmk : Marks w.heap.size Wr [{ target := .collected D, args := #[] }] := ⟨⟨D, by omega, rfl, hK, by simp⟩, trivial⟩
  have HI := lh hI
  clear hI hK
  gi_wp2
  refine leaves_marks _ _ hmk ?_
  intro w' hs
  refine ⟨.slice B ys.length q, by simp [results, Try.results101, go_sem], ys, B, q, hys, HI.out.len, rfl, own_shut HI.out.own hs, fun x hx => ?_, HI.out.bel.trans hs.below⟩
  have h9 := (HI.out.all x hx).shut hs
  rw [Z0.out] at h9
  exact h9
theorem collectW_in (gf : Nat) (lb : Array Value) (S : List Wy → Prop) (N : Nat) (w : World) (hN : N ≤ 1000000) (eg : ∀ args w, (callFunc gf args).run Try.prog w = .ok (.enter gf args) w)
  (hseq : ∀ w0, Below w.heap.size w w0 → SeqAtN Fence.wide 8 Try.prog gf lb (fun x : Wy => #[x.val]) (AtW w.heap.size w0.heap.size) (KpR w.heap.size w0.heap.size) S N w0) :
  Calls Try.prog 71 #[.func (.func gf) #[] lb] w (CollectOut w S N) := by
 have h := callsIn_wide.1 (appendSeqW_in gf lb S N w hN eg hseq)
 go_enter Try.func71, Try.ntmps71
 go_wp2_with (go_at_call 101; refine h.mono ?_; rintro e w' ⟨xs, B, q, hS, hl, rfl, hO, ha, hb⟩)
 go_ret
 exact ⟨xs, B, q, hS, hl, rfl, hO, ha, hb⟩
end
section
open Go.RowKit Go.Shelf
structure Vw where
 A : Option Addr
 c : Nat
 xs : List Wy
@[reducible] def Vw.val (v : Vw) : Value := .slice v.A v.xs.length v.c
def vcells (F : Nat → Vw) : Array Value := #[(F 0).val, (F 1).val, (F 2).val, (F 3).val]
def updV (F : Nat → Vw) (q : Nat) (v : Vw) : Nat → Vw := fun i => if i = q then v else F i
theorem vcells_get (F : Nat → Vw) {q : Nat} (hq : q < 4) : (vcells F)[q]? = some (F q).val := by
 match q, hq with
 | 0, _ => rfl
 | 1, _ => rfl
 | 2, _ => rfl
 | 3, _ => rfl
theorem vcells_set (F : Nat → Vw) {q : Nat} (hq : q < 4) (v : Vw) : (vcells F).setIfInBounds q v.val = vcells (updV F q v) := by
 match q, hq with
 | 0, _ => rfl
 | 1, _ => rfl
 | 2, _ => rfl
 | 3, _ => rfl
theorem updV_self {F : Nat → Vw} {q : Nat} {v : Vw} : updV F q v q = v := if_pos rfl
theorem updV_other {F : Nat → Vw} {q i : Nat} {v : Vw} (h : i ≠ q) : updV F q v i = F i := if_neg h
structure VwOk (b : Nat) (W : World) (v : Vw) : Prop where
 own : Own W b 57 1 v.A v.xs.length v.c (v.xs.map Wy.val)
 all : ∀ x ∈ v.xs, x.own b W
def Vw.blk (v : Vw) : Option Nat := v.A.map (·.block)
theorem VwOk.none_ {b : Nat} {W : World} : VwOk b W ⟨none, 0, []⟩ := ⟨Own.none_ _ _ _ _, fun x hx => by cases hx⟩
theorem VwOk.below {b : Nat} {W W' : World} {v : Vw} (h : VwOk b W v) (hb : Below W.heap.size W W') : VwOk b W' v := ⟨h.own.below hb (Nat.le_refl _), fun x hx => (h.all x hx).below hb⟩
theorem VwOk.le {b r : Nat} {W : World} {v : Vw} (h : VwOk b W v) (hr : v.blk = some r) : b ≤ r ∧ r < W.heap.size := by
 obtain ⟨h1, cs, hb⟩ := own_typ h.own r hr
 exact ⟨h1, hb.lt⟩
structure Kp3 (g : Nat) (W W' : World) : Prop where
 bel : Below g W W'
 kp : KpR g (g + 1) W W'
theorem Kp3.refl {g : Nat} {W : World} : Kp3 g W W := ⟨Below.refl _ _, KpR.of_below (Below.refl _ _)⟩
theorem Kp3.trans {g : Nat} {A B C : World} (h : Kp3 g A B) (k : Kp3 g B C) : Kp3 g A C := ⟨h.bel.trans k.bel, h.kp.trans k.kp⟩
theorem Kp3.of_below {g : Nat} {A B : World} (h : Below A.heap.size A B) (hb : g ≤ A.heap.size) : Kp3 g A B := ⟨h.mono hb, KpR.of_below h⟩
theorem Kp3.setCell {g : Nat} (W : World) (q : Nat) (v : Value) : Kp3 g W (W.setCell ⟨g, q, none⟩ v) := ⟨(Below.refl _ _).setCell (p := ⟨g, q, none⟩) (Nat.le_refl _) _, KpR.setCell _ _ _ (Nat.le_refl _) (Nat.lt_succ_self _)⟩
theorem Kp3.row {g : Nat} {W W' : World} {v : Vw} (h : VwOk (g + 1) W v) (hg : W.grownBy W' v.blk) (hs : g < W.heap.size) : Kp3 g W W' :=
 ⟨(Below.refl g W).grown hg (Nat.le_of_lt hs) (fun r e => by have := (h.le e).1; omega), KpR.of_row hg (fun r e => by obtain ⟨h1, h2⟩ := own_typ h.own r e; exact ⟨by omega, h2⟩)⟩
structure WR (g : Nat) (W : World) (F : Nat → Vw) : Prop where
 blk : Blk W g 171 (vcells F)
 ok : ∀ i, i < 4 → VwOk (g + 1) W (F i)
 apart : ∀ i, i < 4 → ∀ j, j < 4 → i ≠ j → ∀ r, (F i).blk = some r → (F j).blk ≠ some r
section
variable {g q : Nat} {W W' : World} {F : Nat → Vw} {C : Vw}
theorem WR.below (h : WR g W F) (hb : Below W.heap.size W W') : WR g W' F := ⟨h.blk.below hb h.blk.lt, fun i hi => (h.ok i hi).below hb, h.apart⟩
theorem WR.cell (h : WR g W F) (hq : q < 4) : W.cell? ⟨g, q, none⟩ = some (F q).val := by
 rw [h.blk.cell q, vcells_get F hq]
theorem VwOk.other {v : Vw} (h : VwOk (g + 1) W v) (hC : VwOk (g + 1) W C) (hg : W.grownBy W' C.blk) (hne : ∀ r, C.blk = some r → v.blk ≠ some r) (hs : g < W.heap.size) : VwOk (g + 1) W' v :=
 ⟨h.own.grown hg (fun a ha e => hne a.block e.symm (by unfold Vw.blk; rw [ha]; rfl)), fun x hx => (h.all x hx).kp (Kp3.row hC hg hs).kp⟩
theorem WR.other (h : WR g W F) (hC : VwOk (g + 1) W C) (hg : W.grownBy W' C.blk) (hap : ∀ i, i < 4 → ∀ r, C.blk = some r → (F i).blk ≠ some r) : WR g W' F :=
 ⟨h.blk.grown hg (fun e => by have := (hC.le e.symm).1; omega), fun i hi => (h.ok i hi).other hC hg (hap i hi) h.blk.lt, h.apart⟩
theorem VwOk.app {v : Vw} {A' : Option Addr} {n c' : Nat} {ys : List Wy} (h : VwOk (g + 1) W v) (hys : ∀ y ∈ ys, y.own (g + 1) W) (hn : ys.length = n)
  (hown : Own W' (g + 1) 57 1 A' (v.xs.length + n) c' (v.xs.map Wy.val ++ ys.map Wy.val)) (hg : W.grownBy W' v.blk) (hs : g < W.heap.size) : VwOk (g + 1) W' ⟨A', c', v.xs ++ ys⟩ := by
 refine ⟨?_, fun x hx => ?_⟩
 ·dsimp only
  rw [List.length_append, List.map_append, hn]
  exact hown
 ·rcases List.mem_append.1 hx with hx | hx
  ·exact (h.all x hx).kp (Kp3.row h hg hs).kp
  ·exact (hys x hx).kp (Kp3.row h hg hs).kp
theorem app_blk {v : Vw} {A' : Option Addr} {c' : Nat} {xs : List Wy} (hA : A' = v.A ∨ A' = some ⟨W.heap.size, 0, none⟩) : ∀ r, (⟨A', c', xs⟩ : Vw).blk = some r → v.blk = some r ∨ r = W.heap.size := by
 intro r hr
 rcases hA with rfl | rfl
 ·exact .inl hr
 ·exact .inr (Option.some.inj hr).symm
theorem VwOk.setCell {v : Vw} (h : VwOk (g + 1) W v) (u : Value) : VwOk (g + 1) (W.setCell ⟨g, q, none⟩ u) v := ⟨own_setCellW h.own (Nat.lt_succ_self _) u, fun x hx => (h.all x hx).kp (Kp3.setCell W q u).kp⟩
theorem WR.set {v : Vw} (hq : q < 4) (hb : Blk W g 171 (vcells F)) (hok : ∀ i, i < 4 → i ≠ q → VwOk (g + 1) W (F i)) (hv : VwOk (g + 1) W v) (hap : ∀ i, i < 4 → ∀ j, j < 4 → i ≠ j → ∀ r, (F i).blk = some r → (F j).blk ≠ some r)
  (hvp : ∀ i, i < 4 → i ≠ q → ∀ r, v.blk = some r → (F i).blk ≠ some r) : WR g (W.setCell ⟨g, q, none⟩ v.val) (updV F q v) := by
 refine ⟨?_, fun i hi => ?_, fun i hi j hj hij r h1 h2 => ?_⟩
 ·have := hb.set_ q v.val
  rwa [vcells_set F hq v] at this
 ·by_cases e : i = q
  ·subst e
   rw [updV_self]
   exact hv.setCell _
  ·rw [updV_other e]
   exact (hok i hi e).setCell _
 ·by_cases e1 : i = q
  ·subst e1
   rw [updV_self] at h1
   rw [updV_other (Ne.symm hij)] at h2
   exact hvp j hj (Ne.symm hij) r h1 h2
  ·rw [updV_other e1] at h1
   by_cases e2 : j = q
   ·subst e2
    rw [updV_self] at h2
    exact hvp i hi e1 r h2 h1
   ·rw [updV_other e2] at h2
    exact hap i hi j hj hij r h1 h2
theorem WR.clear (h : WR g W F) (hq : q < 4) : WR g (W.setCell ⟨g, q, none⟩ (.slice none 0 0)) (updV F q ⟨none, 0, []⟩) :=
 WR.set (v := ⟨none, 0, []⟩) hq h.blk (fun i hi _ => h.ok i hi) VwOk.none_ h.apart (fun i hi _ r hr => by cases hr)
theorem WR.put {A' : Option Addr} {n c' : Nat} {ys : List Wy} (h : WR g W F) (hq : q < 4) (hys : ∀ y ∈ ys, y.own (g + 1) W) (hn : ys.length = n)
  (hown : Own W' (g + 1) 57 1 A' ((F q).xs.length + n) c' ((F q).xs.map Wy.val ++ ys.map Wy.val)) (hg : W.grownBy W' (F q).blk) (hA : A' = (F q).A ∨ A' = some ⟨W.heap.size, 0, none⟩) :
  WR g (W'.setCell ⟨g, q, none⟩ (.slice A' ((F q).xs.length + n) c')) (updV F q ⟨A', c', (F q).xs ++ ys⟩) := by
 have h1 := (h.ok q hq).app hys hn hown hg h.blk.lt
 have h2 := WR.set (W := W') (F := F) (v := ⟨A', c', (F q).xs ++ ys⟩) hq (h.blk.grown hg (fun e => by have := ((h.ok q hq).le e.symm).1; omega)) (fun i hi hne => (h.ok i hi).other (h.ok q hq) hg (fun r hr => h.apart q hq i hi (Ne.symm hne) r hr) h.blk.lt) h1 h.apart
  (fun i hi hne r hr hr2 => by
   rcases app_blk hA r hr with h3 | h3
   ·exact h.apart q hq i hi (Ne.symm hne) r h3 hr2
   ·have h4 := ((h.ok i hi).le hr2).2
    omega)
 unfold Vw.val at h2
 dsimp only at h2
 rw [List.length_append, hn] at h2
 exact h2
end
end
section
open Go.RowKit Go.Shelf
attribute [local go_sem] Oper.semAt_some
structure Er1 {α : Type} (P : α → Prop) : Prop where
 ex : ∃ a, P a
inductive FrRwA (v2 v3 v4 v5 v11 v13 v14 v15 : Value) : Act → Prop
 | mk (u0 u1 u6 u7 u8 u9 u10 u12 u16 u17 u18 u19 u20 u21 u22 u23 u24 u25 u26 u27 u28 u29 u30 u31 u32 u33 u34 u35 u36 u37 u38 u39 u40 u41 u42 u43 u44 u45 u46 u47 u48 u49 u50 u51 u52 u53 u54 u55 u56 u57 u58 u59 u60 u61 u62 u63 u64 u65 u66 u67 u68 u69 u70 u71 u72 u73 u74 u75 u76 u77 u78 u79 u80 u81 u82 u83 u84 u85 u86 u87 u88 u89 u90 u91 u92 u93 u94 u95 u96 u97 u98 u99 u100 u101 u102 u103 u104 u105 u106 u107 u108 u109 u110 u111 u112 u113 u114 u115 u116 u117 u118 u119 u120 u121 u122 u123 u124 u125 u126 u127 u128 u129 u130 : Value) : FrRwA v2 v3 v4 v5 v11 v13 v14 v15 { tmps := #[u0, u1, v2, v3, v4, v5, u6, u7, u8, u9, u10, v11, u12, v13, v14, v15, u16, u17, u18, u19, u20, u21, u22, u23, u24, u25, u26, u27, u28, u29, u30, u31, u32, u33, u34, u35, u36, u37, u38, u39, u40, u41, u42, u43, u44, u45, u46, u47, u48, u49, u50, u51, u52, u53, u54, u55, u56, u57, u58, u59, u60, u61, u62, u63, u64, u65, u66, u67, u68, u69, u70, u71, u72, u73, u74, u75, u76, u77, u78, u79, u80, u81, u82, u83, u84, u85, u86, u87, u88, u89, u90, u91, u92, u93, u94, u95, u96, u97, u98, u99, u100, u101, u102, u103, u104, u105, u106, u107, u108, u109, u110, u111, u112, u113, u114, u115, u116, u117, u118, u119, u120, u121, u122, u123, u124, u125, u126, u127, u128, u129, u130], defers := [] }
inductive FrRwB (v2 v3 v4 v5 v11 v13 v14 v15 v16 v17 v18 v20 v80 v81 v82 : Value) : Act → Prop
 | mk (u0 u1 u6 u7 u8 u9 u10 u12 u19 u21 u22 u23 u24 u25 u26 u27 u28 u29 u30 u31 u32 u33 u34 u35 u36 u37 u38 u39 u40 u41 u42 u43 u44 u45 u46 u47 u48 u49 u50 u51 u52 u53 u54 u55 u56 u57 u58 u59 u60 u61 u62 u63 u64 u65 u66 u67 u68 u69 u70 u71 u72 u73 u74 u75 u76 u77 u78 u79 u83 u84 u85 u86 u87 u88 u89 u90 u91 u92 u93 u94 u95 u96 u97 u98 u99 u100 u101 u102 u103 u104 u105 u106 u107 u108 u109 u110 u111 u112 u113 u114 u115 u116 u117 u118 u119 u120 u121 u122 u123 u124 u125 u126 u127 u128 u129 u130 : Value) : FrRwB v2 v3 v4 v5 v11 v13 v14 v15 v16 v17 v18 v20 v80 v81 v82 { tmps := #[u0, u1, v2, v3, v4, v5, u6, u7, u8, u9, u10, v11, u12, v13, v14, v15, v16, v17, v18, u19, v20, u21, u22, u23, u24, u25, u26, u27, u28, u29, u30, u31, u32, u33, u34, u35, u36, u37, u38, u39, u40, u41, u42, u43, u44, u45, u46, u47, u48, u49, u50, u51, u52, u53, u54, u55, u56, u57, u58, u59, u60, u61, u62, u63, u64, u65, u66, u67, u68, u69, u70, u71, u72, u73, u74, u75, u76, u77, u78, u79, v80, v81, v82, u83, u84, u85, u86, u87, u88, u89, u90, u91, u92, u93, u94, u95, u96, u97, u98, u99, u100, u101, u102, u103, u104, u105, u106, u107, u108, u109, u110, u111, u112, u113, u114, u115, u116, u117, u118, u119, u120, u121, u122, u123, u124, u125, u126, u127, u128, u129, u130], defers := [] }
theorem listR_at {m : Mix} {A : List Held} {f : Int} {t : Nat} {v : Int} {x : MAct} {all : Held} (hx : m.acts[t]? = some x) (ha : A[t]? = some all) :
  listR m A f (t + 1) v = (if x.kind ≠ 1 ∧ idxV m.vessels x.fr = v ∧ (x.kind = 4 ∨ x.drops = heldAt all (idxV m.vessels x.fr)) then [] else listR m A f t v) ++
   (if x.kind < 3 ∧ idxV m.vessels x.to = v then comeR x f t (listR m A f t (idxV m.vessels x.fr)) else []) := by
 rw [listR]
 rw [hx, ha]
theorem listR_pow {m : Mix} {A : List Held} {f : Int} : ∀ (t : Nat) (v : Int), (listR m A f t v).length ≤ 2 ^ t
 | 0, v => by simp [listR]
 | t + 1, v => by
  have h2 : 2 ^ (t + 1) = 2 ^ t + 2 ^ t := by rw [Nat.pow_succ]; omega
  have h3 : 1 ≤ 2 ^ t := Nat.one_le_two_pow
  rw [listR]
  split
  ·rename_i x all _ _
   rw [List.length_append]
   have h4 := listR_pow (m := m) (A := A) (f := f) t v
   have h5 := listR_pow (m := m) (A := A) (f := f) t (idxV m.vessels x.fr)
   have h6 : (comeR x f t (listR m A f t (idxV m.vessels x.fr))).length ≤ 2 ^ t := by
    unfold comeR
    split
    ·simpa using h3
    ·split
     ·rw [List.length_map]; exact h5
     ·simp
   split <;> split <;> (try simp only [List.length_nil]) <;> omega
  ·simp
theorem listR_small {m : Mix} {A : List Held} {f : Int} {t : Nat} {v : Int} (h : t ≤ 12) : (listR m A f t v).length ≤ 4096 :=
 Nat.le_trans (listR_pow t v) (Nat.pow_le_pow_right (by omega) h)
theorem listR_len {m : Mix} {A : List Held} {f : Int} : ∀ {t : Nat} {v : Int} (l : List Int), l ∈ listR m A f t v → l.length ≤ t
 | 0, v, l, h => by simp [listR] at h
 | t + 1, v, l, h => by
  rw [listR] at h
  split at h
  ·rename_i x all _ _
   rcases List.mem_append.1 h with h | h
   ·split at h
    ·cases h
    ·exact Nat.le_succ_of_le (listR_len l h)
   ·split at h
    ·unfold comeR at h
     split at h
     ·rw [List.mem_singleton.1 h]; simp
     ·split at h
      ·obtain ⟨y, hy, rfl⟩ := List.mem_map.1 h
       have := listR_len y hy
       simp
       omega
      ·cases h
    ·cases h
  ·cases h
theorem VwOk.mono {b b' : Nat} {W : World} {v : Vw} (h : VwOk b W v) (hb : b' ≤ b) : VwOk b' W v := ⟨h.own.mono hb, fun x hx => ⟨(h.all x hx).1, fun a ha => ⟨Nat.le_trans hb ((h.all x hx).2 a ha).1, ((h.all x hx).2 a ha).2⟩⟩⟩
theorem VwOk.app1 {b : Nat} {W W' : World} {v : Vw} {A' : Option Addr} {n c' : Nat} {ys : List Wy} (hb1 : 1 ≤ b) (h : VwOk b W v) (hys : ∀ y ∈ ys, y.own b W) (hn : ys.length = n)
  (hown : Own W' b 57 1 A' (v.xs.length + n) c' (v.xs.map Wy.val ++ ys.map Wy.val)) (hg : W.grownBy W' v.blk) (hs : b ≤ W.heap.size) : VwOk b W' ⟨A', c', v.xs ++ ys⟩ := by
 obtain ⟨g, rfl⟩ : ∃ g, b = g + 1 := ⟨b - 1, by omega⟩
 exact VwOk.app h hys hn hown hg (by omega)
theorem bits_all : ((List.range 12).all fun t => (bits BinOp.and IntKind.i64 ((4095 : Int) / 2 ^ t) 1 == 1)) = true := by kernel_rfl
theorem bit_on {t : Nat} (h : t < 12) : (bits BinOp.and IntKind.i64 ((4095 : Int) / 2 ^ t) 1 == 1) = true := List.all_eq_true.1 bits_all t (List.mem_range.2 h)
def RWaysOut (w : World) (m : Mix) (L : List Held) (q k : Nat) (f : Int) (e : Ending) (w' : World) : Prop :=
 ∃ (b : Nat) (B : Option Addr) (c : Nat) (xs : List Wy), e = .returned (.slice B xs.length c) ∧ xs.map Wy.l = listR m L f k q ∧ Own w' b 57 1 B xs.length c (xs.map Wy.val) ∧ (∀ x ∈ xs, x.own b w') ∧ w.heap.size ≤ b ∧ Below w.heap.size w w'
set_option maxRecDepth 100000 in
set_option maxHeartbeats 16000000 in
theorem rways_in (Av : Option Addr) (nv cv : Nat) (Aa : Option Addr) (na ca : Nat) (At : Option Addr) (nt ct : Nat) (m : Mix) (vessel fountain : Int) (q k : Nat) (L : List Held) (w : World) (h : MixS w Av nv Aa na At nt m) (hok : okMix m = true) (hL : allM m m.acts = some L) (hq : (q : Int) = idxV m.vessels vessel ∧ q < 4) (hk : k ≤ m.acts.length) :
  CallsIn Fence.wide 9 Try.prog 69 #[.agg #[.int .i64 m.fountains, .slice Av nv cv, .slice Aa na ca, .slice At nt ct], .int .i64 vessel, .int .i64 (k : Int), .int .i64 fountain, .int .i64 4095] w (RWaysOut w m L q k fountain) := by
 have HM := lh h
 have HOKM := lh hok
 obtain ⟨hv4, ha12, ht8, _⟩ := okMix_vess hok
 have HV4 := lh hv4
 have HA12 := lh ha12
 have HLA := lh h.at_.lenA
 have HLV := lh h.at_.lenV
 have HQ := lh hq
 have HK := lh hk
 have HLL := lh hL
 have HTOK : Hid (TbOk (⟨0, none, 0, 0, none, 0, 0, none, 0, 0, none, 0, 0, m, L⟩ : Tb)) := lh ⟨hok, hL⟩
 clear h hok hv4 ha12 ht8 hq hk hL
 refine callsIn_of_wp Try.func69 rfl trivial ?_ rfl
 simp only [Try.ntmps69, List.size_toArray, List.length_cons, List.length_nil, Nat.reduceAdd, Nat.reduceSub, Array.replicate_succ, Array.replicate_zero, List.push_toArray, List.append_toArray, List.nil_append, List.cons_append]
 gi_upto_region 1 with fail
 have HB0 := lh (Blk.new w 26 #[.int .i64 m.fountains, .slice Av nv cv, .slice Aa na ca, .slice At nt ct])
 have hb0 : Below w.heap.size w (w.alloc (.cells #[.int .i64 m.fountains, .slice Av nv cv, .slice Aa na ca, .slice At nt ct] 26)) := (Below.refl _ _).alloc (Nat.le_refl _) _
 have HBE := lh hb0
 clear hb0
 generalize (w.alloc (.cells #[.int .i64 m.fountains, .slice Av nv cv, .slice Aa na ca, .slice At nt ct] 26)) = W1 at *
 obtain ⟨gm, hgm⟩ : ∃ g, w.heap.size = g := ⟨_, rfl⟩
 rw [hgm] at HB0 ⊢
 have HGM : Hid (w.heap.size ≤ gm) := lh (by omega)
 clear hgm
 have x0 := HB0.out.cell 0
 have x1 := HB0.out.cell 1
 have x2 := HB0.out.cell 2
 have x3 := HB0.out.cell 3
 have xl := HB0.out.lt
 gi_wp2
 clear x0 x1 x2 x3 xl
 refine ⟨trivial, (callsIn_wide.2 (callsIn_wide.1 (rplayed_in Av nv cv Aa na ca At nt ct m W1 (HM.out.up HBE.out) (okMix_ves HOKM.out) (by have h1 := HLV.out; have h2 := HV4.out; omega) (by have h1 := HLA.out; have h2 := HA12.out; omega)))).mono ?_⟩
 rintro e W2 ⟨hb, Ap, np, cp, bb, L2, rfl, hpl⟩
 obtain ⟨rfl, hR⟩ : bb = true ∧ Reads W2 W2.heap.size 4 Ap np (L.flatMap heldC) := by
  rcases hpl with ⟨h1, h2, h3⟩ | ⟨_, _, h3⟩
  ·rw [HLL.out] at h2
   obtain rfl := Option.some.inj h2
   exact ⟨h1, h3⟩
  ·rw [HLL.out] at h3
   cases h3
 have HR2 := lh hR
 have HB2 := lh (HBE.out.trans (hb.mono HBE.out.size))
 have HM2 := lh (HB0.out.below hb HB0.out.lt)
 clear hb hpl hR HBE HB0
 gi_upto_region 2 with fail
 have x0 := HM2.out.cell 0
 have x1 := HM2.out.cell 1
 have x2 := HM2.out.cell 2
 have x3 := HM2.out.cell 3
 have xl := HM2.out.lt
 gi_wp2
 clear x0 x1 x2 x3 xl
 refine ⟨trivial, (callsIn_wide.2 (rindex_any Av nv cv Aa na ca At nt ct m vessel W2 (HM.out.up HB2.out))).mono ?_⟩
 rintro e W3 ⟨rfl, hb⟩
 rw [← HQ.out.1]
 have HB3 := lh (HB2.out.trans (hb.mono HB2.out.size))
 have HM3 := lh (HM2.out.below hb HM2.out.lt)
 have HR3 := lh ((HR2.out.below hb).more hb.size)
 clear hb HB2 HM2 HR2
 gi_upto_region 4 with fail
 have HAR := lh (Blk.new W3 171 (vcells fun _ => ⟨none, 0, []⟩))
 unfold vcells at HAR
 have hb4 : Below W3.heap.size W3 (W3.alloc (.cells #[.slice none 0 0, .slice none 0 0, .slice none 0 0, .slice none 0 0] 171)) := (Below.refl _ _).alloc (Nat.le_refl _) _
 change Hid (Blk (W3.alloc (.cells #[.slice none 0 0, .slice none 0 0, .slice none 0 0, .slice none 0 0] 171)) W3.heap.size 171 (vcells fun _ => ⟨none, 0, []⟩)) at HAR
 have HB4 := lh (HB3.out.trans (hb4.mono HB3.out.size))
 have HM4 := lh (HM3.out.below hb4 HM3.out.lt)
 have HR4 := lh (HR3.out.below hb4)
 have HSZ : Hid (w.heap.size ≤ W3.heap.size) := lh HB3.out.size
 have HGL := lh HM3.out.lt
 generalize (W3.alloc (.cells #[.slice none 0 0, .slice none 0 0, .slice none 0 0, .slice none 0 0] 171)) = V at *
 obtain ⟨ga, hga⟩ : ∃ g, W3.heap.size = g := ⟨_, rfl⟩
 rw [hga] at HAR HR4 HSZ HGL ⊢
 clear hb4 hga HB3 HM3 HR3
 have HWR := lh (show WR ga V (fun _ => ⟨none, 0, []⟩) from ⟨HAR.out, fun i hi => VwOk.none_, fun i hi j hj _ r hr => by cases hr⟩)
 clear HAR
 gi_wp2
 refine wpIn_loop (fun a W => ∃ (t : Nat), Hid (Er1 fun (F : Nat → Vw) => t ≤ k ∧ WR ga W F ∧ (∀ i, i < 4 → (F i).xs.map Wy.l = listR m L fountain t i) ∧ Kp3 ga V W) ∧ FrRwA (.int .i64 (k : Int)) (.int .i64 fountain) (.int .i64 4095) (.pointer (some ⟨gm, 0, none⟩)) (.slice Ap np cp) (.int .i64 (q : Int)) (.pointer (some ⟨ga, 0, none⟩)) (.int .i64 (t : Int)) a) (fun a _ => k - (intOf (a.tmps.getD 15 undef)).toNat) ?_ ?_
 ·exact ⟨0, lh ⟨_, Nat.zero_le _, HWR.out, fun i hi => rfl, Kp3.refl⟩, by constructor⟩
 clear HWR
 rintro a W ⟨t, HS, ha⟩
 cases ha
 obtain ⟨F, hs9⟩ := HS.out
 replace HS := lh hs9
 clear hs9
 by_cases hlt : t < k
 ·
  have HBW := lh (HB4.out.trans (HS.out.2.2.2.bel.mono HSZ.out))
  have HMW := lh (HM4.out.below HS.out.2.2.2.bel HGL.out)
  have HRW := lh (HR4.out.below HS.out.2.2.2.bel)
  obtain ⟨ba, oa, x, hAv, hbB, hx, c0_, c1_, c2_, c3_⟩ := (HM.out.at_.below HBW.out).act (i := t) (by have h1 := HLA.out; have h2 := HK.out; omega)
  obtain ⟨all, hA⟩ := HTOK.out.at_ hx
  have HX := lh hx
  have HAT := lh hA
  have HALL : Hid (L[t]? = some all) := lh hA.ha
  have HAV := lh hAv
  have hkc : t < na := by have h1 := HLA.out; have h2 := HK.out; omega
  have ht12 : t < 12 := by have h1 := HA12.out; have h2 := HK.out; omega
  have hba : ba < W.heap.size := Nat.lt_of_lt_of_le hbB HBW.out.size
  have x2 := HMW.out.cell 2
  have xl := HMW.out.lt
  change _ = some (Value.slice Aa na ca) at x2
  clear hx hA hbB
  rw [hAv] at x2
  gi_upto_region 8 with fail
  clear x2 xl c0_ c1_ c2_ c3_ hAv hba
  have HGX := lh (Blk.new W 67 #[.int .i64 x.kind, .int .i64 x.fr, .int .i64 x.to, .int .i64 x.drops])
  have hb5 : Below W.heap.size W (W.alloc (.cells #[.int .i64 x.kind, .int .i64 x.fr, .int .i64 x.to, .int .i64 x.drops] 67)) := (Below.refl _ _).alloc (Nat.le_refl _) _
  have HB5 := lh hb5
  generalize (W.alloc (.cells #[.int .i64 x.kind, .int .i64 x.fr, .int .i64 x.to, .int .i64 x.drops] 67)) = W5 at *
  have HK5 := lh (HS.out.2.2.2.trans (Kp3.of_below hb5 (by have h1 := HS.out.2.2.2.bel.size; have h2 := HS.out.2.1.blk.lt; omega)))
  have HW5 := lh (HS.out.2.1.below hb5)
  obtain ⟨gx, hgx⟩ : ∃ g, W.heap.size = g := ⟨_, rfl⟩
  have HGG : Hid (ga < gx) := lh (by rw [← hgx]; exact HS.out.2.1.blk.lt)
  rw [hgx] at HGX ⊢
  have HMW5 := lh (HMW.out.below hb5 HMW.out.lt)
  have HBW5 := lh (HBW.out.trans (hb5.mono HBW.out.size))
  have HRW5 := lh (HRW.out.below (hb5.mono (by have h2 := HS.out.2.1.blk.lt; omega)))
  clear hb5 hgx HB5 HMW HBW HRW
  refine wpIn_flow_old [([true, true, true, false, true, true, true], 3), ([], 7)] [false, false, false, false, false, false, false, false, true, true] [] (by kernel_rfl) (by kernel_rfl) (by kernel_rfl) (below_drewN (Below.refl _ _) 1) ?_
  refine wpFlow_cons (A := ?AW1) rfl ?hw1 ?_
  case hw1 =>
   rintro σ hσ of hof hcl
   have HOF := lh hof
   have HCL := lh hcl
   clear hof hcl
   have x0 : ∀ z, (of z).cell? ⟨gm, 0, none⟩ = some (.int .i64 m.fountains) := fun z => (HMW5.out.below (HOF.out z) HMW5.out.lt).cell 0
   have x1 : ∀ z, (of z).cell? ⟨gm, 1, none⟩ = some (.slice Av nv cv) := fun z => (HMW5.out.below (HOF.out z) HMW5.out.lt).cell 1
   have x2 : ∀ z, (of z).cell? ⟨gm, 2, none⟩ = some (.slice Aa na ca) := fun z => (HMW5.out.below (HOF.out z) HMW5.out.lt).cell 2
   have x3 : ∀ z, (of z).cell? ⟨gm, 3, none⟩ = some (.slice At nt ct) := fun z => (HMW5.out.below (HOF.out z) HMW5.out.lt).cell 3
   have y1 : ∀ z, (of z).cell? ⟨gx, 1, none⟩ = some (.int .i64 x.fr) := fun z => (HGX.out.below (HOF.out z) HGX.out.lt).cell 1
   have y2 : ∀ z, (of z).cell? ⟨gx, 2, none⟩ = some (.int .i64 x.to) := fun z => (HGX.out.below (HOF.out z) HGX.out.lt).cell 2
   have hfw := hfT
   simp only [pickB]
   iterate 6 (gi_big_quiet_step (fail))
   refine wpQuietIn_nil ?_
   exact rfl
  intro W6 hW
  replace HRW5 := lh (HRW5.out.below (hW.mono (Nat.le_of_lt HW5.out.blk.lt)))
  replace HK5 := lh (HK5.out.trans (Kp3.of_below hW (by have h1 := HK5.out.bel.size; have h2 := HW5.out.blk.lt; omega)))
  replace HW5 := lh (HW5.out.below hW)
  replace HGX := lh (HGX.out.below hW HGX.out.lt)
  replace HMW5 := lh (HMW5.out.below hW HMW5.out.lt)
  replace HBW5 := lh (HBW5.out.trans (hW.mono HBW5.out.size))
  clear hW
  gi_wp2
  refine ⟨trivial, (callsIn_wide.2 (rindex_any Av nv cv Aa na ca At nt ct m x.fr W6 (HM.out.up HBW5.out))).mono ?_⟩
  rintro e W7 ⟨rfl, hb⟩
  have HBc := lh hb
  gi_wp2
  refine ⟨trivial, hb, ?_⟩
  replace HRW5 := lh (HRW5.out.below (hb.mono (Nat.le_of_lt HW5.out.blk.lt)))
  replace HK5 := lh (HK5.out.trans (Kp3.of_below hb (by have h1 := HK5.out.bel.size; have h2 := HW5.out.blk.lt; omega)))
  replace HW5 := lh (HW5.out.below hb)
  replace HGX := lh (HGX.out.below hb HGX.out.lt)
  replace HMW5 := lh (HMW5.out.below hb HMW5.out.lt)
  replace HBW5 := lh (HBW5.out.trans (hb.mono HBW5.out.size))
  clear hb
  clear HBc
  refine wpFlow_cons rfl Quietly.none ?_
  intro W8 hW
  replace HRW5 := lh (HRW5.out.below (hW.mono (Nat.le_of_lt HW5.out.blk.lt)))
  replace HK5 := lh (HK5.out.trans (Kp3.of_below hW (by have h1 := HK5.out.bel.size; have h2 := HW5.out.blk.lt; omega)))
  replace HW5 := lh (HW5.out.below hW)
  replace HGX := lh (HGX.out.below hW HGX.out.lt)
  replace HMW5 := lh (HMW5.out.below hW HMW5.out.lt)
  replace HBW5 := lh (HBW5.out.trans (hW.mono HBW5.out.size))
  clear hW
  gi_wp2
  refine ⟨trivial, (callsIn_wide.2 (rindex_any Av nv cv Aa na ca At nt ct m x.to W8 (HM.out.up HBW5.out))).mono ?_⟩
  rintro e W9 ⟨rfl, hb⟩
  gi_wp2
  refine ⟨trivial, hb, ?_⟩
  replace HRW5 := lh (HRW5.out.below (hb.mono (Nat.le_of_lt HW5.out.blk.lt)))
  replace HK5 := lh (HK5.out.trans (Kp3.of_below hb (by have h1 := HK5.out.bel.size; have h2 := HW5.out.blk.lt; omega)))
  replace HW5 := lh (HW5.out.below hb)
  replace HGX := lh (HGX.out.below hb HGX.out.lt)
  replace HMW5 := lh (HMW5.out.below hb HMW5.out.lt)
  replace HBW5 := lh (HBW5.out.trans (hb.mono HBW5.out.size))
  clear hb
  refine wpFlow_nil (A := ?AW2)  ?hw2 ?_
  case hw2 =>
   rintro σ hσ of hof hcl
   have HOF := lh hof
   have HCL := lh hcl
   clear hof hcl
   have ht12_ := ht12
   have hfw := hfT
   simp only [pickB]
   iterate 2 (gi_big_quiet_step (fail))
   refine wpQuietIn_nil ?_
   exact rfl
  intro W10 hW
  replace HRW5 := lh (HRW5.out.below (hW.mono (Nat.le_of_lt HW5.out.blk.lt)))
  replace HK5 := lh (HK5.out.trans (Kp3.of_below hW (by have h1 := HK5.out.bel.size; have h2 := HW5.out.blk.lt; omega)))
  replace HW5 := lh (HW5.out.below hW)
  replace HGX := lh (HGX.out.below hW HGX.out.lt)
  replace HMW5 := lh (HMW5.out.below hW HMW5.out.lt)
  replace HBW5 := lh (HBW5.out.trans (hW.mono HBW5.out.size))
  clear hW
  simp only [pickB]
  refine wpT_nil ?_
  obtain ⟨jf, hjf⟩ : ∃ jf, idxV m.vessels x.fr = jf := ⟨_, rfl⟩
  obtain ⟨jt, hjt⟩ : ∃ jt, idxV m.vessels x.to = jt := ⟨_, rfl⟩
  rw [hjf, hjt]
  have HJF := lh hjf
  have HJT := lh hjt
  clear hjf hjt
  gi_upto_region 10 with fail
  rw [bit_on ht12]
  have HKD := lh HAT.out.ok.kind
  have HLT := lh hlt
  by_cases hk4 : x.kind = 4
  ·
   have y0 := HGX.out.cell 0
   have y1 := HGX.out.cell 1
   have y2 := HGX.out.cell 2
   have y3 := HGX.out.cell 3
   have yl := HGX.out.lt
   have h1b : (x.kind == 1) = false := by rw [hk4]; rfl
   have h2b : (x.kind == 2) = false := by rw [hk4]; rfl
   have h4b : (x.kind == 4) = true := by rw [hk4]; rfl
   have h1c : (x.kind != 1) = true := by rw [hk4]; rfl
   have h3c : ¬ x.kind < 3 := by omega
   have HK4 := lh hk4
   have hjf0 : 0 ≤ jf := by rw [← HJF.out]; exact HAT.out.ok.from_ (by rw [HK4.out]; decide)
   have hjf4 : jf < 4 := by rw [← HJF.out]; exact idxV_small HV4.out
   obtain ⟨qf, hqf⟩ : ∃ qf : Nat, jf = (qf : Int) := ⟨jf.toNat, by omega⟩
   subst hqf
   have hq4 : qf < 4 := by omega
   clear hk4
   gi_upto_region 19 with fail
   clear y0 y1 y2 y3 yl
   refine wpIn_flow_old [] [true, true, true, true, true, true, true, true, true, true, true, true, true, true, true, true, true, true, true] [] (by kernel_rfl) (by kernel_rfl) (by kernel_rfl) (below_drewN (Below.refl _ _) 1) ?_
   refine wpFlow_nil (A := ?AW3)  ?hw3 ?_
   case hw3 =>
    rintro σ hσ of hof hcl
    have HOF := lh hof
    have HCL := lh hcl
    clear hof hcl
    have y0 : ∀ z, (of z).cell? ⟨gx, 0, none⟩ = some (.int .i64 x.kind) := fun z => (HGX.out.below (HOF.out z) HGX.out.lt).cell 0
    have y3 : ∀ z, (of z).cell? ⟨gx, 3, none⟩ = some (.int .i64 x.drops) := fun z => (HGX.out.below (HOF.out z) HGX.out.lt).cell 3
    have hk4_ := HK4.out
    have hfw := hfT
    simp only [pickB]
    iterate 19 (gi_big_quiet_step (fail))
    refine wpQuietIn_nil ?_
    exact rfl
   intro W20 hW
   replace HRW5 := lh (HRW5.out.below (hW.mono (Nat.le_of_lt HW5.out.blk.lt)))
   replace HK5 := lh (HK5.out.trans (Kp3.of_below hW (by have h1 := HK5.out.bel.size; have h2 := HW5.out.blk.lt; omega)))
   replace HW5 := lh (HW5.out.below hW)
   replace HGX := lh (HGX.out.below hW HGX.out.lt)
   replace HMW5 := lh (HMW5.out.below hW HMW5.out.lt)
   replace HBW5 := lh (HBW5.out.trans (hW.mono HBW5.out.size))
   clear hW
   simp only [pickB]
   refine wpT_nil ?_
   have y0 := HGX.out.cell 0
   have y1 := HGX.out.cell 1
   have y2 := HGX.out.cell 2
   have y3 := HGX.out.cell 3
   have yl := HGX.out.lt
   have z0 := HW5.out.cell (q := qf) hq4
   have z1 := HW5.out.blk.frozen qf
   have zl := HW5.out.blk.lt
   gi_upto_region 21 with fail
   clear z0 z1 zl
   clear y0 y1 y2 y3 yl
   have HKs := lh (Kp3.setCell (g := ga) W20 qf (.slice none 0 0))
   replace HW5 := lh (HW5.out.clear (q := qf) hq4)
   replace HK5 := lh (HK5.out.trans HKs.out)
   replace HGX := lh (HGX.out.far (p := ⟨ga, qf, none⟩) (by have := HGG.out; dsimp only; omega) (.slice none 0 0))
   clear HKs
   generalize (W20.setCell ⟨ga, qf, none⟩ (.slice none 0 0)) = W21 at *
   have y0 := HGX.out.cell 0
   have y1 := HGX.out.cell 1
   have y2 := HGX.out.cell 2
   have y3 := HGX.out.cell 3
   have yl := HGX.out.lt
   gi_wp2
   clear y0 y1 y2 y3 yl
   refine ⟨⟨t + 1, lh ⟨updV F qf ⟨none, 0, []⟩, hlt, HW5.out, fun i hi => ?_, HK5.out⟩, by rw [show ((t + 1 : Nat) : Int) = (t : Int) + 1 from by omega]; constructor⟩, ?_⟩
   ·rw [listR_at HX.out HALL.out]
    rw [if_neg (c := x.kind < 3 ∧ idxV m.vessels x.to = (i : Int)) (fun h9 => by have h8 := h9.1; rw [HK4.out] at h8; exact absurd h8 (by decide)), List.append_nil, HJF.out]
    by_cases e : i = qf
    ·subst e
     rw [updV_self, if_pos ⟨by rw [HK4.out]; decide, rfl, .inl HK4.out⟩]
     rfl
    ·rw [updV_other e, if_neg (fun h => e (by have := h.2.1; omega))]
     exact HS.out.2.2.1 i hi
   ·simp [intOf] <;> omega
  ·
   by_cases hk3 : x.kind = 3
   ·
    have h1b : (x.kind == 1) = false := by rw [hk3]; rfl
    have h2b : (x.kind == 2) = false := by rw [hk3]; rfl
    have h4b : (x.kind == 4) = false := by rw [hk3]; rfl
    have h1c : (x.kind != 1) = true := by rw [hk3]; rfl
    have h3c : ¬ x.kind < 3 := by omega
    have HK3 := lh hk3
    have hjf0 : 0 ≤ jf := by rw [← HJF.out]; exact HAT.out.ok.from_ (by rw [HK3.out]; decide)
    have hjf4 : jf < 4 := by rw [← HJF.out]; exact idxV_small HV4.out
    obtain ⟨qf, hqf⟩ : ∃ qf : Nat, jf = (qf : Int) := ⟨jf.toNat, by omega⟩
    subst hqf
    have hq4 : qf < 4 := by omega
    clear hk3 hk4
    have y0 := HGX.out.cell 0
    have y1 := HGX.out.cell 1
    have y2 := HGX.out.cell 2
    have y3 := HGX.out.cell 3
    have yl := HGX.out.lt
    gi_upto_region 19 with fail
    clear y0 y1 y2 y3 yl
    obtain ⟨bp, op_, all9, p1, p2, p3, p4⟩ := recs_cell heldC_k (by omega) HRW5.out (i := t) (by have h1 := recs_n heldC_k (by omega) HRW5.out; have h2 := (List.getElem?_eq_some_iff.1 HALL.out).1; omega)
    obtain rfl : all = all9 := Option.some.inj (HALL.out.symm.trans p3)
    have HPA := lh p1
    have hpl : bp < W10.heap.size := by have h1 := HK5.out.bel.size; have h2 := HW5.out.blk.lt; omega
    have HPC : Hid (bp < W10.heap.size ∧ W10.cell? ⟨bp, op_ + t * 4 + qf, none⟩ = some (.int .i64 (heldAt all (qf : Int)))) := lh ⟨hpl, p4 qf _ (heldC_l all hq4)⟩
    have hnp : t < np := by have h1 := recs_n heldC_k (by omega) HRW5.out; have h2 := (List.getElem?_eq_some_iff.1 HALL.out).1; omega
    have hnp2 : np ≤ 13 := by have h1 := recs_n heldC_k (by omega) HRW5.out; have h2 := HTOK.out.long; have h3 := HA12.out; dsimp only at h2; omega
    rw [p1]
    clear p1 p2 p3 p4 hpl
    by_cases hd : x.drops = heldAt all (qf : Int)
    ·
     have hdb : (x.drops == heldAt all (qf : Int)) = true := by simpa using hd
     have HD := lh hd
     clear hd
     refine wpIn_flow_old [] [true, true, true, true, true, true, true, true, true, true, true, true, true, true, true, true, true, true, true] [] (by kernel_rfl) (by kernel_rfl) (by kernel_rfl) (below_drewN (Below.refl _ _) 1) ?_
     refine wpFlow_nil (A := ?AW4)  ?hw4 ?_
     case hw4 =>
      rintro σ hσ of hof hcl
      have HOF := lh hof
      have HCL := lh hcl
      clear hof hcl
      have y0 : ∀ z, (of z).cell? ⟨gx, 0, none⟩ = some (.int .i64 x.kind) := fun z => (HGX.out.below (HOF.out z) HGX.out.lt).cell 0
      have y3 : ∀ z, (of z).cell? ⟨gx, 3, none⟩ = some (.int .i64 x.drops) := fun z => (HGX.out.below (HOF.out z) HGX.out.lt).cell 3
      have ch : ∀ z, (of z).cell? ⟨bp, op_ + t * 4 + qf, none⟩ = some (.int .i64 (heldAt all (qf : Int))) := fun z => ((HOF.out z).cell (p := ⟨bp, op_ + t * 4 + qf, none⟩) HPC.out.1).trans HPC.out.2
      have hnp_ := hnp
      have hfw := hfT
      simp only [pickB]
      iterate 19 (gi_big_quiet_step (fail))
      refine wpQuietIn_nil ?_
      exact rfl
     intro W20 hW
     replace HRW5 := lh (HRW5.out.below (hW.mono (Nat.le_of_lt HW5.out.blk.lt)))
     replace HK5 := lh (HK5.out.trans (Kp3.of_below hW (by have h1 := HK5.out.bel.size; have h2 := HW5.out.blk.lt; omega)))
     replace HW5 := lh (HW5.out.below hW)
     replace HGX := lh (HGX.out.below hW HGX.out.lt)
     replace HMW5 := lh (HMW5.out.below hW HMW5.out.lt)
     replace HBW5 := lh (HBW5.out.trans (hW.mono HBW5.out.size))
     clear hW
     simp only [pickB]
     refine wpT_nil ?_
     rw [← HPA.out]
     have y0 := HGX.out.cell 0
     have y1 := HGX.out.cell 1
     have y2 := HGX.out.cell 2
     have y3 := HGX.out.cell 3
     have yl := HGX.out.lt
     have z0 := HW5.out.cell (q := qf) hq4
     have z1 := HW5.out.blk.frozen qf
     have zl := HW5.out.blk.lt
     gi_upto_region 21 with fail
     clear z0 z1 zl
     clear y0 y1 y2 y3 yl
     have HKs := lh (Kp3.setCell (g := ga) W20 qf (.slice none 0 0))
     replace HW5 := lh (HW5.out.clear (q := qf) hq4)
     replace HK5 := lh (HK5.out.trans HKs.out)
     replace HGX := lh (HGX.out.far (p := ⟨ga, qf, none⟩) (by have := HGG.out; dsimp only; omega) (.slice none 0 0))
     clear HKs
     generalize (W20.setCell ⟨ga, qf, none⟩ (.slice none 0 0)) = W21 at *
     have y0 := HGX.out.cell 0
     have y1 := HGX.out.cell 1
     have y2 := HGX.out.cell 2
     have y3 := HGX.out.cell 3
     have yl := HGX.out.lt
     gi_wp2
     clear y0 y1 y2 y3 yl
     refine ⟨⟨t + 1, lh ⟨updV F qf ⟨none, 0, []⟩, hlt, HW5.out, fun i hi => ?_, HK5.out⟩, by rw [show ((t + 1 : Nat) : Int) = (t : Int) + 1 from by omega]; constructor⟩, ?_⟩
     ·rw [listR_at HX.out HALL.out]
      rw [if_neg (c := x.kind < 3 ∧ idxV m.vessels x.to = (i : Int)) (fun h9 => by have h8 := h9.1; rw [HK3.out] at h8; exact absurd h8 (by decide)), List.append_nil, HJF.out]
      by_cases e : i = qf
      ·subst e
       rw [updV_self, if_pos ⟨by rw [HK3.out]; decide, rfl, .inr HD.out⟩]
       rfl
      ·rw [updV_other e, if_neg (fun h => e (by have := h.2.1; omega))]
       exact HS.out.2.2.1 i hi
     ·simp [intOf] <;> omega
    ·
     have hdb : (x.drops == heldAt all (qf : Int)) = false := by simpa using hd
     have HD := lh hd
     clear hd
     refine wpIn_flow_old [] [true, true, true, true, true, true, true, true, true, true, true, true, true, true, true, true, true, true, true] [] (by kernel_rfl) (by kernel_rfl) (by kernel_rfl) (below_drewN (Below.refl _ _) 1) ?_
     refine wpFlow_nil (A := ?AW5)  ?hw5 ?_
     case hw5 =>
      rintro σ hσ of hof hcl
      have HOF := lh hof
      have HCL := lh hcl
      clear hof hcl
      have y0 : ∀ z, (of z).cell? ⟨gx, 0, none⟩ = some (.int .i64 x.kind) := fun z => (HGX.out.below (HOF.out z) HGX.out.lt).cell 0
      have y3 : ∀ z, (of z).cell? ⟨gx, 3, none⟩ = some (.int .i64 x.drops) := fun z => (HGX.out.below (HOF.out z) HGX.out.lt).cell 3
      have ch : ∀ z, (of z).cell? ⟨bp, op_ + t * 4 + qf, none⟩ = some (.int .i64 (heldAt all (qf : Int))) := fun z => ((HOF.out z).cell (p := ⟨bp, op_ + t * 4 + qf, none⟩) HPC.out.1).trans HPC.out.2
      have hnp_ := hnp
      have hfw := hfT
      simp only [pickB]
      iterate 19 (gi_big_quiet_step (fail))
      refine wpQuietIn_nil ?_
      exact rfl
     intro W20 hW
     replace HRW5 := lh (HRW5.out.below (hW.mono (Nat.le_of_lt HW5.out.blk.lt)))
     replace HK5 := lh (HK5.out.trans (Kp3.of_below hW (by have h1 := HK5.out.bel.size; have h2 := HW5.out.blk.lt; omega)))
     replace HW5 := lh (HW5.out.below hW)
     replace HGX := lh (HGX.out.below hW HGX.out.lt)
     replace HMW5 := lh (HMW5.out.below hW HMW5.out.lt)
     replace HBW5 := lh (HBW5.out.trans (hW.mono HBW5.out.size))
     clear hW
     simp only [pickB]
     refine wpT_nil ?_
     rw [← HPA.out]
     have y0 := HGX.out.cell 0
     have y1 := HGX.out.cell 1
     have y2 := HGX.out.cell 2
     have y3 := HGX.out.cell 3
     have yl := HGX.out.lt
     gi_wp2
     clear y0 y1 y2 y3 yl
     refine ⟨⟨t + 1, lh ⟨F, hlt, HW5.out, fun i hi => ?_, HK5.out⟩, by rw [show ((t + 1 : Nat) : Int) = (t : Int) + 1 from by omega]; constructor⟩, ?_⟩
     ·rw [listR_at HX.out HALL.out]
      rw [if_neg (c := x.kind < 3 ∧ idxV m.vessels x.to = (i : Int)) (fun h9 => by have h8 := h9.1; rw [HK3.out] at h8; exact absurd h8 (by decide)), List.append_nil, HJF.out]
      rw [if_neg (fun h => by
       rcases h.2.2 with h9 | h9
       ·rw [HK3.out] at h9; exact absurd h9 (by decide)
       ·exact HD.out h9)]
      exact HS.out.2.2.1 i hi
     ·simp [intOf] <;> omega
   ·
    by_cases hk1 : x.kind = 1
    ·
     have h1b : (x.kind == 1) = true := by rw [hk1]; rfl
     have h2b : (x.kind == 2) = false := by rw [hk1]; rfl
     have h1c : (x.kind != 1) = false := by rw [hk1]; rfl
     have h3c : x.kind < 3 := by omega
     have HK1 := lh hk1
     have hjt0 : 0 ≤ jt := by rw [← HJT.out]; exact HAT.out.ok.to_ (.inl HK1.out)
     have hjt4 : jt < 4 := by rw [← HJT.out]; exact idxV_small HV4.out
     obtain ⟨qt, hqt⟩ : ∃ qt : Nat, jt = (qt : Int) := ⟨jt.toNat, by omega⟩
     subst hqt
     have hq4 : qt < 4 := by omega
     clear hk1 hk3 hk4
     by_cases hf : x.fr = fountain
     ·
      have hfb : (x.fr == fountain) = true := by simpa using hf
      have HF := lh hf
      clear hf
      have y0 := HGX.out.cell 0
      have y1 := HGX.out.cell 1
      have y2 := HGX.out.cell 2
      have y3 := HGX.out.cell 3
      have yl := HGX.out.lt
      have hga10 : ga + 1 ≤ W10.heap.size := by have := HW5.out.blk.lt; omega
      have hbi : Below W10.heap.size W10 (W10.alloc (.cells #[.int .i64 ((t : Int) + 1)] 3)) := (Below.refl _ _).alloc (Nat.le_refl _) _
      have hbb : Below W10.heap.size W10 ((W10.alloc (.cells #[.int .i64 ((t : Int) + 1)] 3)).alloc (.cells #[.slice (some ⟨W10.heap.size, 0, none⟩) 1 1] 57)) := hbi.alloc (by simp) _
      have hob := Blk.new (W10.alloc (.cells #[.int .i64 ((t : Int) + 1)] 3)) 57 #[.slice (some ⟨W10.heap.size, 0, none⟩) 1 1]
      rw [World.size_alloc] at hob
      have hin := IntsAt.new W10 3 [(t : Int) + 1] (W10.heap.size + 1) (by omega)
      have hyo : Wy.own (ga + 1) ⟨[(t : Int) + 1], some ⟨W10.heap.size, 0, none⟩, 1, 1⟩ ((W10.alloc (.cells #[.int .i64 ((t : Int) + 1)] 3)).alloc (.cells #[.slice (some ⟨W10.heap.size, 0, none⟩) 1 1] 57)) :=
       Wy.own.below ⟨⟨hin.more (by simp), by dsimp only; omega⟩, fun a ha => by cases ha; exact ⟨hga10, _, Blk.new _ _ _⟩⟩ ((Below.refl _ _).alloc (Nat.le_refl _) _)
      have HOB := lh hob
      have HYO := lh hyo
      have HBB := lh hbb
      clear hbi hbb hob hin hyo
      gi_wp2_with (first | (gi_at_builtin; refine wpListIn_append_any rfl (.tmp 66) (.tmp 70) (by rfl) elem_roww rfl (Own.none_ _ (ga + 1) _ _) rfl (one_val (x := .slice (some ⟨W10.heap.size, 0, none⟩) 1 1) HOB.out.lt (HOB.out.cell 0)) (fun u hu => by rw [List.mem_singleton.1 hu]; rfl) (by unfold maxLen; omega) (by omega) (Nat.le_trans hga10 HBB.out.size) ?_) | fail)
      rintro A' c' Wd hown hg hA
      have hb : Below W10.heap.size W10 Wd := HBB.out.trans (((Below.refl _ _).grown hg (Nat.le_refl _) (fun r e => by cases e)).mono HBB.out.size)
      have hown2 : Own Wd (ga + 1) 57 1 A' (0 + 1) c' (([] : List Wy).map Wy.val ++ [(⟨[(t : Int) + 1], some ⟨W10.heap.size, 0, none⟩, 1, 1⟩ : Wy)].map Wy.val) := by first | exact hown | simpa using hown
      have HCO := lh (VwOk.app (v := ⟨none, 0, []⟩) (VwOk.none_) (ys := [⟨[(t : Int) + 1], some ⟨W10.heap.size, 0, none⟩, 1, 1⟩]) (fun y hy => by rw [List.mem_singleton.1 hy]; exact HYO.out) rfl hown2 hg (by have := HBB.out.size; omega))
      obtain ⟨yw, hyw⟩ : ∃ yw : Wy, yw = ⟨[(t : Int) + 1], some ⟨W10.heap.size, 0, none⟩, 1, 1⟩ := ⟨_, rfl⟩
      have HYL : Hid (yw.l = [(t : Int) + 1]) := lh (by rw [hyw])
      rw [← hyw] at HCO
      clear hown hown2 hg hA HOB HYO HBB hyw hga10
      clear y0 y1 y2 y3 yl
      replace HRW5 := lh (HRW5.out.below (hb.mono (Nat.le_of_lt HW5.out.blk.lt)))
      replace HK5 := lh (HK5.out.trans (Kp3.of_below hb (by have h1 := HK5.out.bel.size; have h2 := HW5.out.blk.lt; omega)))
      replace HW5 := lh (HW5.out.below hb)
      replace HGX := lh (HGX.out.below hb HGX.out.lt)
      replace HMW5 := lh (HMW5.out.below hb HMW5.out.lt)
      replace HBW5 := lh (HBW5.out.trans (hb.mono HBW5.out.size))
      clear hb
      have y0 := HGX.out.cell 0
      have y1 := HGX.out.cell 1
      have y2 := HGX.out.cell 2
      have y3 := HGX.out.cell 3
      have yl := HGX.out.lt
      gi_upto_region 19 with fail
      clear y0 y1 y2 y3 yl
      refine wpIn_flow_old [] [true, true, true, true, true, true, true, true, true, true, true, true, true, true, true, true, true, true, true] [] (by kernel_rfl) (by kernel_rfl) (by kernel_rfl) (below_drewN (Below.refl _ _) 1) ?_
      refine wpFlow_nil (A := ?AW6)  ?hw6 ?_
      case hw6 =>
       rintro σ hσ of hof hcl
       have HOF := lh hof
       have HCL := lh hcl
       clear hof hcl
       have y0 : ∀ z, (of z).cell? ⟨gx, 0, none⟩ = some (.int .i64 x.kind) := fun z => (HGX.out.below (HOF.out z) HGX.out.lt).cell 0
       have y3 : ∀ z, (of z).cell? ⟨gx, 3, none⟩ = some (.int .i64 x.drops) := fun z => (HGX.out.below (HOF.out z) HGX.out.lt).cell 3
       have hk1_ := HK1.out
       have hfw := hfT
       simp only [pickB]
       iterate 19 (gi_big_quiet_step (fail))
       refine wpQuietIn_nil ?_
       exact rfl
      intro W20 hW
      replace HCO := lh (HCO.out.below hW)
      replace HRW5 := lh (HRW5.out.below (hW.mono (Nat.le_of_lt HW5.out.blk.lt)))
      replace HK5 := lh (HK5.out.trans (Kp3.of_below hW (by have h1 := HK5.out.bel.size; have h2 := HW5.out.blk.lt; omega)))
      replace HW5 := lh (HW5.out.below hW)
      replace HGX := lh (HGX.out.below hW HGX.out.lt)
      replace HMW5 := lh (HMW5.out.below hW HMW5.out.lt)
      replace HBW5 := lh (HBW5.out.trans (hW.mono HBW5.out.size))
      clear hW
      simp only [pickB]
      refine wpT_nil ?_
      have y0 := HGX.out.cell 0
      have y1 := HGX.out.cell 1
      have y2 := HGX.out.cell 2
      have y3 := HGX.out.cell 3
      have yl := HGX.out.lt
      have z0 := HW5.out.cell (q := qt) hq4
      have z1 := HW5.out.blk.frozen qt
      have zl := HW5.out.blk.lt
      have hfl : (F qt).xs.length ≤ 4096 := by rw [← List.length_map (f := Wy.l), HS.out.2.2.1 qt hq4]; exact listR_small (by omega)
      gi_wp2_with (first | (gi_at_builtin; refine wpListIn_append_any rfl (.tmp 124) (.tmp 125) (by rfl) elem_roww rfl (HW5.out.ok qt hq4).own rfl (HCO.out.own.reads (Nat.le_refl _)) (fun u hu => by rw [List.mem_singleton.1 hu]; rfl) (by unfold maxLen; omega) (by omega) zl ?_) | fail)
      rintro A9 c9 Wp hown hg hA
      have hown2 : Own Wp (ga + 1) 57 1 A9 ((F qt).xs.length + 1) c9 ((F qt).xs.map Wy.val ++ ([yw] : List Wy).map Wy.val) := by first | exact hown | simpa using hown
      have HPUT := lh (HW5.out.put (q := qt) (n := 1) hq4 (ys := [yw]) (fun y hy => HCO.out.all y (by simpa using hy)) rfl hown2 hg hA)
      have HKP := lh ((Kp3.row (HW5.out.ok qt hq4) hg HW5.out.blk.lt).trans (Kp3.setCell Wp qt (.slice A9 ((F qt).xs.length + 1) c9)))
      have hbp := HW5.out.blk.grown hg (fun e => by have := ((HW5.out.ok qt hq4).le e.symm).1; omega)
      have z2 : Wp.cell? ⟨ga, qt, none⟩ = some (F qt).val := by rw [hbp.cell qt, vcells_get F hq4]
      have z3 := hbp.frozen qt
      have z4 := hbp.lt
      clear z0 z1 zl hown hown2 hg hA hbp
      clear y0 y1 y2 y3 yl
      gi_wp2
      clear z2 z3 z4
      replace HW5 := HPUT
      replace HK5 := lh (HK5.out.trans HKP.out)
      clear HPUT HKP
      refine ⟨⟨t + 1, lh ⟨updV F qt ⟨A9, c9, (F qt).xs ++ [yw]⟩, hlt, HW5.out, fun i hi => ?_, HK5.out⟩, by rw [show ((t + 1 : Nat) : Int) = (t : Int) + 1 from by omega]; constructor⟩, ?_⟩
      ·rw [listR_at HX.out HALL.out]
       rw [if_neg (c := x.kind ≠ 1 ∧ _) (fun h => h.1 HK1.out)]
       have hco : comeR x fountain t (listR m L fountain t (idxV m.vessels x.fr)) = [[(t : Int) + 1]] := by unfold comeR; rw [if_pos ⟨HK1.out, HF.out⟩]
       rw [hco, HJT.out]
       by_cases e : i = qt
       ·subst e
        rw [updV_self, if_pos ⟨by rw [HK1.out]; decide, rfl⟩, ← HS.out.2.2.1 i hi, List.map_append, List.map_cons, HYL.out]
        rfl
       ·rw [updV_other e, if_neg (fun h => e (by have := h.2; omega)), List.append_nil]
        exact HS.out.2.2.1 i hi
      ·simp [intOf] <;> omega
     ·
      have hfb : (x.fr == fountain) = false := by simpa using hf
      have HF := lh hf
      clear hf
      have y0 := HGX.out.cell 0
      have y1 := HGX.out.cell 1
      have y2 := HGX.out.cell 2
      have y3 := HGX.out.cell 3
      have yl := HGX.out.lt
      gi_upto_region 19 with fail
      clear y0 y1 y2 y3 yl
      refine wpIn_flow_old [] [true, true, true, true, true, true, true, true, true, true, true, true, true, true, true, true, true, true, true] [] (by kernel_rfl) (by kernel_rfl) (by kernel_rfl) (below_drewN (Below.refl _ _) 1) ?_
      refine wpFlow_nil (A := ?AW7)  ?hw7 ?_
      case hw7 =>
       rintro σ hσ of hof hcl
       have HOF := lh hof
       have HCL := lh hcl
       clear hof hcl
       have y0 : ∀ z, (of z).cell? ⟨gx, 0, none⟩ = some (.int .i64 x.kind) := fun z => (HGX.out.below (HOF.out z) HGX.out.lt).cell 0
       have y3 : ∀ z, (of z).cell? ⟨gx, 3, none⟩ = some (.int .i64 x.drops) := fun z => (HGX.out.below (HOF.out z) HGX.out.lt).cell 3
       have hk1_ := HK1.out
       have hfw := hfT
       simp only [pickB]
       iterate 19 (gi_big_quiet_step (fail))
       refine wpQuietIn_nil ?_
       exact rfl
      intro W20 hW
      replace HRW5 := lh (HRW5.out.below (hW.mono (Nat.le_of_lt HW5.out.blk.lt)))
      replace HK5 := lh (HK5.out.trans (Kp3.of_below hW (by have h1 := HK5.out.bel.size; have h2 := HW5.out.blk.lt; omega)))
      replace HW5 := lh (HW5.out.below hW)
      replace HGX := lh (HGX.out.below hW HGX.out.lt)
      replace HMW5 := lh (HMW5.out.below hW HMW5.out.lt)
      replace HBW5 := lh (HBW5.out.trans (hW.mono HBW5.out.size))
      clear hW
      simp only [pickB]
      refine wpT_nil ?_
      have y0 := HGX.out.cell 0
      have y1 := HGX.out.cell 1
      have y2 := HGX.out.cell 2
      have y3 := HGX.out.cell 3
      have yl := HGX.out.lt
      have z0 := HW5.out.cell (q := qt) hq4
      have z1 := HW5.out.blk.frozen qt
      have zl := HW5.out.blk.lt
      have hfl : (F qt).xs.length ≤ 4096 := by rw [← List.length_map (f := Wy.l), HS.out.2.2.1 qt hq4]; exact listR_small (by omega)
      gi_wp2_with (first | (gi_at_builtin; refine wpListIn_append_any rfl (.tmp 124) (.tmp 125) (by rfl) elem_roww rfl (HW5.out.ok qt hq4).own rfl (Reads.none_ (w := W20) (B := 0)) (fun u hu => by cases hu) (by unfold maxLen; omega) (by omega) zl ?_) | fail)
      rintro A9 c9 Wp hown hg hA
      have hown2 : Own Wp (ga + 1) 57 1 A9 ((F qt).xs.length + 0) c9 ((F qt).xs.map Wy.val ++ ([] : List Wy).map Wy.val) := by first | exact hown | simpa using hown
      have HPUT := lh (HW5.out.put (q := qt) (n := 0) hq4 (ys := []) (fun y hy => by cases hy) rfl hown2 hg hA)
      have HKP := lh ((Kp3.row (HW5.out.ok qt hq4) hg HW5.out.blk.lt).trans (Kp3.setCell Wp qt (.slice A9 ((F qt).xs.length + 0) c9)))
      have hbp := HW5.out.blk.grown hg (fun e => by have := ((HW5.out.ok qt hq4).le e.symm).1; omega)
      have z2 : Wp.cell? ⟨ga, qt, none⟩ = some (F qt).val := by rw [hbp.cell qt, vcells_get F hq4]
      have z3 := hbp.frozen qt
      have z4 := hbp.lt
      clear z0 z1 zl hown hown2 hg hA hbp
      clear y0 y1 y2 y3 yl
      gi_wp2
      clear z2 z3 z4
      replace HW5 := HPUT
      replace HK5 := lh (HK5.out.trans HKP.out)
      clear HPUT HKP
      refine ⟨⟨t + 1, lh ⟨updV F qt ⟨A9, c9, (F qt).xs ++ []⟩, hlt, HW5.out, fun i hi => ?_, HK5.out⟩, by rw [show ((t + 1 : Nat) : Int) = (t : Int) + 1 from by omega]; constructor⟩, ?_⟩
      ·rw [listR_at HX.out HALL.out]
       rw [if_neg (c := x.kind ≠ 1 ∧ _) (fun h => h.1 HK1.out)]
       have hco : comeR x fountain t (listR m L fountain t (idxV m.vessels x.fr)) = [] := by unfold comeR; rw [if_neg (fun h => HF.out h.2), if_neg (by rw [HK1.out]; decide)]
       rw [hco, ite_self]
       simp only [List.append_nil]
       by_cases e : i = qt
       ·subst e
        rw [updV_self]
        exact HS.out.2.2.1 i hi
       ·rw [updV_other e]
        exact HS.out.2.2.1 i hi
      ·simp [intOf] <;> omega
    ·
     have hk2 : x.kind = 2 := by rcases HKD.out with h | h | h | h; exact absurd h hk1; exact h; exact absurd h hk3; exact absurd h hk4
     have h1b : (x.kind == 1) = false := by rw [hk2]; rfl
     have h2b : (x.kind == 2) = true := by rw [hk2]; rfl
     have h4b : (x.kind == 4) = false := by rw [hk2]; rfl
     have h1c : (x.kind != 1) = true := by rw [hk2]; rfl
     have h3c : x.kind < 3 := by omega
     have HK2 := lh hk2
     have hjt0 : 0 ≤ jt := by rw [← HJT.out]; exact HAT.out.ok.to_ (.inr HK2.out)
     have hjt4 : jt < 4 := by rw [← HJT.out]; exact idxV_small HV4.out
     obtain ⟨qt, hqt⟩ : ∃ qt : Nat, jt = (qt : Int) := ⟨jt.toNat, by omega⟩
     subst hqt
     have hqt4 : qt < 4 := by omega
     have hjf0 : 0 ≤ jf := by rw [← HJF.out]; exact HAT.out.ok.from_ (by rw [HK2.out]; decide)
     have hjf4 : jf < 4 := by rw [← HJF.out]; exact idxV_small HV4.out
     obtain ⟨qf, hqf⟩ : ∃ qf : Nat, jf = (qf : Int) := ⟨jf.toNat, by omega⟩
     subst hqf
     have hq4 : qf < 4 := by omega
     clear hk1 hk2 hk3 hk4
     have y0 := HGX.out.cell 0
     have y1 := HGX.out.cell 1
     have y2 := HGX.out.cell 2
     have y3 := HGX.out.cell 3
     have yl := HGX.out.lt
     have hfl : (F qf).xs.length ≤ 4096 := by rw [← List.length_map (f := Wy.l), HS.out.2.2.1 qf hq4]; exact listR_small (by omega)
     obtain ⟨nf, hnf⟩ : ∃ nf, (F qf).xs.length = nf := ⟨_, rfl⟩
     have HNF := lh hnf
     have z0 := HW5.out.cell (q := qf) hq4
     have zl := HW5.out.blk.lt
     unfold Vw.val at z0
     rw [hnf] at z0 hfl
     clear hnf
     gi_wp2
     clear z0 zl
     clear y0 y1 y2 y3 yl
     refine wpIn_loop (fun a W11 => ∃ (j : Nat) (CA : Option Addr) (cn cc : Nat), Hid (Er1 fun (ys : List Wy) => j ≤ nf ∧ ys.length = cn ∧ ys.map Wy.l = (((F qf).xs.map Wy.l).take j).map (fun l => l ++ [(t : Int) + 1]) ∧ VwOk W10.heap.size W11 ⟨CA, cc, ys⟩ ∧ Below W10.heap.size W10 W11) ∧ FrRwB (.int .i64 (k : Int)) (.int .i64 fountain) (.int .i64 4095) (.pointer (some ⟨gm, 0, none⟩)) (.slice Ap np cp) (.int .i64 (q : Int)) (.pointer (some ⟨ga, 0, none⟩)) (.int .i64 (t : Int)) (.pointer (some ⟨gx, 0, none⟩)) (.int .i64 (qf : Int)) (.int .i64 (qt : Int)) (.slice CA cn cc) (.slice (F qf).A nf (F qf).c) (.int .i64 (nf : Int)) (.int .i64 (j : Int)) a) (fun a _ => nf - (intOf (a.tmps.getD 82 undef)).toNat) ?_ ?_
     ·exact ⟨0, none, 0, 0, lh ⟨[], Nat.zero_le _, rfl, rfl, VwOk.none_, Below.refl _ _⟩, by constructor⟩
     rintro a W11 ⟨j, CA, cn, cc, HJ, ha⟩
     cases ha
     obtain ⟨ys, hs9⟩ := HJ.out
     replace HJ := lh hs9
     clear hs9
     have hga10 : ga + 1 ≤ W10.heap.size := by have := HW5.out.blk.lt; omega
     by_cases hjn : j < nf
     ·
      have hjl : j < (F qf).xs.length := by rw [HNF.out]; exact hjn
      obtain ⟨wy, hwy⟩ : ∃ wy, (F qf).xs[j]? = some wy := ⟨_, List.getElem?_eq_getElem hjl⟩
      have HWX := lh hwy
      have HVF := lh ((HW5.out.ok qf hq4).below HJ.out.2.2.2.2)
      have HWY := lh (HVF.out.all wy (List.mem_of_getElem? hwy))
      have hwl : wy.l.length = wy.n ∧ wy.n ≤ 12 := by
       have h1 := HWY.out.1.1.len
       have h2 := listR_len (m := m) (A := L) (f := fountain) (t := t) (v := (qf : Int)) wy.l (by rw [← HS.out.2.2.1 qf hq4]; exact List.mem_map.2 ⟨wy, List.mem_of_getElem? hwy, rfl⟩)
       omega
      obtain ⟨bf, of_, hAf, hbf, hcf⟩ := (HVF.out.own.reads (Nat.le_refl _)).plain (by rw [List.length_map]; omega)
      have cv : W11.cell? ⟨bf, of_ + j, none⟩ = some wy.val := hcf j _ (by rw [List.getElem?_map, hwy]; rfl)
      have HAF := lh hAf
      have hs11 := HJ.out.2.2.2.2.size
      clear hwy hcf
      rw [hAf]
      clear hAf
      gi_upto_region 17 with fail
      rw [← HAF.out]
      clear cv hbf
      gi_wp2_with (first | (gi_at_builtin; refine wpListIn_append_fresh rfl (.tmp 87) (.tmp 88) (by rfl) elem_int rfl (World.ownsRow_made W11 #[] 0 (Nat.le_refl _) (Nat.zero_le _) (by simp)) rfl (Reads.alloc HWY.out.1.1 (Nat.le_refl _) _) (ints_one wy.l) (by unfold maxLen; omega) (by omega) (by simp) ?_) | fail)
      rintro A8 c8 V8 hown8 hb8 hA8
      have hbe8 : Below W11.heap.size W11 V8 := ((Below.refl _ _).alloc (Nat.le_refl _) _).trans (hb8.mono (by simp))
      have HO8 := lh hown8
      have HB8 := lh hbe8
      have hs8 := hbe8.size
      clear hown8 hb8 hA8 hbe8
      have hin : IntsAt (V8.alloc (.cells #[.int .i64 ((t : Int) + 1)] 3)) (V8.heap.size + 1) (some ⟨V8.heap.size, 0, none⟩) 1 [(t : Int) + 1] := IntsAt.new V8 3 [(t : Int) + 1] (V8.heap.size + 1) (by omega)
      have HIN := lh hin
      clear hin
      gi_wp2_with (first | (gi_at_builtin; refine wpListIn_append_any rfl (.tmp 89) (.tmp 92) (by rfl) elem_int rfl (HO8.out.alloc _) rfl HIN.out (ints_one [(t : Int) + 1]) (by unfold maxLen; omega) (by omega) (by simp; omega) ?_) | fail)
      rintro A7 c7 V9 hown9 hg9 hA9
      have hbe9 : Below W11.heap.size W11 V9 := (HB8.out.alloc hs8 _).grown hg9 (by simp; omega) (fun k e => (own_row HO8.out k e).1)
      have hown9b : Own V9 W11.heap.size 3 1 A7 (wy.n + 1) c7 ((wy.l ++ [(t : Int) + 1]).map (Value.int .i64)) := by rw [List.map_append]; exact hown9
      have HYW := lh (show Wy.own W10.heap.size ⟨wy.l ++ [(t : Int) + 1], A7, wy.n + 1, c7⟩ V9 from ⟨⟨hown9b.reads (Nat.le_refl _), by dsimp only; omega⟩, Safe.own hown9b hs11⟩)
      have HB9 := lh hbe9
      have hs9 := hbe9.size
      clear hown9 hown9b hg9 hA9 HO8 HB8 HIN hbe9
      have hbx : Below V9.heap.size V9 (V9.alloc (.cells #[.slice A7 (wy.n + 1) c7] 57)) := (Below.refl _ _).alloc (Nat.le_refl _) _
      have HOB := lh (Blk.new V9 57 #[.slice A7 (wy.n + 1) c7])
      have HCX := lh ((HJ.out.2.2.2.1.below HB9.out).below hbx)
      have HYX := lh (HYW.out.below hbx)
      have HBX := lh (HB9.out.trans (hbx.mono hs9))
      have hys := HJ.out.2.1
      have hyl : cn ≤ 4096 := by
       have h1 := congrArg List.length HJ.out.2.2.1
       simp only [List.length_map, List.length_take] at h1
       omega
      clear hbx
      subst hys
      have HCW := lh (show Own (V9.alloc (.cells #[.slice A7 (wy.n + 1) c7] 57)) W10.heap.size 57 1 CA ys.length cc (ys.map Wy.val) from HCX.out.own)
      gi_wp2_with (first | (gi_at_builtin; refine wpListIn_append_any rfl (.tmp 86) (.tmp 94) (by rfl) elem_roww rfl HCW.out rfl (one_val (x := .slice A7 (wy.n + 1) c7) HOB.out.lt (HOB.out.cell 0)) (fun u hu => by rw [List.mem_singleton.1 hu]; rfl) (by unfold maxLen; omega) (by omega) (by simp; omega) ?_) | fail)
      rintro A' c' Wd hown hg hA
      have hown2 : Own Wd W10.heap.size 57 1 A' (ys.length + 1) c' (ys.map Wy.val ++ [(⟨wy.l ++ [(t : Int) + 1], A7, wy.n + 1, c7⟩ : Wy)].map Wy.val) := by first | exact hown | simpa using hown
      have HCO := lh (VwOk.app1 (by omega) HCX.out (ys := [⟨wy.l ++ [(t : Int) + 1], A7, wy.n + 1, c7⟩]) (fun y hy => by rw [List.mem_singleton.1 hy]; exact HYX.out) rfl hown2 hg (by simp; omega))
      have HBD := lh (show Below W10.heap.size W10 Wd from (HJ.out.2.2.2.2.trans (HBX.out.mono hs11)).grown hg (by simp; omega) (fun k e => (own_row HCW.out k e).1))
      clear hown hown2 hg hA HCX HCW HYX HBX HOB HYW HB9
      rw [HAF.out]
      gi_wp2
      refine ⟨⟨j + 1, A', ys.length + 1, c', lh ⟨ys ++ [⟨wy.l ++ [(t : Int) + 1], A7, wy.n + 1, c7⟩], by omega, by simp, ?_, HCO.out, HBD.out⟩, ?_⟩, ?_⟩
      ·have e1 : (((F qf).xs.map Wy.l).map fun l => l ++ [(t : Int) + 1]).take (j + 1) = (((F qf).xs.map Wy.l).take j).map (fun l => l ++ [(t : Int) + 1]) ++ [wy.l ++ [(t : Int) + 1]] := by
        rw [← List.map_take, List.take_add_one, List.getElem?_map, HWX.out, List.map_append]
        rfl
       rw [List.map_append, HJ.out.2.2.1, ← List.map_map, e1]
       rfl
      ·rw [← HAF.out, show ((j + 1 : Nat) : Int) = (j : Int) + 1 from by omega]
       constructor
      ·simp [intOf] <;> omega
     ·
      obtain rfl : j = nf := by have := HJ.out.1; omega
      have hbj := HJ.out.2.2.2.2
      obtain rfl := HJ.out.2.1
      have HCO := lh (HJ.out.2.2.2.1.mono hga10)
      have HCM : Hid (ys.map Wy.l = comeR x fountain t (listR m L fountain t (idxV m.vessels x.fr))) := lh (by
       rw [HJ.out.2.2.1, HJF.out, ← HS.out.2.2.1 qf hq4, List.take_of_length_le (by rw [List.length_map, HNF.out]; exact Nat.le_refl _)]
       unfold comeR
       rw [if_neg (fun h => absurd (HK2.out.symm.trans h.1) (by decide)), if_pos HK2.out])
      have hyl : ys.length ≤ 4096 := by
       have h1 := congrArg List.length HJ.out.2.2.1
       simp only [List.length_map, List.length_take] at h1
       omega
      clear HJ hjn
      replace HRW5 := lh (HRW5.out.below (hbj.mono (Nat.le_of_lt HW5.out.blk.lt)))
      replace HK5 := lh (HK5.out.trans (Kp3.of_below hbj (by have h1 := HK5.out.bel.size; have h2 := HW5.out.blk.lt; omega)))
      replace HW5 := lh (HW5.out.below hbj)
      replace HGX := lh (HGX.out.below hbj HGX.out.lt)
      replace HMW5 := lh (HMW5.out.below hbj HMW5.out.lt)
      replace HBW5 := lh (HBW5.out.trans (hbj.mono HBW5.out.size))
      clear hbj
      have y0 := HGX.out.cell 0
      have y1 := HGX.out.cell 1
      have y2 := HGX.out.cell 2
      have y3 := HGX.out.cell 3
      have yl := HGX.out.lt
      gi_upto_region 19 with fail
      clear y0 y1 y2 y3 yl
      obtain ⟨bp, op_, all9, p1, p2, p3, p4⟩ := recs_cell heldC_k (by omega) HRW5.out (i := t) (by have h1 := recs_n heldC_k (by omega) HRW5.out; have h2 := (List.getElem?_eq_some_iff.1 HALL.out).1; omega)
      obtain rfl : all = all9 := Option.some.inj (HALL.out.symm.trans p3)
      have HPA := lh p1
      have hpl : bp < W11.heap.size := by have h1 := HK5.out.bel.size; have h2 := HW5.out.blk.lt; omega
      have HPC : Hid (bp < W11.heap.size ∧ W11.cell? ⟨bp, op_ + t * 4 + qf, none⟩ = some (.int .i64 (heldAt all (qf : Int)))) := lh ⟨hpl, p4 qf _ (heldC_l all hq4)⟩
      have hnp : t < np := by have h1 := recs_n heldC_k (by omega) HRW5.out; have h2 := (List.getElem?_eq_some_iff.1 HALL.out).1; omega
      have hnp2 : np ≤ 13 := by have h1 := recs_n heldC_k (by omega) HRW5.out; have h2 := HTOK.out.long; have h3 := HA12.out; dsimp only at h2; omega
      rw [p1]
      clear p1 p2 p3 p4 hpl
      by_cases hd : x.drops = heldAt all (qf : Int)
      ·
       have hdb : (x.drops == heldAt all (qf : Int)) = true := by simpa using hd
       have HD := lh hd
       clear hd
       refine wpIn_flow_old [] [true, true, true, true, true, true, true, true, true, true, true, true, true, true, true, true, true, true, true] [] (by kernel_rfl) (by kernel_rfl) (by kernel_rfl) (below_drewN (Below.refl _ _) 1) ?_
       refine wpFlow_nil (A := ?AW8)  ?hw8 ?_
       case hw8 =>
        rintro σ hσ of hof hcl
        have HOF := lh hof
        have HCL := lh hcl
        clear hof hcl
        have y0 : ∀ z, (of z).cell? ⟨gx, 0, none⟩ = some (.int .i64 x.kind) := fun z => (HGX.out.below (HOF.out z) HGX.out.lt).cell 0
        have y3 : ∀ z, (of z).cell? ⟨gx, 3, none⟩ = some (.int .i64 x.drops) := fun z => (HGX.out.below (HOF.out z) HGX.out.lt).cell 3
        have ch : ∀ z, (of z).cell? ⟨bp, op_ + t * 4 + qf, none⟩ = some (.int .i64 (heldAt all (qf : Int))) := fun z => ((HOF.out z).cell (p := ⟨bp, op_ + t * 4 + qf, none⟩) HPC.out.1).trans HPC.out.2
        have hnp_ := hnp
        have hfw := hfT
        simp only [pickB]
        iterate 19 (gi_big_quiet_step (fail))
        refine wpQuietIn_nil ?_
        exact rfl
       intro W20 hW
       replace HCO := lh (HCO.out.below hW)
       replace HRW5 := lh (HRW5.out.below (hW.mono (Nat.le_of_lt HW5.out.blk.lt)))
       replace HK5 := lh (HK5.out.trans (Kp3.of_below hW (by have h1 := HK5.out.bel.size; have h2 := HW5.out.blk.lt; omega)))
       replace HW5 := lh (HW5.out.below hW)
       replace HGX := lh (HGX.out.below hW HGX.out.lt)
       replace HMW5 := lh (HMW5.out.below hW HMW5.out.lt)
       replace HBW5 := lh (HBW5.out.trans (hW.mono HBW5.out.size))
       clear hW
       simp only [pickB]
       refine wpT_nil ?_
       rw [← HPA.out]
       have y0 := HGX.out.cell 0
       have y1 := HGX.out.cell 1
       have y2 := HGX.out.cell 2
       have y3 := HGX.out.cell 3
       have yl := HGX.out.lt
       have z0 := HW5.out.cell (q := qf) hq4
       have z1 := HW5.out.blk.frozen qf
       have zl := HW5.out.blk.lt
       gi_upto_region 21 with fail
       clear z0 z1 zl
       clear y0 y1 y2 y3 yl
       have HKs := lh (Kp3.setCell (g := ga) W20 qf (.slice none 0 0))
       replace HW5 := lh (HW5.out.clear (q := qf) hq4)
       replace HK5 := lh (HK5.out.trans HKs.out)
       replace HGX := lh (HGX.out.far (p := ⟨ga, qf, none⟩) (by have := HGG.out; dsimp only; omega) (.slice none 0 0))
       clear HKs
       replace HCO := lh (HCO.out.setCell (q := qf) (.slice none 0 0))
       generalize (W20.setCell ⟨ga, qf, none⟩ (.slice none 0 0)) = W21 at *
       obtain ⟨F2, hF2⟩ : ∃ F2, updV F qf ⟨none, 0, []⟩ = F2 := ⟨_, rfl⟩
       have HFL : Hid (∀ i : Nat, i < 4 → (F2 i).xs.map Wy.l = if x.kind ≠ 1 ∧ idxV m.vessels x.fr = (i : Int) ∧ (x.kind = 4 ∨ x.drops = heldAt all (idxV m.vessels x.fr)) then [] else listR m L fountain t i) := lh (fun i hi => by
        rw [← hF2, HJF.out]
        by_cases e : i = qf
        ·subst e
         rw [updV_self, if_pos ⟨by rw [HK2.out]; decide, rfl, .inr HD.out⟩]
         rfl
        ·rw [updV_other e, if_neg (fun h => e (by have := h.2.1; omega))]
         exact HS.out.2.2.1 i hi)
       rw [hF2] at HW5
       clear hF2
       have y0 := HGX.out.cell 0
       have y1 := HGX.out.cell 1
       have y2 := HGX.out.cell 2
       have y3 := HGX.out.cell 3
       have yl := HGX.out.lt
       have z0 := HW5.out.cell (q := qt) hqt4
       have z1 := HW5.out.blk.frozen qt
       have zl := HW5.out.blk.lt
       have hfl : (F2 qt).xs.length ≤ 4096 := by
        rw [← List.length_map (f := Wy.l), HFL.out qt hqt4]
        split
        ·exact Nat.zero_le _
        ·exact listR_small (by omega)
       gi_wp2_with (first | (gi_at_builtin; refine wpListIn_append_any rfl (.tmp 124) (.tmp 125) (by rfl) elem_roww rfl (HW5.out.ok qt hqt4).own rfl (HCO.out.own.reads (Nat.le_refl _)) (fun u hu => by obtain ⟨y, _, rfl⟩ := List.mem_map.1 hu; rfl) (by unfold maxLen; omega) (by omega) zl ?_) | fail)
       rintro A9 c9 Wp hown hg hA
       have hown2 : Own Wp (ga + 1) 57 1 A9 ((F2 qt).xs.length + ys.length) c9 ((F2 qt).xs.map Wy.val ++ (ys : List Wy).map Wy.val) := by first | exact hown | simpa using hown
       have HPUT := lh (HW5.out.put (q := qt) (n := ys.length) hqt4 (ys := ys) HCO.out.all rfl hown2 hg hA)
       have HKP := lh ((Kp3.row (HW5.out.ok qt hqt4) hg HW5.out.blk.lt).trans (Kp3.setCell Wp qt (.slice A9 ((F2 qt).xs.length + ys.length) c9)))
       have hbp := HW5.out.blk.grown hg (fun e => by have := ((HW5.out.ok qt hqt4).le e.symm).1; omega)
       have z2 : Wp.cell? ⟨ga, qt, none⟩ = some (F2 qt).val := by rw [hbp.cell qt, vcells_get F2 hqt4]
       have z3 := hbp.frozen qt
       have z4 := hbp.lt
       clear z0 z1 zl hown hown2 hg hA hbp
       clear y0 y1 y2 y3 yl
       gi_wp2
       clear z2 z3 z4
       replace HW5 := HPUT
       replace HK5 := lh (HK5.out.trans HKP.out)
       clear HPUT HKP
       refine ⟨⟨t + 1, lh ⟨updV F2 qt ⟨A9, c9, (F2 qt).xs ++ ys⟩, hlt, HW5.out, fun i hi => ?_, HK5.out⟩, by rw [show ((t + 1 : Nat) : Int) = (t : Int) + 1 from by omega]; constructor⟩, ?_⟩
       ·rw [listR_at HX.out HALL.out]
        rw [HJT.out]
        by_cases e : i = qt
        ·subst e
         rw [updV_self, if_pos (c := x.kind < 3 ∧ _) ⟨by rw [HK2.out]; decide, rfl⟩, List.map_append, HCM.out, HFL.out i hi]
        ·rw [updV_other e, if_neg (c := x.kind < 3 ∧ _) (fun h => e (by have := h.2; omega)), List.append_nil]
         exact HFL.out i hi
       ·simp [intOf] <;> omega
      ·
       have hdb : (x.drops == heldAt all (qf : Int)) = false := by simpa using hd
       have HD := lh hd
       clear hd
       refine wpIn_flow_old [] [true, true, true, true, true, true, true, true, true, true, true, true, true, true, true, true, true, true, true] [] (by kernel_rfl) (by kernel_rfl) (by kernel_rfl) (below_drewN (Below.refl _ _) 1) ?_
       refine wpFlow_nil (A := ?AW9)  ?hw9 ?_
       case hw9 =>
        rintro σ hσ of hof hcl
        have HOF := lh hof
        have HCL := lh hcl
        clear hof hcl
        have y0 : ∀ z, (of z).cell? ⟨gx, 0, none⟩ = some (.int .i64 x.kind) := fun z => (HGX.out.below (HOF.out z) HGX.out.lt).cell 0
        have y3 : ∀ z, (of z).cell? ⟨gx, 3, none⟩ = some (.int .i64 x.drops) := fun z => (HGX.out.below (HOF.out z) HGX.out.lt).cell 3
        have ch : ∀ z, (of z).cell? ⟨bp, op_ + t * 4 + qf, none⟩ = some (.int .i64 (heldAt all (qf : Int))) := fun z => ((HOF.out z).cell (p := ⟨bp, op_ + t * 4 + qf, none⟩) HPC.out.1).trans HPC.out.2
        have hnp_ := hnp
        have hfw := hfT
        simp only [pickB]
        iterate 19 (gi_big_quiet_step (fail))
        refine wpQuietIn_nil ?_
        exact rfl
       intro W20 hW
       replace HCO := lh (HCO.out.below hW)
       replace HRW5 := lh (HRW5.out.below (hW.mono (Nat.le_of_lt HW5.out.blk.lt)))
       replace HK5 := lh (HK5.out.trans (Kp3.of_below hW (by have h1 := HK5.out.bel.size; have h2 := HW5.out.blk.lt; omega)))
       replace HW5 := lh (HW5.out.below hW)
       replace HGX := lh (HGX.out.below hW HGX.out.lt)
       replace HMW5 := lh (HMW5.out.below hW HMW5.out.lt)
       replace HBW5 := lh (HBW5.out.trans (hW.mono HBW5.out.size))
       clear hW
       simp only [pickB]
       refine wpT_nil ?_
       rw [← HPA.out]
       obtain ⟨F2, hF2⟩ : ∃ F2, F = F2 := ⟨_, rfl⟩
       have HFL : Hid (∀ i : Nat, i < 4 → (F2 i).xs.map Wy.l = if x.kind ≠ 1 ∧ idxV m.vessels x.fr = (i : Int) ∧ (x.kind = 4 ∨ x.drops = heldAt all (idxV m.vessels x.fr)) then [] else listR m L fountain t i) := lh (fun i hi => by
        rw [← hF2, HJF.out, if_neg (fun h => by
         rcases h.2.2 with h9 | h9
         ·rw [HK2.out] at h9; exact absurd h9 (by decide)
         ·exact HD.out h9)]
        exact HS.out.2.2.1 i hi)
       rw [hF2] at HW5
       clear hF2
       have y0 := HGX.out.cell 0
       have y1 := HGX.out.cell 1
       have y2 := HGX.out.cell 2
       have y3 := HGX.out.cell 3
       have yl := HGX.out.lt
       have z0 := HW5.out.cell (q := qt) hqt4
       have z1 := HW5.out.blk.frozen qt
       have zl := HW5.out.blk.lt
       have hfl : (F2 qt).xs.length ≤ 4096 := by
        rw [← List.length_map (f := Wy.l), HFL.out qt hqt4]
        split
        ·exact Nat.zero_le _
        ·exact listR_small (by omega)
       gi_wp2_with (first | (gi_at_builtin; refine wpListIn_append_any rfl (.tmp 124) (.tmp 125) (by rfl) elem_roww rfl (HW5.out.ok qt hqt4).own rfl (HCO.out.own.reads (Nat.le_refl _)) (fun u hu => by obtain ⟨y, _, rfl⟩ := List.mem_map.1 hu; rfl) (by unfold maxLen; omega) (by omega) zl ?_) | fail)
       rintro A9 c9 Wp hown hg hA
       have hown2 : Own Wp (ga + 1) 57 1 A9 ((F2 qt).xs.length + ys.length) c9 ((F2 qt).xs.map Wy.val ++ (ys : List Wy).map Wy.val) := by first | exact hown | simpa using hown
       have HPUT := lh (HW5.out.put (q := qt) (n := ys.length) hqt4 (ys := ys) HCO.out.all rfl hown2 hg hA)
       have HKP := lh ((Kp3.row (HW5.out.ok qt hqt4) hg HW5.out.blk.lt).trans (Kp3.setCell Wp qt (.slice A9 ((F2 qt).xs.length + ys.length) c9)))
       have hbp := HW5.out.blk.grown hg (fun e => by have := ((HW5.out.ok qt hqt4).le e.symm).1; omega)
       have z2 : Wp.cell? ⟨ga, qt, none⟩ = some (F2 qt).val := by rw [hbp.cell qt, vcells_get F2 hqt4]
       have z3 := hbp.frozen qt
       have z4 := hbp.lt
       clear z0 z1 zl hown hown2 hg hA hbp
       clear y0 y1 y2 y3 yl
       gi_wp2
       clear z2 z3 z4
       replace HW5 := HPUT
       replace HK5 := lh (HK5.out.trans HKP.out)
       clear HPUT HKP
       refine ⟨⟨t + 1, lh ⟨updV F2 qt ⟨A9, c9, (F2 qt).xs ++ ys⟩, hlt, HW5.out, fun i hi => ?_, HK5.out⟩, by rw [show ((t + 1 : Nat) : Int) = (t : Int) + 1 from by omega]; constructor⟩, ?_⟩
       ·rw [listR_at HX.out HALL.out]
        rw [HJT.out]
        by_cases e : i = qt
        ·subst e
         rw [updV_self, if_pos (c := x.kind < 3 ∧ _) ⟨by rw [HK2.out]; decide, rfl⟩, List.map_append, HCM.out, HFL.out i hi]
        ·rw [updV_other e, if_neg (c := x.kind < 3 ∧ _) (fun h => e (by have := h.2; omega)), List.append_nil]
         exact HFL.out i hi
       ·simp [intOf] <;> omega
 ·
  obtain rfl : t = k := by have := HS.out.1; omega
  have hq4 := HQ.out.2
  have z0 := HS.out.2.1.cell hq4
  have zl := HS.out.2.1.blk.lt
  gi_wp2
  refine bodyPost_ret (v := .slice (F q).A (F q).xs.length (F q).c) (by simp [results, Try.results69, go_sem]) rfl ?_
  exact ⟨ga + 1, (F q).A, (F q).c, (F q).xs, rfl, HS.out.2.2.1 q HQ.out.2, (HS.out.2.1.ok q HQ.out.2).own, (HS.out.2.1.ok q HQ.out.2).all, by have := HSZ.out; omega, HB4.out.trans (HS.out.2.2.2.bel.mono HSZ.out)⟩
end
section
open Go.RowKit Go.Shelf
attribute [local go_sem] Oper.semAt_some
inductive FrBef (v0 v1 v5 : Value) : Act → Prop
 | mk (u2 u3 u4 u6 u7 u8 u9 u10 u11 u12 u13 u14 u15 u16 u17 u18 u19 u20 u21 u22 u23 u24 u25 u26 u27 u28 u29 u30 u31 u32 u33 u34 u35 u36 u37 u38 u39 : Value) : FrBef v0 v1 v5 { tmps := #[v0, v1, u2, u3, u4, v5, u6, u7, u8, u9, u10, u11, u12, u13, u14, u15, u16, u17, u18, u19, u20, u21, u22, u23, u24, u25, u26, u27, u28, u29, u30, u31, u32, u33, u34, u35, u36, u37, u38, u39], defers := [] }
set_option maxRecDepth 100000 in
set_option maxHeartbeats 8000000 in
theorem rbefore_in (A : Option Addr) (n c : Nat) (a : List Int) (B : Option Addr) (m d : Nat) (b : List Int) (w : World) (ha : IntsAt w w.heap.size A n a) (hb : IntsAt w w.heap.size B m b) (hn : n ≤ 1000) (hm : m ≤ 1000) :
  CallsIn Fence.wide 9 Try.prog 70 #[.slice A n c, .slice B m d] w fun e w' => e = .returned (.bool (decide (cmpS a b < 0))) ∧ Below w.heap.size w w' := by
 have la : a.length = n := ha.len
 have lb : b.length = m := hb.len
 have HA := lh ha
 have HB := lh hb
 have hsp : cmpS a b = if n < m then -1 else if m < n then 1 else cmpL a b := by unfold cmpS; rw [la, lb]
 obtain ⟨cs, hcs⟩ : ∃ cs, cmpS a b = cs := ⟨_, rfl⟩
 rw [hcs] at hsp ⊢
 have HSP := lh hsp
 have LA := lh la
 have LB := lh lb
 clear ha hb hsp hcs la lb
 refine callsIn_of_wp Try.func70 rfl trivial ?_ rfl
 simp only [Try.ntmps70, List.size_toArray, List.length_cons, List.length_nil, Nat.reduceAdd, Nat.reduceSub, Array.replicate_succ, Array.replicate_zero, List.push_toArray, List.append_toArray, List.nil_append, List.cons_append]
 by_cases hnm : n = m
 ·subst hnm
  gi_wp2
  refine wpIn_loop (fun a' W => ∃ (k : Nat), Hid (k ≤ n ∧ cmpL a b = cmpL (a.drop k) (b.drop k) ∧ Below w.heap.size w W) ∧ FrBef (.slice A n c) (.slice B n d) (.int .i64 (k : Int)) a') (fun a' _ => n - (intOf (a'.tmps.getD 5 undef)).toNat) ?_ ?_
  ·exact ⟨0, lh ⟨Nat.zero_le _, by simp, Below.refl _ _⟩, by constructor⟩
  rintro a' W ⟨k, HK, hf⟩
  cases hf
  by_cases hlt : k < n
  ·obtain ⟨b1, o1, x, hA1, h1, hx, cx⟩ := (HA.out.below HK.out.2.2).cell hlt
   obtain ⟨b2, o2, y, hB1, h2, hy, cy⟩ := (HB.out.below HK.out.2.2).cell hlt
   have HX := lh hx
   have HY := lh hy
   have hsz := HK.out.2.2.size
   have HA1 := lh hA1
   have HB1 := lh hB1
   rw [hA1, hB1]
   clear hx hy hA1 hB1
   by_cases hxy : x = y
   ·subst hxy
    gi_wp2
    gi_region
    all_goals
     gi_wp2
     refine ⟨⟨k + 1, lh ⟨hlt, by rw [HK.out.2.1, cmpL_drop HX.out HY.out, if_neg (by omega), if_neg (by omega)], below_drewN HK.out.2.2 1⟩, by rw [show ((k + 1 : Nat) : Int) = (k : Int) + 1 from by omega]; constructor⟩, ?_⟩
     simp [intOf] <;> omega
   ·have hxyb : (x != y) = true := by simpa using hxy
    have HXY := lh hxy
    clear hxy
    gi_wp2
    gi_region
    all_goals
     gi_wp2
     gi_region
     all_goals
      gi_wp2
      refine bodyPost_ret (v := .bool (decide (x < y))) (by simp [results, Try.results70, go_sem]) rfl ?_
      refine ⟨?_, below_drewN (below_drewN HK.out.2.2 1) 1⟩
      rw [HSP.out, if_neg (by omega), if_neg (by omega), HK.out.2.1, cmpL_drop HX.out HY.out]
      have hxy := HXY.out
      by_cases h9 : x < y
      ·rw [if_pos h9]; simp [h9]
      ·rw [if_neg h9, if_pos (by omega)]; simp [h9]
  ·obtain rfl : k = n := by have := HK.out.1; omega
   gi_wp2
   refine bodyPost_ret (v := .bool false) (by simp [results, Try.results70, go_sem]) rfl ?_
   refine ⟨?_, HK.out.2.2⟩
   rw [HSP.out, if_neg (by omega), if_neg (by omega), HK.out.2.1, List.drop_eq_nil_of_le (by rw [LA.out]; exact Nat.le_refl _), List.drop_eq_nil_of_le (by rw [LB.out]; exact Nat.le_refl _)]
   rfl
 ·have hb : ((n : Int) != (m : Int)) = true := by simpa using (show ¬ (n : Int) = (m : Int) by omega)
  gi_wp2
  refine bodyPost_ret (v := .bool (decide (n < m))) (by simp [results, Try.results70, go_sem]) rfl ?_
  refine ⟨?_, Below.refl _ _⟩
  rw [HSP.out]
  by_cases h9 : n < m
  ·rw [if_pos h9]; simp [h9]
  ·rw [if_neg h9, if_pos (by omega)]; simp [h9]
end
section
open Go.RowKit Go.Shelf
attribute [local go_sem] Oper.semAt_some
structure Ew1 {α : Type} (P : α → Prop) : Prop where
 ex : ∃ a, P a
def waysG (m : Mix) (A : List Held) (f s : Int) (n : Nat) (i : Nat) : List (List Int) := match m.acts[i]? with
 | some x => if x.kind = 1 ∧ x.fr = f then folP m A s (n - (i + 1)) (i + 1) (idxV m.vessels x.to) [(i : Int) + 1] else []
 | none => []
theorem waysP_g (m : Mix) (A : List Held) (f s : Int) (n : Nat) : waysP m A f s n = (List.range n).flatMap (waysG m A f s n) := rfl
theorem rng_len {α : Type} (g : Nat → List α) {i n : Nat} (h : i ≤ n) : ((List.range i).flatMap g).length ≤ ((List.range n).flatMap g).length := by
 induction n with
 | zero =>
  obtain rfl : i = 0 := by omega
  exact Nat.le_refl _
 | succ n ih =>
  by_cases h' : i = n + 1
  ·subst h'
   exact Nat.le_refl _
  ·have h2 := ih (by omega)
   rw [List.range_succ, List.flatMap_append, List.length_append]
   omega
inductive FrWays (v0 v1 v2 v3 v4 v5 v16 v17 v18 : Value) : Act → Prop
 | mk (u6 u7 u8 u9 u10 u11 u12 u13 u14 u15 u19 u20 u21 u22 u23 u24 u25 u26 u27 u28 u29 u30 u31 u32 u33 u34 u35 u36 u37 u38 u39 u40 u41 u42 u43 u44 u45 u46 u47 : Value) : FrWays v0 v1 v2 v3 v4 v5 v16 v17 v18 { tmps := #[v0, v1, v2, v3, v4, v5, u6, u7, u8, u9, u10, u11, u12, u13, u14, u15, v16, v17, v18, u19, u20, u21, u22, u23, u24, u25, u26, u27, u28, u29, u30, u31, u32, u33, u34, u35, u36, u37, u38, u39, u40, u41, u42, u43, u44, u45, u46, u47], defers := [] }
set_option maxRecDepth 100000 in
set_option maxHeartbeats 16000000 in
theorem ways1_seq (gs gt gf q k : Nat) (f : Int) (T : Tb) (w w0 : World) (hb : Below w.heap.size w w0) (hok : TbOk T) (hk12 : k ≤ T.m.acts.length) (hca : T.na ≤ T.ca ∧ T.ca ≤ maxLen)
  (ht : TbAt w T) (hs : Blk w gs 118 #[.int .i64 (q : Int), .int .i64 (k : Int)]) (hgt : Blk w gt 82 #[.pointer (some ⟨T.g, 0, none⟩)]) (hgf : Blk w gf 3 #[.int .i64 f]) :
  SeqAtN Fence.wide 8 Try.prog 97 #[.pointer (some ⟨gs, 0, none⟩), .pointer (some ⟨gt, 0, none⟩), .pointer (some ⟨gf, 0, none⟩)] (fun x : Wy => #[x.val]) (AtW w.heap.size w0.heap.size) (KpR w.heap.size w0.heap.size)
   (fun xs => xs.map Wy.l = waysP T.m T.L f q k) (waysP T.m T.L f q k).length w0 := by
 intro l' J W hW hJ hY h0
 have hbW : Below w.heap.size w W := hb.trans (hW.mono hb.size)
 have HTL := lh ((TbAt.low ht).kp (n1 := w0.heap.size) (show KpR w.heap.size w0.heap.size w W from KpR.of_below hbW))
 have HSP := lh (hs.below hbW hs.lt)
 have hgs := hs.lt
 have HGT := lh (hgt.below hbW hgt.lt)
 have hgt_ := hgt.lt
 have HGF := lh (hgf.below hbW hgf.lt)
 have hgf_ := hgf.lt
 have HY := lh hY
 have HJ := lh hJ
 have H0 := lh h0
 have hsz : w.heap.size ≤ w0.heap.size := hb.size
 have hsW : w0.heap.size ≤ W.heap.size := hW.size
 have HOK := lh hok
 have HK12 := lh hk12
 have HCA := lh hca
 clear hs hgt hgf hY hJ h0 hb hW hbW hok ht hca
 refine callsIn_of_wp Try.func97 rfl trivial ?_ rfl
 simp only [Try.ntmps97, List.size_toArray, List.length_cons, List.length_nil, Nat.reduceAdd, Nat.reduceSub, Array.replicate_succ, Array.replicate_zero, List.push_toArray, List.append_toArray, List.nil_append, List.cons_append]
 gi_upto_region 3 with fail
 have L0 := Lay.two W 168 #[.func (.yield l') #[] #[]] 169 #[.func (.func 98) #[] #[.pointer (some ⟨gs, 0, none⟩), .pointer (some ⟨W.heap.size, 0, none⟩), .pointer (some ⟨gt, 0, none⟩), .pointer (some ⟨(W.heap.size + 1), 0, none⟩)]]
 generalize ((W.alloc (.cells #[.func (.yield l') #[] #[]] 168)).alloc (.cells #[.func (.func 98) #[] #[.pointer (some ⟨gs, 0, none⟩), .pointer (some ⟨W.heap.size, 0, none⟩), .pointer (some ⟨gt, 0, none⟩), .pointer (some ⟨(W.heap.size + 1), 0, none⟩)]] 169)) = W1 at *
 have HB1 : Hid (Below W.heap.size W W1) := lh L0.1
 have hky := L0.blk 0 rfl
 have hke := L0.blk 1 rfl
 clear L0
 obtain ⟨gy, hgy⟩ : ∃ g, W.heap.size = g := ⟨_, rfl⟩
 rw [hgy] at hky hke ⊢
 obtain ⟨ge, hge⟩ : ∃ g, gy + 1 = g := ⟨_, rfl⟩
 rw [hge] at hke ⊢
 have HP : Hid (WyPl w.heap.size w0.heap.size gs gy gt ge) := lh ⟨hgs, hgt_, by omega, by omega⟩
 have HBX := lh (show WyBox w.heap.size l' gs gy gt ge q k T W1 from ⟨HTL.out.kp (n1 := w0.heap.size) (KpR.of_below HB1.out), HSP.out.below HB1.out HSP.out.lt, HGT.out.below HB1.out HGT.out.lt, hky, hke⟩)
 have HGF1 := lh (HGF.out.below HB1.out HGF.out.lt)
 have HJ1 := lh (HJ.out _ _ _ H0.out HB1.out)
 have HSZ : Hid (w0.heap.size ≤ W1.heap.size) := lh (by have := HB1.out.size; omega)
 have HGY : Hid (w0.heap.size ≤ gy) := lh (by omega)
 clear hky hke hgy hge HTL HSP HGT HGF H0 hgs hgt_ HB1 hsW
 refine wpIn_flow_old [] [true, true, true, true, true, true, true, true, true, true] [] (by kernel_rfl) (by kernel_rfl) (by kernel_rfl) (below_drewN (Below.refl _ _) 1) ?_
 refine wpFlow_nil (A := ?AW1)  ?hw1 ?_
 case hw1 =>
  rintro σ hσ of hof hcl
  have HOF := lh hof
  have HCL := lh hcl
  clear hof hcl
  have c0 : ∀ z, (of z).cell? ⟨gt, 0, none⟩ = some (.pointer (some ⟨T.g, 0, none⟩)) := fun z => (HBX.out.kp HP.out (KpR.of_below (HOF.out z))).bt.cell 0
  have c1 : ∀ z, (of z).cell? ⟨T.g, 2, none⟩ = some (.slice T.Aa T.na T.ca) := fun z => (HBX.out.kp HP.out (KpR.of_below (HOF.out z))).tb.blk.cell 2
  have c5 : ∀ z, (of z).cell? ⟨gs, 1, none⟩ = some (.int .i64 (k : Int)) := fun z => (HBX.out.kp HP.out (KpR.of_below (HOF.out z))).bs.cell 1
  have hkc : k ≤ T.ca := by have h1 := HCA.out; have h2 := (HBX.out.tb.at_ (by have := HSZ.out; omega)).mix.lenA; omega
  have hcm := HCA.out.2
  have hfw := hfT
  simp only [pickB]
  iterate 10 (gi_big_quiet_step (fail))
  refine wpQuietIn_nil ?_
  exact rfl
 intro W2 hW
 replace HBX := lh (HBX.out.kp HP.out (KpR.of_below hW))
 replace HGF1 := lh (HGF1.out.below hW HGF1.out.lt)
 replace HJ1 := lh (HJ.out _ _ _ HJ1.out hW)
 replace HSZ := lh (Nat.le_trans HSZ.out hW.size)
 clear hW
 simp only [pickB]
 refine wpT_nil ?_
 gi_wp2
 refine wpIn_loop (fun a W => ∃ (i : Nat), Hid (Ew1 fun (xs : List Wy) => i ≤ k ∧ xs.map Wy.l = (List.range i).flatMap (waysG T.m T.L f q k) ∧ J xs W ∧ KpR w.heap.size w0.heap.size W2 W) ∧ FrWays (.func (.yield l') #[] #[]) (.pointer (some ⟨gs, 0, none⟩)) (.pointer (some ⟨gt, 0, none⟩)) (.pointer (some ⟨gf, 0, none⟩)) (.pointer (some ⟨gy, 0, none⟩)) (.pointer (some ⟨ge, 0, none⟩)) (.slice T.Aa k T.ca) (.int .i64 (k : Int)) (.int .i64 (i : Int)) a) (fun a _ => k - (intOf (a.tmps.getD 18 undef)).toNat) ?_ ?_
 ·exact ⟨0, lh ⟨[], by omega, rfl, HJ1.out, KpR.of_below (Below.refl _ _)⟩, by constructor⟩
 clear HJ1
 rintro a V0 ⟨i, HS, ha⟩
 cases ha
 obtain ⟨xs, hs9⟩ := HS.out
 replace HS := lh hs9
 clear hs9
 by_cases hlt : i < k
 ·
  have HBV := lh (HBX.out.kp HP.out HS.out.2.2.2)
  have HSV : Hid (w0.heap.size ≤ V0.heap.size) := lh (Nat.le_trans HSZ.out HS.out.2.2.2.1)
  have HTA := lh (HBV.out.tb.at_ (by have := HSV.out; omega))
  have hac : T.m.acts.length ≤ 12 := HOK.out.acts
  obtain ⟨ba, oa, x, e1, e2, e3, e4⟩ := recs_cell act_k (by omega) HTA.out.mix.acts (i := i) (by have h1 := HTA.out.mix.lenA; omega)
  have HAA := lh e1
  have HX := lh e3
  obtain ⟨all, hA⟩ := HOK.out.at_ e3
  have HAT := lh hA
  have k0 : V0.cell? ⟨ba, oa + i * 4, none⟩ = some (.int .i64 x.kind) := e4 0 _ rfl
  have k1 : V0.cell? ⟨ba, oa + i * 4 + 1, none⟩ = some (.int .i64 x.fr) := e4 1 _ rfl
  have k2 : V0.cell? ⟨ba, oa + i * 4 + 2, none⟩ = some (.int .i64 x.to) := e4 2 _ rfl
  have k3 : V0.cell? ⟨ba, oa + i * 4 + 3, none⟩ = some (.int .i64 x.drops) := e4 3 _ rfl
  have hk12' : k ≤ 12 := by have := HK12.out; omega
  rw [e1]
  clear e1 e2 e3 e4 hA
  gi_upto_region 6 with fail
  clear k0 k1 k2 k3
  rw [← HAA.out]
  have HGX := lh (Blk.new V0 67 #[.int .i64 x.kind, .int .i64 x.fr, .int .i64 x.to, .int .i64 x.drops])
  have hbx : Below V0.heap.size V0 (V0.alloc (.cells #[.int .i64 x.kind, .int .i64 x.fr, .int .i64 x.to, .int .i64 x.drops] 67)) := (Below.refl _ _).alloc (Nat.le_refl _) _
  have HBN := lh hbx
  clear hbx
  generalize (V0.alloc (.cells #[.int .i64 x.kind, .int .i64 x.fr, .int .i64 x.to, .int .i64 x.drops] 67)) = W3 at *
  obtain ⟨gx, hgx⟩ : ∃ g, V0.heap.size = g := ⟨_, rfl⟩
  have HGXN : Hid (w0.heap.size ≤ gx) := lh (by have := HSV.out; omega)
  have hK3 : KpR w.heap.size w0.heap.size W2 W3 := HS.out.2.2.2.trans (KpR.of_below HBN.out)
  rw [hgx] at HGX ⊢
  have HK := lh hK3
  have HJ3 := lh (HJ.out _ _ _ HS.out.2.2.1 HBN.out)
  have HB3 := lh (HBX.out.kp HP.out hK3)
  have HS3 : Hid (w0.heap.size ≤ W3.heap.size) := lh (Nat.le_trans HSZ.out hK3.1)
  have HG3 := lh (hK3.blk (.inl hgf_) HGF1.out)
  have HXS := lh HS.out.2.1
  clear hgx hK3 HBN HBV HSV HTA
  have hstep : (List.range (i + 1)).flatMap (waysG T.m T.L f q k) = (List.range i).flatMap (waysG T.m T.L f q k) ++ (if x.kind = 1 ∧ x.fr = f then folP T.m T.L q (k - (i + 1)) (i + 1) (idxV T.m.vessels x.to) [(i : Int) + 1] else []) := by
   rw [List.range_succ, List.flatMap_append]
   congr 1
   simp only [List.flatMap_cons, List.flatMap_nil, List.append_nil]
   unfold waysG
   rw [HX.out]
  have HST := lh hstep
  clear hstep
  by_cases hkd : x.kind = 1
  ·
   by_cases hfr : x.fr = f
   ·
    have hkb : (x.kind == 1) = true := by simpa using hkd
    have hfb : (x.fr == f) = true := by simpa using hfr
    have HKB := lh hkb
    have HFB := lh hfb
    have HKD := lh hkd
    have HFR := lh hfr
    clear hkb hfb hkd hfr
    refine Tr.wpIn_region_tree (G := KpB w.heap.size w0.heap.size W3.heap.size) (V0 := W3) [([], [true, true, true, true, true, true, true, true, true, true, true, true, true, true, false, true, true, false, true, true], [14, 20]), ([14], [], [17, 20]), ([20], [], [14]), ([14, 17], [], [20]), ([14, 20], [], [17]), ([14, 17, 20], [], [21]), ([14, 17, 20, 21], [false, false, false, false, false, false, false, false, false, false, false, false, false, false, false, false, false, false, false, false, false, false, true, true], [])] 5 [] (by kernel_rfl) (by kernel_rfl) (by kernel_rfl) (below_drewN (Below.refl _ _) 1) ?_
    refine Tr.wpTree_two (A := ?AW2) rfl rfl rfl ?hw2 ?_ ?_
    case hw2 =>
     rintro σ hσ of hof hcl
     have HOF := lh hof
     have HCL := lh hcl
     clear hof hcl
     have x0 : ∀ z, (of z).cell? ⟨gx, 0, none⟩ = some (.int .i64 x.kind) := fun z => ((KpB.kp (HOF.out z)).blk (.inr HGXN.out) HGX.out).cell 0
     have x1 : ∀ z, (of z).cell? ⟨gx, 1, none⟩ = some (.int .i64 x.fr) := fun z => ((KpB.kp (HOF.out z)).blk (.inr HGXN.out) HGX.out).cell 1
     have x2 : ∀ z, (of z).cell? ⟨gx, 2, none⟩ = some (.int .i64 x.to) := fun z => ((KpB.kp (HOF.out z)).blk (.inr HGXN.out) HGX.out).cell 2
     have c3 : ∀ z, (of z).cell? ⟨gf, 0, none⟩ = some (.int .i64 f) := fun z => ((KpB.kp (HOF.out z)).blk (.inl hgf_) HG3.out).cell 0
     have c4 : ∀ z, (of z).cell? ⟨gt, 0, none⟩ = some (.pointer (some ⟨T.g, 0, none⟩)) := fun z => (HB3.out.kp HP.out (KpB.kp (HOF.out z))).bt.cell 0
     have c5 : ∀ z, (of z).cell? ⟨ge, 0, none⟩ = some (.func (.func 98) #[] #[.pointer (some ⟨gs, 0, none⟩), .pointer (some ⟨gy, 0, none⟩), .pointer (some ⟨gt, 0, none⟩), .pointer (some ⟨ge, 0, none⟩)]) := fun z => (HB3.out.kp HP.out (KpB.kp (HOF.out z))).be.cell 0
     have hk12' : k ≤ 12 := by have := HK12.out; omega
     have hkb := HKB.out
     have hfb := HFB.out
     have hfw := hfT
     simp only [pickB]
     iterate 18 (gi_big_quiet_step (fail))
     refine wpQuietIn_nil ?_
     exact rfl
    ·
     intro W4 hW
     have HB_W4 := lh (show Below W3.heap.size W3 W4 from hW)
     clear hW
     gi_wp2
     refine ⟨trivial, (callsIn_wide.2 (vessel_any T x.to W4 ((HB3.out.kp HP.out (KpR.of_below HB_W4.out)).tb.at_ (by have h1 := HS3.out; have h2 := HB_W4.out.size; omega)))).mono ?_⟩
     rintro e W5 ⟨rfl, hb⟩
     have HBc := lh hb
     clear hb
     gi_wp2
     first | refine ⟨rfl, KpB.of_below HBc.out, ?_⟩ | refine ⟨trivial, KpB.of_below HBc.out, ?_⟩ | refine ⟨KpB.of_below HBc.out, ?_⟩
     refine Tr.wpTree_two (m := []) rfl rfl rfl Gr.Quietly.none ?_ ?_
     ·
      intro Wp hW
      have HB_Wp := lh (show Below W3.heap.size W3 Wp from HB_W4.out.trans ((HBc.out.trans (hW.mono HBc.out.size)).mono HB_W4.out.size))
      clear hW HBc
      gi_wp2
      first | refine ⟨rfl, KpB.of_below (Below.refl _ _), ?_⟩ | refine ⟨trivial, KpB.of_below (Below.refl _ _), ?_⟩ | refine ⟨KpB.of_below (Below.refl _ _), ?_⟩
      refine Tr.wpTree_one (m := []) rfl rfl Gr.Quietly.none ?_
      intro W6 hW
      have HB_W6 := lh (show Below W3.heap.size W3 W6 from HB_Wp.out.trans (hW.mono HB_Wp.out.size))
      clear hW
      gi_wp2
      have hbs : Below W6.heap.size W6 (W6.alloc (.cells #[.int .i64 ((i : Int) + 1)] 3)) := (Below.refl _ _).alloc (Nat.le_refl _) _
      first | refine ⟨rfl, KpB.of_below hbs, ?_⟩ | refine ⟨trivial, KpB.of_below hbs, ?_⟩ | refine ⟨KpB.of_below hbs, ?_⟩
      have HSL := lh (show IntsAt (W6.alloc (.cells #[.int .i64 ((i : Int) + 1)] 3)) (W6.alloc (.cells #[.int .i64 ((i : Int) + 1)] 3)).heap.size (some ⟨W6.heap.size, 0, none⟩) 1 [(i : Int) + 1] from IntsAt.new W6 3 [(i : Int) + 1] _ (by simp))
      have HBs := lh hbs
      have HBK := lh (Blk.new W6 3 #[.int .i64 ((i : Int) + 1)])
      clear hbs
      generalize (W6.alloc (.cells #[.int .i64 ((i : Int) + 1)] 3)) = W7 at *
      obtain ⟨gb, hgb⟩ : ∃ g, W6.heap.size = g := ⟨_, rfl⟩
      rw [hgb] at HSL HBK ⊢
      have HGB : Hid (w0.heap.size ≤ gb) := lh (by have h1 := HS3.out; have h2 := HB_W6.out.size; omega)
      clear hgb
      refine Tr.wpTree_one (m := []) rfl rfl Gr.Quietly.none ?_
      intro W8 hW
      have HB_W8 := lh (show Below W3.heap.size W3 W8 from HB_W6.out.trans ((HBs.out.trans (hW.mono HBs.out.size)).mono HB_W6.out.size))
      replace HSL := lh ((HSL.out.below hW).more hW.size)
      replace HBK := lh (HBK.out.below hW HBK.out.lt)
      clear hW HBs
      have HB10 := lh (HB3.out.kp HP.out (KpR.of_below HB_W8.out))
      have HSZ10 : Hid (w0.heap.size ≤ W8.heap.size) := lh (Nat.le_trans HS3.out HB_W8.out.size)
      have HJ10 := lh (HJ.out _ _ _ HJ3.out HB_W8.out)
      have hto0 : 0 ≤ idxV T.m.vessels x.to := HAT.out.ok.to_ (.inl HKD.out)
      have hto4 : idxV T.m.vessels x.to < 4 := idxV_small HOK.out.vess
      have hfol := follow_in ((waysP T.m T.L f q k).length) w.heap.size w0.heap.size l' gs gy gt ge q k T J HJ.out HP.out hsz HOK.out HK12.out (fun m pre x V hj hlt9 hat => YieldAt.deep m (HY.out pre x V hj hlt9 hat))
       (k - (i + 1)) (i + 1) (idxV T.m.vessels x.to) (some ⟨gb, 0, none⟩) 1 1 [(i : Int) + 1] xs W8 HB10.out HJ10.out HSL.out (fun a ha => by cases ha; exact ⟨HGB.out, _, HBK.out⟩) (by omega) (by omega) HSZ10.out ⟨hto0, hto4⟩
       (by have h9 := rng_len (waysG T.m T.L f q k) (show i + 1 ≤ k by omega); rw [HST.out, if_pos ⟨HKD.out, HFR.out⟩, List.length_append, ← HXS.out, List.length_map] at h9; exact h9)
      rw [show ((i + 1 : Nat) : Int) = (i : Int) + 1 from by omega] at hfol
      clear hto0 hto4
      obtain ⟨vt, hvt⟩ : ∃ vt, idxV T.m.vessels x.to = vt := ⟨_, rfl⟩
      rw [hvt] at hfol ⊢
      have HVT := lh hvt
      have HFOL := lh hfol
      clear hvt hfol
      gi_wp2
      refine ⟨trivial, (callsIn_wide.2 (callsIn_wide.1 HFOL.out)).mono ?_⟩
      rintro e W11 ⟨rfl, ys, hys, hJ11, hk11⟩
      have HYS := lh hys
      have HK11 := lh (show KpB w.heap.size w0.heap.size W3.heap.size W8 W11 from KpB.of_kp hk11)
      have HK12' := lh (show KpR w.heap.size w0.heap.size W3 W11 from (KpR.of_below HB_W8.out).trans hk11)
      have HJ11 := lh hJ11
      clear hys hJ11 hk11 HFOL HB10 HJ10 HSZ10
      gi_wp2
      first | refine ⟨rfl, HK11.out, ?_⟩ | refine ⟨trivial, HK11.out, ?_⟩ | refine ⟨HK11.out, ?_⟩
      clear HK11
      refine Tr.wpTree_end (A := ?AW3) rfl ?hw3 ?_
      case hw3 =>
       rintro σ hσ of hof hcl
       have HOF := lh hof
       have HCL := lh hcl
       clear hof hcl
       have hkb := HKB.out
       have hfw := hfT
       simp only [pickB]
       iterate 2 (gi_big_quiet_step (fail))
       refine wpQuietIn_nil ?_
       exact rfl
      intro W12 hW
      have HKE := lh (show KpR w.heap.size w0.heap.size W2 W12 from HK.out.trans (HK12'.out.trans (KpR.of_below hW)))
      have HJE := lh (HJ.out _ _ _ HJ11.out hW)
      clear hW HK12' HJ11
      simp only [pickB]
      refine wpT_nil ?_
      gi_wp2
      refine ⟨⟨i + 1, lh ⟨xs ++ ys, hlt, by rw [HST.out, if_pos ⟨HKD.out, HFR.out⟩, List.map_append, HXS.out, HVT.out, HYS.out], by have h := HJE.out; simpa using h, HKE.out⟩, by rw [show ((i + 1 : Nat) : Int) = (i : Int) + 1 from by omega]; first | constructor | (rw [HAA.out]; constructor)⟩, ?_⟩
      simp [intOf] <;> omega
     ·
      intro W6 hW
      have HB_W6 := lh (show Below W3.heap.size W3 W6 from HB_W4.out.trans ((HBc.out.trans (hW.mono HBc.out.size)).mono HB_W4.out.size))
      clear hW HBc
      gi_wp2
      have hbs : Below W6.heap.size W6 (W6.alloc (.cells #[.int .i64 ((i : Int) + 1)] 3)) := (Below.refl _ _).alloc (Nat.le_refl _) _
      first | refine ⟨rfl, KpB.of_below hbs, ?_⟩ | refine ⟨trivial, KpB.of_below hbs, ?_⟩ | refine ⟨KpB.of_below hbs, ?_⟩
      have HSL := lh (show IntsAt (W6.alloc (.cells #[.int .i64 ((i : Int) + 1)] 3)) (W6.alloc (.cells #[.int .i64 ((i : Int) + 1)] 3)).heap.size (some ⟨W6.heap.size, 0, none⟩) 1 [(i : Int) + 1] from IntsAt.new W6 3 [(i : Int) + 1] _ (by simp))
      have HBs := lh hbs
      have HBK := lh (Blk.new W6 3 #[.int .i64 ((i : Int) + 1)])
      clear hbs
      generalize (W6.alloc (.cells #[.int .i64 ((i : Int) + 1)] 3)) = W7 at *
      obtain ⟨gb, hgb⟩ : ∃ g, W6.heap.size = g := ⟨_, rfl⟩
      rw [hgb] at HSL HBK ⊢
      have HGB : Hid (w0.heap.size ≤ gb) := lh (by have h1 := HS3.out; have h2 := HB_W6.out.size; omega)
      clear hgb
      refine Tr.wpTree_one (m := []) rfl rfl Gr.Quietly.none ?_
      intro Wp hW
      have HB_Wp := lh (show Below W3.heap.size W3 Wp from HB_W6.out.trans ((HBs.out.trans (hW.mono HBs.out.size)).mono HB_W6.out.size))
      replace HSL := lh ((HSL.out.below hW).more hW.size)
      replace HBK := lh (HBK.out.below hW HBK.out.lt)
      clear hW HBs
      gi_wp2
      first | refine ⟨rfl, KpB.of_below (Below.refl _ _), ?_⟩ | refine ⟨trivial, KpB.of_below (Below.refl _ _), ?_⟩ | refine ⟨KpB.of_below (Below.refl _ _), ?_⟩
      refine Tr.wpTree_one (m := []) rfl rfl Gr.Quietly.none ?_
      intro W8 hW
      have HB_W8 := lh (show Below W3.heap.size W3 W8 from HB_Wp.out.trans (hW.mono HB_Wp.out.size))
      replace HSL := lh ((HSL.out.below hW).more hW.size)
      replace HBK := lh (HBK.out.below hW HBK.out.lt)
      clear hW
      have HB10 := lh (HB3.out.kp HP.out (KpR.of_below HB_W8.out))
      have HSZ10 : Hid (w0.heap.size ≤ W8.heap.size) := lh (Nat.le_trans HS3.out HB_W8.out.size)
      have HJ10 := lh (HJ.out _ _ _ HJ3.out HB_W8.out)
      have hto0 : 0 ≤ idxV T.m.vessels x.to := HAT.out.ok.to_ (.inl HKD.out)
      have hto4 : idxV T.m.vessels x.to < 4 := idxV_small HOK.out.vess
      have hfol := follow_in ((waysP T.m T.L f q k).length) w.heap.size w0.heap.size l' gs gy gt ge q k T J HJ.out HP.out hsz HOK.out HK12.out (fun m pre x V hj hlt9 hat => YieldAt.deep m (HY.out pre x V hj hlt9 hat))
       (k - (i + 1)) (i + 1) (idxV T.m.vessels x.to) (some ⟨gb, 0, none⟩) 1 1 [(i : Int) + 1] xs W8 HB10.out HJ10.out HSL.out (fun a ha => by cases ha; exact ⟨HGB.out, _, HBK.out⟩) (by omega) (by omega) HSZ10.out ⟨hto0, hto4⟩
       (by have h9 := rng_len (waysG T.m T.L f q k) (show i + 1 ≤ k by omega); rw [HST.out, if_pos ⟨HKD.out, HFR.out⟩, List.length_append, ← HXS.out, List.length_map] at h9; exact h9)
      rw [show ((i + 1 : Nat) : Int) = (i : Int) + 1 from by omega] at hfol
      clear hto0 hto4
      obtain ⟨vt, hvt⟩ : ∃ vt, idxV T.m.vessels x.to = vt := ⟨_, rfl⟩
      rw [hvt] at hfol ⊢
      have HVT := lh hvt
      have HFOL := lh hfol
      clear hvt hfol
      gi_wp2
      refine ⟨trivial, (callsIn_wide.2 (callsIn_wide.1 HFOL.out)).mono ?_⟩
      rintro e W11 ⟨rfl, ys, hys, hJ11, hk11⟩
      have HYS := lh hys
      have HK11 := lh (show KpB w.heap.size w0.heap.size W3.heap.size W8 W11 from KpB.of_kp hk11)
      have HK12' := lh (show KpR w.heap.size w0.heap.size W3 W11 from (KpR.of_below HB_W8.out).trans hk11)
      have HJ11 := lh hJ11
      clear hys hJ11 hk11 HFOL HB10 HJ10 HSZ10
      gi_wp2
      first | refine ⟨rfl, HK11.out, ?_⟩ | refine ⟨trivial, HK11.out, ?_⟩ | refine ⟨HK11.out, ?_⟩
      clear HK11
      refine Tr.wpTree_end (A := ?AW4) rfl ?hw4 ?_
      case hw4 =>
       rintro σ hσ of hof hcl
       have HOF := lh hof
       have HCL := lh hcl
       clear hof hcl
       have hkb := HKB.out
       have hfw := hfT
       simp only [pickB]
       iterate 2 (gi_big_quiet_step (fail))
       refine wpQuietIn_nil ?_
       exact rfl
      intro W12 hW
      have HKE := lh (show KpR w.heap.size w0.heap.size W2 W12 from HK.out.trans (HK12'.out.trans (KpR.of_below hW)))
      have HJE := lh (HJ.out _ _ _ HJ11.out hW)
      clear hW HK12' HJ11
      simp only [pickB]
      refine wpT_nil ?_
      gi_wp2
      refine ⟨⟨i + 1, lh ⟨xs ++ ys, hlt, by rw [HST.out, if_pos ⟨HKD.out, HFR.out⟩, List.map_append, HXS.out, HVT.out, HYS.out], by have h := HJE.out; simpa using h, HKE.out⟩, by rw [show ((i + 1 : Nat) : Int) = (i : Int) + 1 from by omega]; first | constructor | (rw [HAA.out]; constructor)⟩, ?_⟩
      simp [intOf] <;> omega
    ·
     intro W4 hW
     have HB_W4 := lh (show Below W3.heap.size W3 W4 from hW)
     clear hW
     gi_wp2
     have hbs : Below W4.heap.size W4 (W4.alloc (.cells #[.int .i64 ((i : Int) + 1)] 3)) := (Below.refl _ _).alloc (Nat.le_refl _) _
     first | refine ⟨rfl, KpB.of_below hbs, ?_⟩ | refine ⟨trivial, KpB.of_below hbs, ?_⟩ | refine ⟨KpB.of_below hbs, ?_⟩
     have HSL := lh (show IntsAt (W4.alloc (.cells #[.int .i64 ((i : Int) + 1)] 3)) (W4.alloc (.cells #[.int .i64 ((i : Int) + 1)] 3)).heap.size (some ⟨W4.heap.size, 0, none⟩) 1 [(i : Int) + 1] from IntsAt.new W4 3 [(i : Int) + 1] _ (by simp))
     have HBs := lh hbs
     have HBK := lh (Blk.new W4 3 #[.int .i64 ((i : Int) + 1)])
     clear hbs
     generalize (W4.alloc (.cells #[.int .i64 ((i : Int) + 1)] 3)) = W5 at *
     obtain ⟨gb, hgb⟩ : ∃ g, W4.heap.size = g := ⟨_, rfl⟩
     rw [hgb] at HSL HBK ⊢
     have HGB : Hid (w0.heap.size ≤ gb) := lh (by have h1 := HS3.out; have h2 := HB_W4.out.size; omega)
     clear hgb
     refine Tr.wpTree_one (m := []) rfl rfl Gr.Quietly.none ?_
     intro W6 hW
     have HB_W6 := lh (show Below W3.heap.size W3 W6 from HB_W4.out.trans ((HBs.out.trans (hW.mono HBs.out.size)).mono HB_W4.out.size))
     replace HSL := lh ((HSL.out.below hW).more hW.size)
     replace HBK := lh (HBK.out.below hW HBK.out.lt)
     clear hW HBs
     gi_wp2
     refine ⟨trivial, (callsIn_wide.2 (vessel_any T x.to W6 ((HB3.out.kp HP.out (KpR.of_below HB_W6.out)).tb.at_ (by have h1 := HS3.out; have h2 := HB_W6.out.size; omega)))).mono ?_⟩
     rintro e W7 ⟨rfl, hb⟩
     have HBc := lh hb
     clear hb
     gi_wp2
     first | refine ⟨rfl, KpB.of_below HBc.out, ?_⟩ | refine ⟨trivial, KpB.of_below HBc.out, ?_⟩ | refine ⟨KpB.of_below HBc.out, ?_⟩
     refine Tr.wpTree_one (m := []) rfl rfl Gr.Quietly.none ?_
     intro Wp hW
     have HB_Wp := lh (show Below W3.heap.size W3 Wp from HB_W6.out.trans ((HBc.out.trans (hW.mono HBc.out.size)).mono HB_W6.out.size))
     replace HSL := lh (((HSL.out.below HBc.out).more HBc.out.size).below hW |>.more hW.size)
     have hbk8 := HBK.out.below HBc.out HBK.out.lt
     replace HBK := lh (hbk8.below hW hbk8.lt)
     clear hbk8
     clear hW HBc
     gi_wp2
     first | refine ⟨rfl, KpB.of_below (Below.refl _ _), ?_⟩ | refine ⟨trivial, KpB.of_below (Below.refl _ _), ?_⟩ | refine ⟨KpB.of_below (Below.refl _ _), ?_⟩
     refine Tr.wpTree_one (m := []) rfl rfl Gr.Quietly.none ?_
     intro W8 hW
     have HB_W8 := lh (show Below W3.heap.size W3 W8 from HB_Wp.out.trans (hW.mono HB_Wp.out.size))
     replace HSL := lh ((HSL.out.below hW).more hW.size)
     replace HBK := lh (HBK.out.below hW HBK.out.lt)
     clear hW
     have HB10 := lh (HB3.out.kp HP.out (KpR.of_below HB_W8.out))
     have HSZ10 : Hid (w0.heap.size ≤ W8.heap.size) := lh (Nat.le_trans HS3.out HB_W8.out.size)
     have HJ10 := lh (HJ.out _ _ _ HJ3.out HB_W8.out)
     have hto0 : 0 ≤ idxV T.m.vessels x.to := HAT.out.ok.to_ (.inl HKD.out)
     have hto4 : idxV T.m.vessels x.to < 4 := idxV_small HOK.out.vess
     have hfol := follow_in ((waysP T.m T.L f q k).length) w.heap.size w0.heap.size l' gs gy gt ge q k T J HJ.out HP.out hsz HOK.out HK12.out (fun m pre x V hj hlt9 hat => YieldAt.deep m (HY.out pre x V hj hlt9 hat))
      (k - (i + 1)) (i + 1) (idxV T.m.vessels x.to) (some ⟨gb, 0, none⟩) 1 1 [(i : Int) + 1] xs W8 HB10.out HJ10.out HSL.out (fun a ha => by cases ha; exact ⟨HGB.out, _, HBK.out⟩) (by omega) (by omega) HSZ10.out ⟨hto0, hto4⟩
      (by have h9 := rng_len (waysG T.m T.L f q k) (show i + 1 ≤ k by omega); rw [HST.out, if_pos ⟨HKD.out, HFR.out⟩, List.length_append, ← HXS.out, List.length_map] at h9; exact h9)
     rw [show ((i + 1 : Nat) : Int) = (i : Int) + 1 from by omega] at hfol
     clear hto0 hto4
     obtain ⟨vt, hvt⟩ : ∃ vt, idxV T.m.vessels x.to = vt := ⟨_, rfl⟩
     rw [hvt] at hfol ⊢
     have HVT := lh hvt
     have HFOL := lh hfol
     clear hvt hfol
     gi_wp2
     refine ⟨trivial, (callsIn_wide.2 (callsIn_wide.1 HFOL.out)).mono ?_⟩
     rintro e W11 ⟨rfl, ys, hys, hJ11, hk11⟩
     have HYS := lh hys
     have HK11 := lh (show KpB w.heap.size w0.heap.size W3.heap.size W8 W11 from KpB.of_kp hk11)
     have HK12' := lh (show KpR w.heap.size w0.heap.size W3 W11 from (KpR.of_below HB_W8.out).trans hk11)
     have HJ11 := lh hJ11
     clear hys hJ11 hk11 HFOL HB10 HJ10 HSZ10
     gi_wp2
     first | refine ⟨rfl, HK11.out, ?_⟩ | refine ⟨trivial, HK11.out, ?_⟩ | refine ⟨HK11.out, ?_⟩
     clear HK11
     refine Tr.wpTree_end (A := ?AW5) rfl ?hw5 ?_
     case hw5 =>
      rintro σ hσ of hof hcl
      have HOF := lh hof
      have HCL := lh hcl
      clear hof hcl
      have hkb := HKB.out
      have hfw := hfT
      simp only [pickB]
      iterate 2 (gi_big_quiet_step (fail))
      refine wpQuietIn_nil ?_
      exact rfl
     intro W12 hW
     have HKE := lh (show KpR w.heap.size w0.heap.size W2 W12 from HK.out.trans (HK12'.out.trans (KpR.of_below hW)))
     have HJE := lh (HJ.out _ _ _ HJ11.out hW)
     clear hW HK12' HJ11
     simp only [pickB]
     refine wpT_nil ?_
     gi_wp2
     refine ⟨⟨i + 1, lh ⟨xs ++ ys, hlt, by rw [HST.out, if_pos ⟨HKD.out, HFR.out⟩, List.map_append, HXS.out, HVT.out, HYS.out], by have h := HJE.out; simpa using h, HKE.out⟩, by rw [show ((i + 1 : Nat) : Int) = (i : Int) + 1 from by omega]; first | constructor | (rw [HAA.out]; constructor)⟩, ?_⟩
     simp [intOf] <;> omega
   ·
    have hkb : (x.kind == 1) = true := by simpa using hkd
    have hfb : (x.fr == f) = false := by simpa using hfr
    have HKB := lh hkb
    have HFB := lh hfb
    have HFR := lh hfr
    clear hkb hfb hkd hfr
    refine Tr.wpIn_region_tree (G := KpB w.heap.size w0.heap.size W3.heap.size) (V0 := W3) [([], [true, true, true, true, true, true, true, true, true, true, true, true, true, true, false, true, true, false, true, true], [14, 20]), ([14], [], [17, 20]), ([20], [], [14]), ([14, 17], [], [20]), ([14, 20], [], [17]), ([14, 17, 20], [], [21]), ([14, 17, 20, 21], [false, false, false, false, false, false, false, false, false, false, false, false, false, false, false, false, false, false, false, false, false, false, true, true], [])] 5 [] (by kernel_rfl) (by kernel_rfl) (by kernel_rfl) (below_drewN (Below.refl _ _) 1) ?_
    refine Tr.wpTree_two (A := ?AW6) rfl rfl rfl ?hw6 ?_ ?_
    case hw6 =>
     rintro σ hσ of hof hcl
     have HOF := lh hof
     have HCL := lh hcl
     clear hof hcl
     have x0 : ∀ z, (of z).cell? ⟨gx, 0, none⟩ = some (.int .i64 x.kind) := fun z => ((KpB.kp (HOF.out z)).blk (.inr HGXN.out) HGX.out).cell 0
     have x1 : ∀ z, (of z).cell? ⟨gx, 1, none⟩ = some (.int .i64 x.fr) := fun z => ((KpB.kp (HOF.out z)).blk (.inr HGXN.out) HGX.out).cell 1
     have x2 : ∀ z, (of z).cell? ⟨gx, 2, none⟩ = some (.int .i64 x.to) := fun z => ((KpB.kp (HOF.out z)).blk (.inr HGXN.out) HGX.out).cell 2
     have c3 : ∀ z, (of z).cell? ⟨gf, 0, none⟩ = some (.int .i64 f) := fun z => ((KpB.kp (HOF.out z)).blk (.inl hgf_) HG3.out).cell 0
     have c4 : ∀ z, (of z).cell? ⟨gt, 0, none⟩ = some (.pointer (some ⟨T.g, 0, none⟩)) := fun z => (HB3.out.kp HP.out (KpB.kp (HOF.out z))).bt.cell 0
     have c5 : ∀ z, (of z).cell? ⟨ge, 0, none⟩ = some (.func (.func 98) #[] #[.pointer (some ⟨gs, 0, none⟩), .pointer (some ⟨gy, 0, none⟩), .pointer (some ⟨gt, 0, none⟩), .pointer (some ⟨ge, 0, none⟩)]) := fun z => (HB3.out.kp HP.out (KpB.kp (HOF.out z))).be.cell 0
     have hk12' : k ≤ 12 := by have := HK12.out; omega
     have hkb := HKB.out
     have hfb := HFB.out
     have hfw := hfT
     simp only [pickB]
     iterate 18 (gi_big_quiet_step (fail))
     refine wpQuietIn_nil ?_
     exact rfl
    ·
     intro W4 hW
     have HB_W4 := lh (show Below W3.heap.size W3 W4 from hW)
     clear hW
     gi_wp2
     first | refine ⟨rfl, KpB.of_below (Below.refl _ _), ?_⟩ | refine ⟨trivial, KpB.of_below (Below.refl _ _), ?_⟩ | refine ⟨KpB.of_below (Below.refl _ _), ?_⟩ | ((first | refine ⟨trivial, ?_⟩ | refine ⟨fun _ h => (by cases h), ?_⟩); gi_wp2; first | refine ⟨rfl, KpB.of_below (Below.refl _ _), ?_⟩ | refine ⟨trivial, KpB.of_below (Below.refl _ _), ?_⟩ | refine ⟨KpB.of_below (Below.refl _ _), ?_⟩)
     refine Tr.wpTree_two (m := []) rfl rfl rfl Gr.Quietly.none ?_ ?_
     ·
      intro W5 hW
      have HB_W5 := lh (show Below W3.heap.size W3 W5 from HB_W4.out.trans (hW.mono HB_W4.out.size))
      clear hW
      gi_wp2
      first | refine ⟨rfl, KpB.of_below (Below.refl _ _), ?_⟩ | refine ⟨trivial, KpB.of_below (Below.refl _ _), ?_⟩ | refine ⟨KpB.of_below (Below.refl _ _), ?_⟩ | ((first | refine ⟨trivial, ?_⟩ | refine ⟨fun _ h => (by cases h), ?_⟩); gi_wp2; first | refine ⟨rfl, KpB.of_below (Below.refl _ _), ?_⟩ | refine ⟨trivial, KpB.of_below (Below.refl _ _), ?_⟩ | refine ⟨KpB.of_below (Below.refl _ _), ?_⟩)
      refine Tr.wpTree_one (m := []) rfl rfl Gr.Quietly.none ?_
      intro W6 hW
      have HB_W6 := lh (show Below W3.heap.size W3 W6 from HB_W5.out.trans (hW.mono HB_W5.out.size))
      clear hW
      gi_wp2
      first | refine ⟨rfl, KpB.of_below (Below.refl _ _), ?_⟩ | refine ⟨trivial, KpB.of_below (Below.refl _ _), ?_⟩ | refine ⟨KpB.of_below (Below.refl _ _), ?_⟩ | ((first | refine ⟨trivial, ?_⟩ | refine ⟨fun _ h => (by cases h), ?_⟩); gi_wp2; first | refine ⟨rfl, KpB.of_below (Below.refl _ _), ?_⟩ | refine ⟨trivial, KpB.of_below (Below.refl _ _), ?_⟩ | refine ⟨KpB.of_below (Below.refl _ _), ?_⟩)
      refine Tr.wpTree_one (m := []) rfl rfl Gr.Quietly.none ?_
      intro W8 hW
      have HB_W8 := lh (show Below W3.heap.size W3 W8 from HB_W6.out.trans (hW.mono HB_W6.out.size))
      clear hW
      gi_wp2
      first | refine ⟨rfl, KpB.of_below (Below.refl _ _), ?_⟩ | refine ⟨trivial, KpB.of_below (Below.refl _ _), ?_⟩ | refine ⟨KpB.of_below (Below.refl _ _), ?_⟩ | ((first | refine ⟨trivial, ?_⟩ | refine ⟨fun _ h => (by cases h), ?_⟩); gi_wp2; first | refine ⟨rfl, KpB.of_below (Below.refl _ _), ?_⟩ | refine ⟨trivial, KpB.of_below (Below.refl _ _), ?_⟩ | refine ⟨KpB.of_below (Below.refl _ _), ?_⟩)
      refine Tr.wpTree_end (A := ?AW7) rfl ?hw7 ?_
      case hw7 =>
       rintro σ hσ of hof hcl
       have HOF := lh hof
       have HCL := lh hcl
       clear hof hcl
       have hkb := HKB.out
       have hfw := hfT
       simp only [pickB]
       iterate 2 (gi_big_quiet_step (fail))
       refine wpQuietIn_nil ?_
       exact rfl
      intro W12 hW
      have hb12 : Below W3.heap.size W3 W12 := HB_W8.out.trans (hW.mono HB_W8.out.size)
      have HJE := lh (HJ.out _ _ _ HJ3.out hb12)
      have HKE := lh (HK.out.trans (KpR.of_below hb12))
      clear hW hb12 HB_W4 HB_W5 HB_W6 HB_W8
      simp only [pickB]
      refine wpT_nil ?_
      gi_wp2
      refine ⟨⟨i + 1, lh ⟨xs ++ [], hlt, by rw [HST.out, if_neg (fun h => HFR.out h.2), List.append_nil, List.append_nil]; exact HXS.out, by have h := HJE.out; simpa using h, HKE.out⟩, by rw [show ((i + 1 : Nat) : Int) = (i : Int) + 1 from by omega]; first | constructor | (rw [HAA.out]; constructor)⟩, ?_⟩
      simp [intOf] <;> omega
     ·
      intro W5 hW
      have HB_W5 := lh (show Below W3.heap.size W3 W5 from HB_W4.out.trans (hW.mono HB_W4.out.size))
      clear hW
      gi_wp2
      first | refine ⟨rfl, KpB.of_below (Below.refl _ _), ?_⟩ | refine ⟨trivial, KpB.of_below (Below.refl _ _), ?_⟩ | refine ⟨KpB.of_below (Below.refl _ _), ?_⟩ | ((first | refine ⟨trivial, ?_⟩ | refine ⟨fun _ h => (by cases h), ?_⟩); gi_wp2; first | refine ⟨rfl, KpB.of_below (Below.refl _ _), ?_⟩ | refine ⟨trivial, KpB.of_below (Below.refl _ _), ?_⟩ | refine ⟨KpB.of_below (Below.refl _ _), ?_⟩)
      refine Tr.wpTree_one (m := []) rfl rfl Gr.Quietly.none ?_
      intro W6 hW
      have HB_W6 := lh (show Below W3.heap.size W3 W6 from HB_W5.out.trans (hW.mono HB_W5.out.size))
      clear hW
      gi_wp2
      first | refine ⟨rfl, KpB.of_below (Below.refl _ _), ?_⟩ | refine ⟨trivial, KpB.of_below (Below.refl _ _), ?_⟩ | refine ⟨KpB.of_below (Below.refl _ _), ?_⟩ | ((first | refine ⟨trivial, ?_⟩ | refine ⟨fun _ h => (by cases h), ?_⟩); gi_wp2; first | refine ⟨rfl, KpB.of_below (Below.refl _ _), ?_⟩ | refine ⟨trivial, KpB.of_below (Below.refl _ _), ?_⟩ | refine ⟨KpB.of_below (Below.refl _ _), ?_⟩)
      refine Tr.wpTree_one (m := []) rfl rfl Gr.Quietly.none ?_
      intro W8 hW
      have HB_W8 := lh (show Below W3.heap.size W3 W8 from HB_W6.out.trans (hW.mono HB_W6.out.size))
      clear hW
      gi_wp2
      first | refine ⟨rfl, KpB.of_below (Below.refl _ _), ?_⟩ | refine ⟨trivial, KpB.of_below (Below.refl _ _), ?_⟩ | refine ⟨KpB.of_below (Below.refl _ _), ?_⟩ | ((first | refine ⟨trivial, ?_⟩ | refine ⟨fun _ h => (by cases h), ?_⟩); gi_wp2; first | refine ⟨rfl, KpB.of_below (Below.refl _ _), ?_⟩ | refine ⟨trivial, KpB.of_below (Below.refl _ _), ?_⟩ | refine ⟨KpB.of_below (Below.refl _ _), ?_⟩)
      refine Tr.wpTree_end (A := ?AW8) rfl ?hw8 ?_
      case hw8 =>
       rintro σ hσ of hof hcl
       have HOF := lh hof
       have HCL := lh hcl
       clear hof hcl
       have hkb := HKB.out
       have hfw := hfT
       simp only [pickB]
       iterate 2 (gi_big_quiet_step (fail))
       refine wpQuietIn_nil ?_
       exact rfl
      intro W12 hW
      have hb12 : Below W3.heap.size W3 W12 := HB_W8.out.trans (hW.mono HB_W8.out.size)
      have HJE := lh (HJ.out _ _ _ HJ3.out hb12)
      have HKE := lh (HK.out.trans (KpR.of_below hb12))
      clear hW hb12 HB_W4 HB_W5 HB_W6 HB_W8
      simp only [pickB]
      refine wpT_nil ?_
      gi_wp2
      refine ⟨⟨i + 1, lh ⟨xs ++ [], hlt, by rw [HST.out, if_neg (fun h => HFR.out h.2), List.append_nil, List.append_nil]; exact HXS.out, by have h := HJE.out; simpa using h, HKE.out⟩, by rw [show ((i + 1 : Nat) : Int) = (i : Int) + 1 from by omega]; first | constructor | (rw [HAA.out]; constructor)⟩, ?_⟩
      simp [intOf] <;> omega
    ·
     intro W4 hW
     have HB_W4 := lh (show Below W3.heap.size W3 W4 from hW)
     clear hW
     gi_wp2
     first | refine ⟨rfl, KpB.of_below (Below.refl _ _), ?_⟩ | refine ⟨trivial, KpB.of_below (Below.refl _ _), ?_⟩ | refine ⟨KpB.of_below (Below.refl _ _), ?_⟩ | ((first | refine ⟨trivial, ?_⟩ | refine ⟨fun _ h => (by cases h), ?_⟩); gi_wp2; first | refine ⟨rfl, KpB.of_below (Below.refl _ _), ?_⟩ | refine ⟨trivial, KpB.of_below (Below.refl _ _), ?_⟩ | refine ⟨KpB.of_below (Below.refl _ _), ?_⟩)
     refine Tr.wpTree_one (m := []) rfl rfl Gr.Quietly.none ?_
     intro W5 hW
     have HB_W5 := lh (show Below W3.heap.size W3 W5 from HB_W4.out.trans (hW.mono HB_W4.out.size))
     clear hW
     gi_wp2
     first | refine ⟨rfl, KpB.of_below (Below.refl _ _), ?_⟩ | refine ⟨trivial, KpB.of_below (Below.refl _ _), ?_⟩ | refine ⟨KpB.of_below (Below.refl _ _), ?_⟩ | ((first | refine ⟨trivial, ?_⟩ | refine ⟨fun _ h => (by cases h), ?_⟩); gi_wp2; first | refine ⟨rfl, KpB.of_below (Below.refl _ _), ?_⟩ | refine ⟨trivial, KpB.of_below (Below.refl _ _), ?_⟩ | refine ⟨KpB.of_below (Below.refl _ _), ?_⟩)
     refine Tr.wpTree_one (m := []) rfl rfl Gr.Quietly.none ?_
     intro W6 hW
     have HB_W6 := lh (show Below W3.heap.size W3 W6 from HB_W5.out.trans (hW.mono HB_W5.out.size))
     clear hW
     gi_wp2
     first | refine ⟨rfl, KpB.of_below (Below.refl _ _), ?_⟩ | refine ⟨trivial, KpB.of_below (Below.refl _ _), ?_⟩ | refine ⟨KpB.of_below (Below.refl _ _), ?_⟩ | ((first | refine ⟨trivial, ?_⟩ | refine ⟨fun _ h => (by cases h), ?_⟩); gi_wp2; first | refine ⟨rfl, KpB.of_below (Below.refl _ _), ?_⟩ | refine ⟨trivial, KpB.of_below (Below.refl _ _), ?_⟩ | refine ⟨KpB.of_below (Below.refl _ _), ?_⟩)
     refine Tr.wpTree_one (m := []) rfl rfl Gr.Quietly.none ?_
     intro W8 hW
     have HB_W8 := lh (show Below W3.heap.size W3 W8 from HB_W6.out.trans (hW.mono HB_W6.out.size))
     clear hW
     gi_wp2
     first | refine ⟨rfl, KpB.of_below (Below.refl _ _), ?_⟩ | refine ⟨trivial, KpB.of_below (Below.refl _ _), ?_⟩ | refine ⟨KpB.of_below (Below.refl _ _), ?_⟩ | ((first | refine ⟨trivial, ?_⟩ | refine ⟨fun _ h => (by cases h), ?_⟩); gi_wp2; first | refine ⟨rfl, KpB.of_below (Below.refl _ _), ?_⟩ | refine ⟨trivial, KpB.of_below (Below.refl _ _), ?_⟩ | refine ⟨KpB.of_below (Below.refl _ _), ?_⟩)
     refine Tr.wpTree_end (A := ?AW9) rfl ?hw9 ?_
     case hw9 =>
      rintro σ hσ of hof hcl
      have HOF := lh hof
      have HCL := lh hcl
      clear hof hcl
      have hkb := HKB.out
      have hfw := hfT
      simp only [pickB]
      iterate 2 (gi_big_quiet_step (fail))
      refine wpQuietIn_nil ?_
      exact rfl
     intro W12 hW
     have hb12 : Below W3.heap.size W3 W12 := HB_W8.out.trans (hW.mono HB_W8.out.size)
     have HJE := lh (HJ.out _ _ _ HJ3.out hb12)
     have HKE := lh (HK.out.trans (KpR.of_below hb12))
     clear hW hb12 HB_W4 HB_W5 HB_W6 HB_W8
     simp only [pickB]
     refine wpT_nil ?_
     gi_wp2
     refine ⟨⟨i + 1, lh ⟨xs ++ [], hlt, by rw [HST.out, if_neg (fun h => HFR.out h.2), List.append_nil, List.append_nil]; exact HXS.out, by have h := HJE.out; simpa using h, HKE.out⟩, by rw [show ((i + 1 : Nat) : Int) = (i : Int) + 1 from by omega]; first | constructor | (rw [HAA.out]; constructor)⟩, ?_⟩
     simp [intOf] <;> omega
  ·
   have hkb : (x.kind == 1) = false := by simpa using hkd
   have HKB := lh hkb
   have HKD := lh hkd
   clear hkb hkd
   refine Tr.wpIn_region_tree (G := KpB w.heap.size w0.heap.size W3.heap.size) (V0 := W3) [([], [true, true, true, true, true, true, true, true, true, true, true, true, true, true, false, true, true, false, true, true], [14, 20]), ([14], [], [17, 20]), ([20], [], [14]), ([14, 17], [], [20]), ([14, 20], [], [17]), ([14, 17, 20], [], [21]), ([14, 17, 20, 21], [false, false, false, false, false, false, false, false, false, false, false, false, false, false, false, false, false, false, false, false, false, false, true, true], [])] 5 [] (by kernel_rfl) (by kernel_rfl) (by kernel_rfl) (below_drewN (Below.refl _ _) 1) ?_
   refine Tr.wpTree_two (A := ?AW10) rfl rfl rfl ?hw10 ?_ ?_
   case hw10 =>
    rintro σ hσ of hof hcl
    have HOF := lh hof
    have HCL := lh hcl
    clear hof hcl
    have x0 : ∀ z, (of z).cell? ⟨gx, 0, none⟩ = some (.int .i64 x.kind) := fun z => ((KpB.kp (HOF.out z)).blk (.inr HGXN.out) HGX.out).cell 0
    have x1 : ∀ z, (of z).cell? ⟨gx, 1, none⟩ = some (.int .i64 x.fr) := fun z => ((KpB.kp (HOF.out z)).blk (.inr HGXN.out) HGX.out).cell 1
    have x2 : ∀ z, (of z).cell? ⟨gx, 2, none⟩ = some (.int .i64 x.to) := fun z => ((KpB.kp (HOF.out z)).blk (.inr HGXN.out) HGX.out).cell 2
    have c3 : ∀ z, (of z).cell? ⟨gf, 0, none⟩ = some (.int .i64 f) := fun z => ((KpB.kp (HOF.out z)).blk (.inl hgf_) HG3.out).cell 0
    have c4 : ∀ z, (of z).cell? ⟨gt, 0, none⟩ = some (.pointer (some ⟨T.g, 0, none⟩)) := fun z => (HB3.out.kp HP.out (KpB.kp (HOF.out z))).bt.cell 0
    have c5 : ∀ z, (of z).cell? ⟨ge, 0, none⟩ = some (.func (.func 98) #[] #[.pointer (some ⟨gs, 0, none⟩), .pointer (some ⟨gy, 0, none⟩), .pointer (some ⟨gt, 0, none⟩), .pointer (some ⟨ge, 0, none⟩)]) := fun z => (HB3.out.kp HP.out (KpB.kp (HOF.out z))).be.cell 0
    have hk12' : k ≤ 12 := by have := HK12.out; omega
    have hkb := HKB.out
    have hfw := hfT
    simp only [pickB]
    iterate 18 (gi_big_quiet_step (fail))
    refine wpQuietIn_nil ?_
    exact rfl
   ·
    intro W4 hW
    have HB_W4 := lh (show Below W3.heap.size W3 W4 from hW)
    clear hW
    gi_wp2
    first | refine ⟨rfl, KpB.of_below (Below.refl _ _), ?_⟩ | refine ⟨trivial, KpB.of_below (Below.refl _ _), ?_⟩ | refine ⟨KpB.of_below (Below.refl _ _), ?_⟩ | ((first | refine ⟨trivial, ?_⟩ | refine ⟨fun _ h => (by cases h), ?_⟩); gi_wp2; first | refine ⟨rfl, KpB.of_below (Below.refl _ _), ?_⟩ | refine ⟨trivial, KpB.of_below (Below.refl _ _), ?_⟩ | refine ⟨KpB.of_below (Below.refl _ _), ?_⟩)
    refine Tr.wpTree_two (m := []) rfl rfl rfl Gr.Quietly.none ?_ ?_
    ·
     intro W5 hW
     have HB_W5 := lh (show Below W3.heap.size W3 W5 from HB_W4.out.trans (hW.mono HB_W4.out.size))
     clear hW
     gi_wp2
     first | refine ⟨rfl, KpB.of_below (Below.refl _ _), ?_⟩ | refine ⟨trivial, KpB.of_below (Below.refl _ _), ?_⟩ | refine ⟨KpB.of_below (Below.refl _ _), ?_⟩ | ((first | refine ⟨trivial, ?_⟩ | refine ⟨fun _ h => (by cases h), ?_⟩); gi_wp2; first | refine ⟨rfl, KpB.of_below (Below.refl _ _), ?_⟩ | refine ⟨trivial, KpB.of_below (Below.refl _ _), ?_⟩ | refine ⟨KpB.of_below (Below.refl _ _), ?_⟩)
     refine Tr.wpTree_one (m := []) rfl rfl Gr.Quietly.none ?_
     intro W6 hW
     have HB_W6 := lh (show Below W3.heap.size W3 W6 from HB_W5.out.trans (hW.mono HB_W5.out.size))
     clear hW
     gi_wp2
     first | refine ⟨rfl, KpB.of_below (Below.refl _ _), ?_⟩ | refine ⟨trivial, KpB.of_below (Below.refl _ _), ?_⟩ | refine ⟨KpB.of_below (Below.refl _ _), ?_⟩ | ((first | refine ⟨trivial, ?_⟩ | refine ⟨fun _ h => (by cases h), ?_⟩); gi_wp2; first | refine ⟨rfl, KpB.of_below (Below.refl _ _), ?_⟩ | refine ⟨trivial, KpB.of_below (Below.refl _ _), ?_⟩ | refine ⟨KpB.of_below (Below.refl _ _), ?_⟩)
     refine Tr.wpTree_one (m := []) rfl rfl Gr.Quietly.none ?_
     intro W8 hW
     have HB_W8 := lh (show Below W3.heap.size W3 W8 from HB_W6.out.trans (hW.mono HB_W6.out.size))
     clear hW
     gi_wp2
     first | refine ⟨rfl, KpB.of_below (Below.refl _ _), ?_⟩ | refine ⟨trivial, KpB.of_below (Below.refl _ _), ?_⟩ | refine ⟨KpB.of_below (Below.refl _ _), ?_⟩ | ((first | refine ⟨trivial, ?_⟩ | refine ⟨fun _ h => (by cases h), ?_⟩); gi_wp2; first | refine ⟨rfl, KpB.of_below (Below.refl _ _), ?_⟩ | refine ⟨trivial, KpB.of_below (Below.refl _ _), ?_⟩ | refine ⟨KpB.of_below (Below.refl _ _), ?_⟩)
     refine Tr.wpTree_end (A := ?AW11) rfl ?hw11 ?_
     case hw11 =>
      rintro σ hσ of hof hcl
      have HOF := lh hof
      have HCL := lh hcl
      clear hof hcl
      have hkb := HKB.out
      have hfw := hfT
      simp only [pickB]
      iterate 2 (gi_big_quiet_step (fail))
      refine wpQuietIn_nil ?_
      exact rfl
     intro W12 hW
     have hb12 : Below W3.heap.size W3 W12 := HB_W8.out.trans (hW.mono HB_W8.out.size)
     have HJE := lh (HJ.out _ _ _ HJ3.out hb12)
     have HKE := lh (HK.out.trans (KpR.of_below hb12))
     clear hW hb12 HB_W4 HB_W5 HB_W6 HB_W8
     simp only [pickB]
     refine wpT_nil ?_
     gi_wp2
     refine ⟨⟨i + 1, lh ⟨xs ++ [], hlt, by rw [HST.out, if_neg (fun h => HKD.out h.1), List.append_nil, List.append_nil]; exact HXS.out, by have h := HJE.out; simpa using h, HKE.out⟩, by rw [show ((i + 1 : Nat) : Int) = (i : Int) + 1 from by omega]; first | constructor | (rw [HAA.out]; constructor)⟩, ?_⟩
     simp [intOf] <;> omega
    ·
     intro W5 hW
     have HB_W5 := lh (show Below W3.heap.size W3 W5 from HB_W4.out.trans (hW.mono HB_W4.out.size))
     clear hW
     gi_wp2
     first | refine ⟨rfl, KpB.of_below (Below.refl _ _), ?_⟩ | refine ⟨trivial, KpB.of_below (Below.refl _ _), ?_⟩ | refine ⟨KpB.of_below (Below.refl _ _), ?_⟩ | ((first | refine ⟨trivial, ?_⟩ | refine ⟨fun _ h => (by cases h), ?_⟩); gi_wp2; first | refine ⟨rfl, KpB.of_below (Below.refl _ _), ?_⟩ | refine ⟨trivial, KpB.of_below (Below.refl _ _), ?_⟩ | refine ⟨KpB.of_below (Below.refl _ _), ?_⟩)
     refine Tr.wpTree_one (m := []) rfl rfl Gr.Quietly.none ?_
     intro W6 hW
     have HB_W6 := lh (show Below W3.heap.size W3 W6 from HB_W5.out.trans (hW.mono HB_W5.out.size))
     clear hW
     gi_wp2
     first | refine ⟨rfl, KpB.of_below (Below.refl _ _), ?_⟩ | refine ⟨trivial, KpB.of_below (Below.refl _ _), ?_⟩ | refine ⟨KpB.of_below (Below.refl _ _), ?_⟩ | ((first | refine ⟨trivial, ?_⟩ | refine ⟨fun _ h => (by cases h), ?_⟩); gi_wp2; first | refine ⟨rfl, KpB.of_below (Below.refl _ _), ?_⟩ | refine ⟨trivial, KpB.of_below (Below.refl _ _), ?_⟩ | refine ⟨KpB.of_below (Below.refl _ _), ?_⟩)
     refine Tr.wpTree_one (m := []) rfl rfl Gr.Quietly.none ?_
     intro W8 hW
     have HB_W8 := lh (show Below W3.heap.size W3 W8 from HB_W6.out.trans (hW.mono HB_W6.out.size))
     clear hW
     gi_wp2
     first | refine ⟨rfl, KpB.of_below (Below.refl _ _), ?_⟩ | refine ⟨trivial, KpB.of_below (Below.refl _ _), ?_⟩ | refine ⟨KpB.of_below (Below.refl _ _), ?_⟩ | ((first | refine ⟨trivial, ?_⟩ | refine ⟨fun _ h => (by cases h), ?_⟩); gi_wp2; first | refine ⟨rfl, KpB.of_below (Below.refl _ _), ?_⟩ | refine ⟨trivial, KpB.of_below (Below.refl _ _), ?_⟩ | refine ⟨KpB.of_below (Below.refl _ _), ?_⟩)
     refine Tr.wpTree_end (A := ?AW12) rfl ?hw12 ?_
     case hw12 =>
      rintro σ hσ of hof hcl
      have HOF := lh hof
      have HCL := lh hcl
      clear hof hcl
      have hkb := HKB.out
      have hfw := hfT
      simp only [pickB]
      iterate 2 (gi_big_quiet_step (fail))
      refine wpQuietIn_nil ?_
      exact rfl
     intro W12 hW
     have hb12 : Below W3.heap.size W3 W12 := HB_W8.out.trans (hW.mono HB_W8.out.size)
     have HJE := lh (HJ.out _ _ _ HJ3.out hb12)
     have HKE := lh (HK.out.trans (KpR.of_below hb12))
     clear hW hb12 HB_W4 HB_W5 HB_W6 HB_W8
     simp only [pickB]
     refine wpT_nil ?_
     gi_wp2
     refine ⟨⟨i + 1, lh ⟨xs ++ [], hlt, by rw [HST.out, if_neg (fun h => HKD.out h.1), List.append_nil, List.append_nil]; exact HXS.out, by have h := HJE.out; simpa using h, HKE.out⟩, by rw [show ((i + 1 : Nat) : Int) = (i : Int) + 1 from by omega]; first | constructor | (rw [HAA.out]; constructor)⟩, ?_⟩
     simp [intOf] <;> omega
   ·
    intro W4 hW
    have HB_W4 := lh (show Below W3.heap.size W3 W4 from hW)
    clear hW
    gi_wp2
    first | refine ⟨rfl, KpB.of_below (Below.refl _ _), ?_⟩ | refine ⟨trivial, KpB.of_below (Below.refl _ _), ?_⟩ | refine ⟨KpB.of_below (Below.refl _ _), ?_⟩ | ((first | refine ⟨trivial, ?_⟩ | refine ⟨fun _ h => (by cases h), ?_⟩); gi_wp2; first | refine ⟨rfl, KpB.of_below (Below.refl _ _), ?_⟩ | refine ⟨trivial, KpB.of_below (Below.refl _ _), ?_⟩ | refine ⟨KpB.of_below (Below.refl _ _), ?_⟩)
    refine Tr.wpTree_one (m := []) rfl rfl Gr.Quietly.none ?_
    intro W5 hW
    have HB_W5 := lh (show Below W3.heap.size W3 W5 from HB_W4.out.trans (hW.mono HB_W4.out.size))
    clear hW
    gi_wp2
    first | refine ⟨rfl, KpB.of_below (Below.refl _ _), ?_⟩ | refine ⟨trivial, KpB.of_below (Below.refl _ _), ?_⟩ | refine ⟨KpB.of_below (Below.refl _ _), ?_⟩ | ((first | refine ⟨trivial, ?_⟩ | refine ⟨fun _ h => (by cases h), ?_⟩); gi_wp2; first | refine ⟨rfl, KpB.of_below (Below.refl _ _), ?_⟩ | refine ⟨trivial, KpB.of_below (Below.refl _ _), ?_⟩ | refine ⟨KpB.of_below (Below.refl _ _), ?_⟩)
    refine Tr.wpTree_one (m := []) rfl rfl Gr.Quietly.none ?_
    intro W6 hW
    have HB_W6 := lh (show Below W3.heap.size W3 W6 from HB_W5.out.trans (hW.mono HB_W5.out.size))
    clear hW
    gi_wp2
    first | refine ⟨rfl, KpB.of_below (Below.refl _ _), ?_⟩ | refine ⟨trivial, KpB.of_below (Below.refl _ _), ?_⟩ | refine ⟨KpB.of_below (Below.refl _ _), ?_⟩ | ((first | refine ⟨trivial, ?_⟩ | refine ⟨fun _ h => (by cases h), ?_⟩); gi_wp2; first | refine ⟨rfl, KpB.of_below (Below.refl _ _), ?_⟩ | refine ⟨trivial, KpB.of_below (Below.refl _ _), ?_⟩ | refine ⟨KpB.of_below (Below.refl _ _), ?_⟩)
    refine Tr.wpTree_one (m := []) rfl rfl Gr.Quietly.none ?_
    intro W8 hW
    have HB_W8 := lh (show Below W3.heap.size W3 W8 from HB_W6.out.trans (hW.mono HB_W6.out.size))
    clear hW
    gi_wp2
    first | refine ⟨rfl, KpB.of_below (Below.refl _ _), ?_⟩ | refine ⟨trivial, KpB.of_below (Below.refl _ _), ?_⟩ | refine ⟨KpB.of_below (Below.refl _ _), ?_⟩ | ((first | refine ⟨trivial, ?_⟩ | refine ⟨fun _ h => (by cases h), ?_⟩); gi_wp2; first | refine ⟨rfl, KpB.of_below (Below.refl _ _), ?_⟩ | refine ⟨trivial, KpB.of_below (Below.refl _ _), ?_⟩ | refine ⟨KpB.of_below (Below.refl _ _), ?_⟩)
    refine Tr.wpTree_end (A := ?AW13) rfl ?hw13 ?_
    case hw13 =>
     rintro σ hσ of hof hcl
     have HOF := lh hof
     have HCL := lh hcl
     clear hof hcl
     have hkb := HKB.out
     have hfw := hfT
     simp only [pickB]
     iterate 2 (gi_big_quiet_step (fail))
     refine wpQuietIn_nil ?_
     exact rfl
    intro W12 hW
    have hb12 : Below W3.heap.size W3 W12 := HB_W8.out.trans (hW.mono HB_W8.out.size)
    have HJE := lh (HJ.out _ _ _ HJ3.out hb12)
    have HKE := lh (HK.out.trans (KpR.of_below hb12))
    clear hW hb12 HB_W4 HB_W5 HB_W6 HB_W8
    simp only [pickB]
    refine wpT_nil ?_
    gi_wp2
    refine ⟨⟨i + 1, lh ⟨xs ++ [], hlt, by rw [HST.out, if_neg (fun h => HKD.out h.1), List.append_nil, List.append_nil]; exact HXS.out, by have h := HJE.out; simpa using h, HKE.out⟩, by rw [show ((i + 1 : Nat) : Int) = (i : Int) + 1 from by omega]; first | constructor | (rw [HAA.out]; constructor)⟩, ?_⟩
    simp [intOf] <;> omega
 ·
  obtain rfl : i = k := by have := HS.out.1; omega
  gi_wp2
  go_end0
  exact ⟨⟨_, rfl⟩, xs, HS.out.2.1, HS.out.2.2.1⟩
end
end Go.Proofs.Ythofngceiecniaa
