/- ClimbQuick: whatever the arguments, the law answers true. The row, and the card. -/
import Derived.Deep.RegionHeld3
import Derived.Sort.CutIn
import Derived.Test.YtahkjagjcogeiaaGreatDoorRows
import Derived.ProofKit
import Derived.LaidMore
import Derived.LaidHandle
import Derived.Stop.Joined
import Derived.ChangeSame
import Derived.OpenShut
import Derived.Lib.SmallJoins
import Derived.ChangeArms
import Derived.SevenTiedAt
import Derived.Test.YtahkjagjcogeiaaGreatDoorCards
import Derived.Test.YtahkjagjcogeiaaGreatDoorTie
import Derived.Test.YtahkjagjcogeiaaGreatDoorZxQuick10
set_option linter.unusedVariables false
/- The law's stroll: by links, by numbers. -/
namespace Go.Proofs.YtahkjagjcogeiaaGreatDoor
open Go.RowKit

/-- append at a step of a region that draws its order. -/
theorem step_append_any {P : Program} {w : World} {ops : Array Oper} {o : Oper} {a : Act} {K : Act → World → Prop} {Q : Exit → Act → World → Prop} {E : Prop} (hgd : o.guard = none) (s x : Operand) {t e : TypeId}
  (ho : o.op = .call { callee := .builtin .append, args := #[s, x], argTypes := #[t, t] })
  {z : Value} {size bytes : Nat} (EE : ElemAt P t e z size bytes) {base : Nat} {A : Option Addr} {n cap : Nat} {xs : List Value} (hs : a.eval s = .slice A n cap) (hown : Own w base e size A n cap xs)
  {A2 : Option Addr} {m c B : Nat} {news : List Value} (hx : a.eval x = .slice A2 m c) (hR : Reads w B size A2 m news) (h1 : ∀ u ∈ news, u.oneCell' = true) (h63 : n + m ≤ maxLen) (hbytes : (n + m) * bytes ≤ 140737488355328) (hbase : base ≤ w.heap.size)
  (h : ∀ A' cap' w', Own w' base e size A' (n + m) cap' (xs ++ news) → w.grownBy w' (A.map (·.block)) → K (a.put o.dst (.slice A' (n + m) cap')) w') :
  if Region.wanted o (yielded ops a.tmps) = true then Oper.wp P o a w K Q else E := by
 have hw : Region.wanted o (yielded ops a.tmps) = true := by simp [Region.wanted, hgd]
 rw [if_pos hw]
 obtain ⟨A', cap', w', hr, h2, h3, h4⟩ := run_append_any (P := P) w o.type EE hown hR (c := c) h1 h63 hbytes hbase
 unfold Oper.wp execOp
 simp only [ho, resolve, invoke, builtin, Sem.run_bind, Sem.run_pure, Result.andThen_ok, List.map_toArray, List.map_cons, List.map_nil, hs, hx, hr]
 exact h A' cap' w' h2 h3

theorem own_set7 {w : World} {base size n cap g : Nat} {e : TypeId} {A : Option Addr} {xs : List Value} (h : Own w base e size A n cap xs) (hg : g < base) (v0 v1 v2 v3 v4 v5 v6 : Value) :
  Own (((((((w.setCell ⟨g, 0, none⟩ v0).setCell ⟨g, 1, none⟩ v1).setCell ⟨g, 2, none⟩ v2).setCell ⟨g, 3, none⟩ v3).setCell ⟨g, 4, none⟩ v4).setCell ⟨g, 5, none⟩ v5).setCell ⟨g, 6, none⟩ v6) base e size A n cap xs :=
 h.grown (grown_setCell (grown_setCell (grown_setCell (grown_setCell (grown_setCell (grown_setCell (grown_setCell (grown_refl w (some g)) (p := ⟨g, 0, none⟩) (.inl rfl) v0) (p := ⟨g, 1, none⟩) (.inl rfl) v1) (p := ⟨g, 2, none⟩) (.inl rfl) v2) (p := ⟨g, 3, none⟩) (.inl rfl) v3) (p := ⟨g, 4, none⟩) (.inl rfl) v4) (p := ⟨g, 5, none⟩) (.inl rfl) v5) (p := ⟨g, 6, none⟩) (.inl rfl) v6)
  (fun a ha e => by have := (h.lt ha).1; have := Option.some.inj e; omega)
/-- Three blocks below a row that is appended to. -/
theorem Lay.grown_own {w W W' : World} {B : Nat} {row : Option Nat} {t0 t1 t2 : TypeId} {c0 c1 c2 : Array Value} (h : Lay w W [(w.heap.size, t0, c0), (w.heap.size + 1, t1, c1), (w.heap.size + 1 + 1, t2, c2)]) (hg : W.grownBy W' row) (hr : ∀ j, row = some j → B ≤ j) (hB : w.heap.size + 1 + 1 < B) : Lay w W' [(w.heap.size, t0, c0), (w.heap.size + 1, t1, c1), (w.heap.size + 1 + 1, t2, c2)] :=
 lay3 (h.1.grown hg h.1.size (fun j hj => by have := hr j hj; omega)) (Nat.le_refl _) ((h.blk 0 rfl).grown hg (fun e => by have := hr _ e.symm; omega)) ((h.blk 1 rfl).grown hg (fun e => by have := hr _ e.symm; omega)) ((h.blk 2 rfl).grown hg (fun e => by have := hr _ e.symm; omega))

def StrollOut (w : World) (t : Town) (dk : Bool) (u : Int) (n : Nat) (e : Ending) (w' : World) : Prop :=
 ∃ (g : Gone) (l : List Int) (B : Option Addr) (q : Nat), e = .returned (.tuple #[g.val, .slice B l.length q]) ∧ Strolled t dk u n g l ∧ IntsAt w' w'.heap.size B l.length l ∧ Below w.heap.size w w' ∧ l.length ≤ q

set_option maxRecDepth 100000 in
set_option maxHeartbeats 8000000 in
theorem stroll_any (A : Option Addr) (n c : Nat) (A' : Option Addr) (m d : Nat) (t : Town) (u v : Int) (dk : Bool) (A2 : Option Addr) (n2 c2 : Nat) (l : List Nat) (w : World) (hm : m ≤ 20) (hk : n2 ≤ maxLen) (ht : LinksAt w w.heap.size A' m t.links) (hf : Fine t) (hr : BytesAt w w.heap.size A2 n2 l) :
  Calls Tryz.prog 19 #[.agg #[.slice A n c, .slice A' m d], .int .i64 u, .int .i64 v, .bool dk, .slice A2 n2 c2] w (StrollOut w t dk u n2) := by
 unfold maxLen at hk
 have HT := Lib.hid ht
 have HR := Lib.hid hr
 have HF := Lib.hid hf
 have HLm := Lib.hid ht.len
 clear ht hr hf
 have HLay := Lib.hid (Lay.three w 25 #[.slice A n c, .slice A' m d] 39 #[.int .i64 0, .int .i64 0, .int .i64 0, .int .i64 0, .int .i64 0, .int .i64 0, .int .i64 0] 39 #[.int .i64 u, .int .i64 0, .int .i64 0, .int .i64 0, .int .i64 0, .int .i64 0, .int .i64 0])
 go_enter Tryz.func19, Tryz.ntmps19
 go_upto_region 3 with fail
 generalize (((w.alloc (.cells #[.slice A n c, .slice A' m d] 25)).alloc (.cells #[.int .i64 0, .int .i64 0, .int .i64 0, .int .i64 0, .int .i64 0, .int .i64 0, .int .i64 0] 39)).alloc (.cells #[.int .i64 u, .int .i64 0, .int .i64 0, .int .i64 0, .int .i64 0, .int .i64 0, .int .i64 0] 39)) = w0 at *
 have HW0 : Hid (w.heap.size + 1 + 1 < w0.heap.size) := Lib.hid (HLay.out.lt 2 rfl)
 go_wp2_with fail
 go_loopw [13, 24] (fun v13 v24 wr => ∃ (k q : Nat) (B : Option Addr) (g : Gone) (ls : List Int), k ≤ n2 ∧ v24 = .int .i64 k ∧ v13 = .slice B ls.length q ∧ ls.length ≤ 40 ∧ Hid (Lay w wr [(w.heap.size, 25, #[.slice A n c, .slice A' m d]), (w.heap.size + 1, 39, #[.int .i64 0, .int .i64 0, .int .i64 0, .int .i64 0, .int .i64 0, .int .i64 0, .int .i64 0]), (w.heap.size + 1 + 1, 39, g.vals)] ∧ Own wr w0.heap.size 3 1 B ls.length q (ls.map (Value.int .i64)) ∧ w0.heap.size ≤ wr.heap.size ∧ GW t dk (startG u) ls g ∧ ls.length ≤ k))
  (fun _ vi _ => n2 - (intOf vi).toNat)
 case atStart => exact ⟨0, 0, none, startG u, [], by omega, rfl, rfl, by simp, Lib.hid ⟨HLay.out, Own.none_ _ _ _ _, Nat.le_refl _, .nil _, by simp⟩⟩
 case round =>
  obtain ⟨k, q, B, g, ls, hkk, rfl, rfl, h40, HS⟩ := hrel
  by_cases hlt : k < n2
  ·obtain ⟨b1, o1, x, rfl, hb1, hx, cx, hx255⟩ := (HR.out.below HS.out.1.1).cell hlt
   have y0 := (HS.out.1.blk 0 rfl).cell 0
   have y1 := (HS.out.1.blk 0 rfl).cell 1
   have ly := HS.out.1.lt 0 rfl
   have g0 := (HS.out.1.blk 2 rfl).cell 0
   have lg := HS.out.1.lt 2 rfl
   clear hx hb1
   by_cases hstop : g.at_ = v ∨ m = 0 ∨ ls.length = 40
   ·have hst3 : (((g.at_ == v) = true) ∨ ((g.at_ == v) = false ∧ ((((m : Nat) : Int) == 0) = true ∨ ((((m : Nat) : Int) == 0) = false ∧ (((ls.length : Nat) : Int) == 40) = true)))) := by
     by_cases e1 : g.at_ = v
     ·exact .inl (by simpa using e1)
     ·refine .inr ⟨by simpa using e1, ?_⟩
      by_cases e2 : m = 0
      ·exact .inl (by simp; omega)
      ·refine .inr ⟨by simp; omega, ?_⟩
       rcases hstop with h | h | h
       ·exact absurd h e1
       ·exact absurd h e2
       ·simp; omega
    clear hstop g0 lg
    rcases hst3 with e1 | ⟨e1, e2 | ⟨e2, e3⟩⟩
    all_goals
     have ga0 := (HS.out.1.blk 2 rfl).cell 0
     have ga1 := (HS.out.1.blk 2 rfl).cell 1
     have ga2 := (HS.out.1.blk 2 rfl).cell 2
     have ga3 := (HS.out.1.blk 2 rfl).cell 3
     have ga4 := (HS.out.1.blk 2 rfl).cell 4
     have ga5 := (HS.out.1.blk 2 rfl).cell 5
     have ga6 := (HS.out.1.blk 2 rfl).cell 6
     have oa0 := (HS.out.1.blk 1 rfl).cell 0
     have oz0 := (HS.out.1.blk 1 rfl).frozen 0
     have oa1 := (HS.out.1.blk 1 rfl).cell 1
     have oz1 := (HS.out.1.blk 1 rfl).frozen 1
     have oa2 := (HS.out.1.blk 1 rfl).cell 2
     have oz2 := (HS.out.1.blk 1 rfl).frozen 2
     have oa3 := (HS.out.1.blk 1 rfl).cell 3
     have oz3 := (HS.out.1.blk 1 rfl).frozen 3
     have oa4 := (HS.out.1.blk 1 rfl).cell 4
     have oz4 := (HS.out.1.blk 1 rfl).frozen 4
     have oa5 := (HS.out.1.blk 1 rfl).cell 5
     have oz5 := (HS.out.1.blk 1 rfl).frozen 5
     have oa6 := (HS.out.1.blk 1 rfl).cell 6
     have oz6 := (HS.out.1.blk 1 rfl).frozen 6
     have gal := HS.out.1.lt 2 rfl
     have oal := HS.out.1.lt 1 rfl
     go_wp2_with fail
     have R1 := ret7 (HS.out.1.blk 1 rfl) HS.out.1.1 (by omega) (.int .i64 g.at_) (.int .i64 g.up) (.int .i64 g.paces) (.int .i64 g.paces) (.int .i64 g.up) (.int .i64 g.steps) (.int .i64 g.longer)
     have HO9 := Lib.hid (own_set7 HS.out.2.1 (show w.heap.size + 1 < w0.heap.size by have := HW0.out; omega) (.int .i64 g.at_) (.int .i64 g.up) (.int .i64 g.paces) (.int .i64 g.paces) (.int .i64 g.up) (.int .i64 g.steps) (.int .i64 g.longer))
     have r0 := R1.1.cell 0
     have r1 := R1.1.cell 1
     have r2 := R1.1.cell 2
     have r3 := R1.1.cell 3
     have r4 := R1.1.cell 4
     have r5 := R1.1.cell 5
     have r6 := R1.1.cell 6
     refine bodyPost_ret (v := .tuple #[g.val, .slice B ls.length q]) (by simp [results, Tryz.results19, go_sem, r0, r1, r2, r3, r4, r5, r6]) rfl ⟨g, ls, B, q, rfl, ⟨HS.out.2.2.2.1, h40, by have := HS.out.2.2.2.2; omega⟩, ints_of_own HO9.out (Nat.le_refl _), R1.2, HO9.out.cap_le.1⟩
   ·simp only [not_or] at hstop
    obtain ⟨hs1, hs2, hs3⟩ := hstop
    have hs1' : (g.at_ == v) = false := by simpa using hs1
    have hs2' : (((m : Nat) : Int) == 0) = false := by simp; omega
    have hs3' : (((ls.length : Nat) : Int) == 40) = false := by simp; omega
    have hm0 : 0 < m := by omega
    have h39 : ls.length ≤ 39 := by omega
    clear hs1 hs2 hs3
    go_wp2_with fail
    clear y0 y1 ly g0 lg cx hs1' hs2' hs3'
    go_loopw [13, 46] (fun v13 v46 wr2 => ∃ (j : Nat), j ≤ m ∧ v46 = .int .i64 j ∧ v13 = .slice B ls.length q ∧ Hid (Lay w wr2 [(w.heap.size, 25, #[.slice A n c, .slice A' m d]), (w.heap.size + 1, 39, #[.int .i64 0, .int .i64 0, .int .i64 0, .int .i64 0, .int .i64 0, .int .i64 0, .int .i64 0]), (w.heap.size + 1 + 1, 39, g.vals)] ∧ Own wr2 w0.heap.size 3 1 B ls.length q (ls.map (Value.int .i64)) ∧ w0.heap.size ≤ wr2.heap.size))
     (fun _ vj _ => m - (intOf vj).toNat)
    case atStart => exact ⟨0, by omega, rfl, rfl, Lib.hid ⟨HS.out.1, HS.out.2.1, HS.out.2.2.1⟩⟩
    case round =>
     rename World => wr2
     obtain ⟨j, hj, rfl, rfl, HJ⟩ := hrel
     by_cases hjm : j < m
     ·have hrm : (x + j) % m < m := Nat.mod_lt _ hm0
      have HM : Hid (Int.tmod ((x : Int) + (j : Int)) (m : Int) = (((x + j) % m : Nat) : Int)) := Lib.hid (by rw [Int.tmod_eq_emod_of_nonneg (by omega)]; push_cast; rfl)
      obtain ⟨r, hrq⟩ : ∃ r, (x + j) % m = r := ⟨_, rfl⟩
      rw [hrq] at HM hrm
      obtain ⟨b2, off2, y, rfl, hb2, hy, h0, h1, h2, h3, h4⟩ := (HT.out.below HJ.out.1.1).cell hrm
      have HY := Lib.hid hy
      have hbl2 : b2 < wr2.heap.size := Nat.lt_of_lt_of_le hb2 HJ.out.1.1.size
      clear hy hrq
      have K0 : wr2.drew.cell? ⟨w.heap.size, 1, none⟩ = some (.slice (some ⟨b2, off2, none⟩) m d) ∧ wr2.drew.cell? ⟨b2, off2 + r * 5, none⟩ = some (.int .i64 y.id) ∧ wr2.drew.cell? ⟨b2, off2 + r * 5 + 1, none⟩ = some (.int .i64 y.fr) ∧ wr2.drew.cell? ⟨b2, off2 + r * 5 + 2, none⟩ = some (.int .i64 y.to) ∧ wr2.drew.cell? ⟨b2, off2 + r * 5 + 3, none⟩ = some (.int .i64 y.steps) ∧ wr2.drew.cell? ⟨b2, off2 + r * 5 + 4, none⟩ = some (.int .i64 y.paces) := ⟨(HJ.out.1.blk 0 rfl).cell 1, h0, h1, h2, h3, h4⟩
      have lyt := HJ.out.1.lt 0 rfl
      have KK := Lib.hid (fun (W' : World) (hb : Below wr2.heap.size wr2 W') => (show W'.cell? ⟨w.heap.size, 1, none⟩ = some (.slice (some ⟨b2, off2, none⟩) m d) ∧ W'.cell? ⟨b2, off2 + r * 5, none⟩ = some (.int .i64 y.id) ∧ W'.cell? ⟨b2, off2 + r * 5 + 1, none⟩ = some (.int .i64 y.fr) ∧ W'.cell? ⟨b2, off2 + r * 5 + 2, none⟩ = some (.int .i64 y.to) ∧ W'.cell? ⟨b2, off2 + r * 5 + 3, none⟩ = some (.int .i64 y.steps) ∧ W'.cell? ⟨b2, off2 + r * 5 + 4, none⟩ = some (.int .i64 y.paces) from ⟨(hb.cell (p := ⟨w.heap.size, 1, none⟩) (HJ.out.1.lt 0 rfl)).trans ((HJ.out.1.blk 0 rfl).cell 1), (hb.cell (p := ⟨b2, off2 + r * 5, none⟩) hbl2).trans h0, (hb.cell (p := ⟨b2, off2 + r * 5 + 1, none⟩) hbl2).trans h1, (hb.cell (p := ⟨b2, off2 + r * 5 + 2, none⟩) hbl2).trans h2, (hb.cell (p := ⟨b2, off2 + r * 5 + 3, none⟩) hbl2).trans h3, (hb.cell (p := ⟨b2, off2 + r * 5 + 4, none⟩) hbl2).trans h4⟩))
      have r0 : (0 : Int) ≤ (r : Int) := by omega
      have rm : (r : Int) < (m : Int) := by omega
      have wxj : IntKind.i64.wrap ((x : Int) + (j : Int)) = (x : Int) + (j : Int) := IntWalk.i64_in _ (by omega)
      have hm1 : ((m : Nat) : Int) ≠ 0 := by omega
      have htm := HM.out
      have hmn : ¬ m = 0 := by omega
      have hmn2 : (m == 0) = false := by simp; omega
      have wx : IntKind.i64.wrap (x : Int) = (x : Int) := IntWalk.i64_in _ (by omega)
      have hmz : (((m : Nat) : Int) == 0) = false := by simp; omega
      have wrr : IntKind.i64.wrap (r : Int) = (r : Int) := IntWalk.i64_in _ (by omega)
      go_wp2_with fail
      go_region_held3 (fun w' => w'.cell? ⟨w.heap.size, 1, none⟩ = some (.slice (some ⟨b2, off2, none⟩) m d) ∧ w'.cell? ⟨b2, off2 + r * 5, none⟩ = some (.int .i64 y.id) ∧ w'.cell? ⟨b2, off2 + r * 5 + 1, none⟩ = some (.int .i64 y.fr) ∧ w'.cell? ⟨b2, off2 + r * 5 + 2, none⟩ = some (.int .i64 y.to) ∧ w'.cell? ⟨b2, off2 + r * 5 + 3, none⟩ = some (.int .i64 y.steps) ∧ w'.cell? ⟨b2, off2 + r * 5 + 4, none⟩ = some (.int .i64 y.paces))
       (first | with_reducible assumption | exact KK.out _ (below_drewN ((Below.refl wr2.heap.size wr2).alloc (Nat.le_refl _) _) 1) | exact KK.out _ (below_drewN ((((((Below.refl wr2.heap.size wr2).alloc (Nat.le_refl _) _).setCell (Nat.le_refl _) _).setCell (Nat.le_refl _) _).setCell (Nat.le_refl _) _).setCell (Nat.le_refl _) _) 1) | go_keep) (fail)
      have X1 := Lib.hid ((Blk.new wr2 52 #[.int .i64 y.id, .int .i64 y.fr, .int .i64 y.to, .int .i64 y.steps, .int .i64 y.paces]).drewN 1)
      have HB3 : Below wr2.heap.size wr2 (wr2.alloc (.cells #[.int .i64 y.id, .int .i64 y.fr, .int .i64 y.to, .int .i64 y.steps, .int .i64 y.paces] 52)).drew := below_drewN ((Below.refl wr2.heap.size wr2).alloc (Nat.le_refl _) _) 1
      have HL3 := Lib.hid (HJ.out.1.below HB3)
      have HO3 := Lib.hid (HJ.out.2.1.below HB3 (Nat.le_refl _))
      have HZ3 := Lib.hid (Nat.le_trans HJ.out.2.2 HB3.size)
      clear HB3 K0 KK h0 h1 h2 h3 h4 wxj wx wrr htm hmn hmn2 hmz hm1 lyt rm r0 hbl2 hb2
      replace X1 := Lib.hid (show Blk (wr2.alloc (.cells #[.int .i64 y.id, .int .i64 y.fr, .int .i64 y.to, .int .i64 y.steps, .int .i64 y.paces] 52)).drew wr2.heap.size 52 #[.int .i64 y.id, .int .i64 y.fr, .int .i64 y.to, .int .i64 y.steps, .int .i64 y.paces] from X1.out)
      generalize (wr2.alloc (.cells #[.int .i64 y.id, .int .i64 y.fr, .int .i64 y.to, .int .i64 y.steps, .int .i64 y.paces] 52)).drew = w3 at *
      have HXM := Lib.hid (List.mem_of_getElem? HY.out)
      have HIN := Lib.hid (show g.In ls.length from by have := HS.out.2.2.2.1.in_ HF.out (startG_in u); rwa [Nat.zero_add] at this)
      have p0 := (HL3.out.blk 2 rfl).cell 0
      have p1 := (HL3.out.blk 2 rfl).cell 1
      have p2 := (HL3.out.blk 2 rfl).cell 2
      have p3 := (HL3.out.blk 2 rfl).cell 3
      have p4 := (HL3.out.blk 2 rfl).cell 4
      have p5 := (HL3.out.blk 2 rfl).cell 5
      have p6 := (HL3.out.blk 2 rfl).cell 6
      have pl := HL3.out.lt 2 rfl
      have x0 := X1.out.cell 0
      have x1 := X1.out.cell 1
      have x2 := X1.out.cell 2
      have x3 := X1.out.cell 3
      have x4 := X1.out.cell 4
      have xl := X1.out.lt
      go_wp2_with fail
      refine (goes_any g y dk ls.length w3 HIN.out (by omega) (HF.out.steps y HXM.out) (HF.out.paces y HXM.out)).mono ?_
      rintro e w4 ⟨rfl, hb4⟩
      have HL4 := Lib.hid (HL3.out.below hb4)
      have HO4 := Lib.hid (HO3.out.below hb4 (Nat.le_refl _))
      have HZ4 := Lib.hid (Nat.le_trans HZ3.out hb4.size)
      have X4 := Lib.hid (X1.out.below hb4 X1.out.lt)
      clear hb4 X1 HL3 HO3 HZ3 x0 x1 x2 x3 x4 xl p0 p1 p2 p3 p4 p5 p6 pl
      cases hgo : goesF dk y g with
      | none =>
       have HG0 := Lib.hid hgo
       have hgp : goesP dk y g = (g, false) := by unfold goesP; rw [hgo]
       rw [hgp]
       clear hgo hgp
       have HB5 : Below w4.heap.size w4 (w4.alloc (.cells #[.int .i64 g.at_, .int .i64 g.up, .int .i64 g.paces, .int .i64 g.paces, .int .i64 g.up, .int .i64 g.steps, .int .i64 g.longer] 39)) := (Below.refl w4.heap.size w4).alloc (Nat.le_refl _) _
       have HL5 := Lib.hid (HL4.out.below HB5)
       have HO5 := Lib.hid (HO4.out.below HB5 (Nat.le_refl _))
       have HZ5 := Lib.hid (Nat.le_trans HZ4.out HB5.size)
       clear HB5
       go_wp2_with fail
       go_roundw
       case rel => exact ⟨j + 1, by omega, by go_num, rfl, Lib.hid ⟨HL5.out, HO5.out, HZ5.out⟩⟩
       case measure => simp [intOf]; omega
      | some g' =>
       have HG0 := Lib.hid hgo
       have hgp : goesP dk y g = (g', true) := by unfold goesP; rw [hgo]
       rw [hgp]
       clear hgo hgp
       have HB5 : Below w4.heap.size w4 (w4.alloc (.cells #[.int .i64 g'.at_, .int .i64 g'.up, .int .i64 g'.paces, .int .i64 g'.paces, .int .i64 g'.up, .int .i64 g'.steps, .int .i64 g'.longer] 39)) := (Below.refl w4.heap.size w4).alloc (Nat.le_refl _) _
       have HL5 := Lib.hid (HL4.out.below HB5)
       have HO5 := Lib.hid (HO4.out.below HB5 (Nat.le_refl _))
       have HZ5 := Lib.hid (Nat.le_trans HZ4.out HB5.size)
       have X5 := Lib.hid (X4.out.below HB5 X4.out.lt)
       have Y5 := Lib.hid (Blk.new w4 39 #[.int .i64 g'.at_, .int .i64 g'.up, .int .i64 g'.paces, .int .i64 g'.paces, .int .i64 g'.up, .int .i64 g'.steps, .int .i64 g'.longer])
       have HO18 := Lib.hid HZ4.out
       have HO19 := Lib.hid X4.out.lt
       clear HB5 X4 HL4 HO4 HZ4
       go_upto_region 13 with fail
       obtain ⟨G18, hG⟩ : ∃ G, w4.heap.size = G := ⟨_, rfl⟩
       rw [hG] at Y5 HO18 HO19 ⊢
       clear hG
       generalize (w4.alloc (.cells #[.int .i64 g'.at_, .int .i64 g'.up, .int .i64 g'.paces, .int .i64 g'.paces, .int .i64 g'.up, .int .i64 g'.steps, .int .i64 g'.longer] 39)) = w5 at *
       have K0 : w5.drew.cell? ⟨wr2.heap.size, 0, none⟩ = some (.int .i64 y.id) ∧ w5.drew.cell? ⟨G18, 0, none⟩ = some (.int .i64 g'.at_) ∧ w5.drew.cell? ⟨G18, 1, none⟩ = some (.int .i64 g'.up) ∧ w5.drew.cell? ⟨G18, 2, none⟩ = some (.int .i64 g'.paces) ∧ w5.drew.cell? ⟨G18, 3, none⟩ = some (.int .i64 g'.paces) ∧ w5.drew.cell? ⟨G18, 4, none⟩ = some (.int .i64 g'.up) ∧ w5.drew.cell? ⟨G18, 5, none⟩ = some (.int .i64 g'.steps) ∧ w5.drew.cell? ⟨G18, 6, none⟩ = some (.int .i64 g'.longer) := ⟨X5.out.cell 0, Y5.out.cell 0, Y5.out.cell 1, Y5.out.cell 2, Y5.out.cell 3, Y5.out.cell 4, Y5.out.cell 5, Y5.out.cell 6⟩
       have hl2 := HL5.out.lt 2 rfl
       have hlx := X5.out.lt
       have hly := Y5.out.lt
       have hne8 : G18 ≠ w.heap.size + 1 + 1 := by have := HO18.out; have := HW0.out; omega
       have hnx8 : wr2.heap.size ≠ w.heap.size + 1 + 1 := by have := HJ.out.2.2; have := HW0.out; omega
       have HR8 : Hid (∀ j, B.map (·.block) = some j → j < wr2.heap.size) := Lib.hid (fun j hj => by
        cases B with
        | none => cases hj
        | some a => have := (HJ.out.2.1.lt rfl).2; simp at hj; omega)
       have HOB : Hid (Blk (w5.alloc (.cells #[.int .i64 y.id] 3)).drew w5.heap.size 3 #[.int .i64 y.id]) := Lib.hid ((Blk.new _ _ _).drewN 1)
       have HOW := Lib.hid ((HO5.out.alloc (.cells #[.int .i64 y.id] 3)).drewN 1)
       have HB6 : Below w5.heap.size w5 (w5.alloc (.cells #[.int .i64 y.id] 3)).drew := below_drewN ((Below.refl w5.heap.size w5).alloc (Nat.le_refl _) _) 1
       have HL6 := Lib.hid (HL5.out.below HB6)
       have HZ6 := Lib.hid (Nat.le_trans HZ5.out HB6.size)
       have X6 := Lib.hid (X5.out.below HB6 X5.out.lt)
       have Y6 := Lib.hid (Y5.out.below HB6 Y5.out.lt)
       have K1 : (w5.alloc (.cells #[.int .i64 y.id] 3)).drew.cell? ⟨wr2.heap.size, 0, none⟩ = some (.int .i64 y.id) ∧ (w5.alloc (.cells #[.int .i64 y.id] 3)).drew.cell? ⟨G18, 0, none⟩ = some (.int .i64 g'.at_) ∧ (w5.alloc (.cells #[.int .i64 y.id] 3)).drew.cell? ⟨G18, 1, none⟩ = some (.int .i64 g'.up) ∧ (w5.alloc (.cells #[.int .i64 y.id] 3)).drew.cell? ⟨G18, 2, none⟩ = some (.int .i64 g'.paces) ∧ (w5.alloc (.cells #[.int .i64 y.id] 3)).drew.cell? ⟨G18, 3, none⟩ = some (.int .i64 g'.paces) ∧ (w5.alloc (.cells #[.int .i64 y.id] 3)).drew.cell? ⟨G18, 4, none⟩ = some (.int .i64 g'.up) ∧ (w5.alloc (.cells #[.int .i64 y.id] 3)).drew.cell? ⟨G18, 5, none⟩ = some (.int .i64 g'.steps) ∧ (w5.alloc (.cells #[.int .i64 y.id] 3)).drew.cell? ⟨G18, 6, none⟩ = some (.int .i64 g'.longer) := ⟨X6.out.cell 0, Y6.out.cell 0, Y6.out.cell 1, Y6.out.cell 2, Y6.out.cell 3, Y6.out.cell 4, Y6.out.cell 5, Y6.out.cell 6⟩
       have hls : ls.length + 1 ≤ maxLen := by unfold maxLen; omega
       go_region_held3 (fun w' => w'.cell? ⟨wr2.heap.size, 0, none⟩ = some (.int .i64 y.id) ∧ w'.cell? ⟨G18, 0, none⟩ = some (.int .i64 g'.at_) ∧ w'.cell? ⟨G18, 1, none⟩ = some (.int .i64 g'.up) ∧ w'.cell? ⟨G18, 2, none⟩ = some (.int .i64 g'.paces) ∧ w'.cell? ⟨G18, 3, none⟩ = some (.int .i64 g'.paces) ∧ w'.cell? ⟨G18, 4, none⟩ = some (.int .i64 g'.up) ∧ w'.cell? ⟨G18, 5, none⟩ = some (.int .i64 g'.steps) ∧ w'.cell? ⟨G18, 6, none⟩ = some (.int .i64 g'.longer))
        (first | with_reducible assumption | exact ⟨(set7_far X8.out hnx8 (.int .i64 g'.at_) (.int .i64 g'.up) (.int .i64 g'.paces) (.int .i64 g'.paces) (.int .i64 g'.up) (.int .i64 g'.steps) (.int .i64 g'.longer)).cell 0, (set7_far Y8.out hne8 (.int .i64 g'.at_) (.int .i64 g'.up) (.int .i64 g'.paces) (.int .i64 g'.paces) (.int .i64 g'.up) (.int .i64 g'.steps) (.int .i64 g'.longer)).cell 0, (set7_far Y8.out hne8 (.int .i64 g'.at_) (.int .i64 g'.up) (.int .i64 g'.paces) (.int .i64 g'.paces) (.int .i64 g'.up) (.int .i64 g'.steps) (.int .i64 g'.longer)).cell 1, (set7_far Y8.out hne8 (.int .i64 g'.at_) (.int .i64 g'.up) (.int .i64 g'.paces) (.int .i64 g'.paces) (.int .i64 g'.up) (.int .i64 g'.steps) (.int .i64 g'.longer)).cell 2, (set7_far Y8.out hne8 (.int .i64 g'.at_) (.int .i64 g'.up) (.int .i64 g'.paces) (.int .i64 g'.paces) (.int .i64 g'.up) (.int .i64 g'.steps) (.int .i64 g'.longer)).cell 3, (set7_far Y8.out hne8 (.int .i64 g'.at_) (.int .i64 g'.up) (.int .i64 g'.paces) (.int .i64 g'.paces) (.int .i64 g'.up) (.int .i64 g'.steps) (.int .i64 g'.longer)).cell 4, (set7_far Y8.out hne8 (.int .i64 g'.at_) (.int .i64 g'.up) (.int .i64 g'.paces) (.int .i64 g'.paces) (.int .i64 g'.up) (.int .i64 g'.steps) (.int .i64 g'.longer)).cell 5, (set7_far Y8.out hne8 (.int .i64 g'.at_) (.int .i64 g'.up) (.int .i64 g'.paces) (.int .i64 g'.paces) (.int .i64 g'.up) (.int .i64 g'.steps) (.int .i64 g'.longer)).cell 6⟩)
        (first | ((refine step_append_any (by rfl) (.tmp 70) (.tmp 73) (by rfl) elem_int (by rfl) HOW.out (by rfl) (one_int (x := y.id) HOB.out.lt (HOB.out.cell 0)) (ints_one _) hls (by omega) HZ6.out ?_); rintro A8 c8 w8 hown hgr; (have HO8 : Hid (Own w8 w0.heap.size 3 1 A8 (ls.length + 1) c8 ((ls ++ [y.id]).map (Value.int .i64))) := Lib.hid (by rw [List.map_append]; exact hown));  (have X8 := Lib.hid (X6.out.grown hgr (fun e => by have := HR8.out _ e.symm; have := HO19.out; omega))); (have Y8 := Lib.hid (Y6.out.grown hgr (fun e => by have := HR8.out _ e.symm; have := HO19.out; omega))); (have HL8 := Lib.hid (HL6.out.grown_own hgr (fun j hj => own_row HOW.out hj) HW0.out)); (have HZ8 := Lib.hid (Nat.le_trans HZ6.out hgr.size)); (have L8 := Lib.hid ((HL6.out.blk 2 rfl).grown hgr (fun e => by have := own_row HOW.out e.symm; have := HW0.out; omega))); (have q0 := L8.out.cell 0); (have qz0 := L8.out.frozen 0); (have q1 := L8.out.cell 1); (have qz1 := L8.out.frozen 1); (have q2 := L8.out.cell 2); (have qz2 := L8.out.frozen 2); (have q3 := L8.out.cell 3); (have qz3 := L8.out.frozen 3); (have q4 := L8.out.cell 4); (have qz4 := L8.out.frozen 4); (have q5 := L8.out.cell 5); (have qz5 := L8.out.frozen 5); (have q6 := L8.out.cell 6); (have qz6 := L8.out.frozen 6); (have ql := L8.out.lt); (have K8 : w8.cell? ⟨wr2.heap.size, 0, none⟩ = some (.int .i64 y.id) ∧ w8.cell? ⟨G18, 0, none⟩ = some (.int .i64 g'.at_) ∧ w8.cell? ⟨G18, 1, none⟩ = some (.int .i64 g'.up) ∧ w8.cell? ⟨G18, 2, none⟩ = some (.int .i64 g'.paces) ∧ w8.cell? ⟨G18, 3, none⟩ = some (.int .i64 g'.paces) ∧ w8.cell? ⟨G18, 4, none⟩ = some (.int .i64 g'.up) ∧ w8.cell? ⟨G18, 5, none⟩ = some (.int .i64 g'.steps) ∧ w8.cell? ⟨G18, 6, none⟩ = some (.int .i64 g'.longer) := ⟨X8.out.cell 0, Y8.out.cell 0, Y8.out.cell 1, Y8.out.cell 2, Y8.out.cell 3, Y8.out.cell 4, Y8.out.cell 5, Y8.out.cell 6⟩)) | fail)
       have HL9 : Hid (Lay w (((((((w8.setCell ⟨w.heap.size + 1 + 1, 0, none⟩ (.int .i64 g'.at_)).setCell ⟨w.heap.size + 1 + 1, 1, none⟩ (.int .i64 g'.up)).setCell ⟨w.heap.size + 1 + 1, 2, none⟩ (.int .i64 g'.paces)).setCell ⟨w.heap.size + 1 + 1, 3, none⟩ (.int .i64 g'.paces)).setCell ⟨w.heap.size + 1 + 1, 4, none⟩ (.int .i64 g'.up)).setCell ⟨w.heap.size + 1 + 1, 5, none⟩ (.int .i64 g'.steps)).setCell ⟨w.heap.size + 1 + 1, 6, none⟩ (.int .i64 g'.longer)) [(w.heap.size, 25, #[.slice A n c, .slice (some ⟨b2, off2, none⟩) m d]), (w.heap.size + 1, 39, #[.int .i64 0, .int .i64 0, .int .i64 0, .int .i64 0, .int .i64 0, .int .i64 0, .int .i64 0]), (w.heap.size + 1 + 1, 39, g'.vals)]) := Lib.hid (by
        have R7 := ret7 (HL8.out.blk 2 rfl) HL8.out.1 (by omega) (.int .i64 g'.at_) (.int .i64 g'.up) (.int .i64 g'.paces) (.int .i64 g'.paces) (.int .i64 g'.up) (.int .i64 g'.steps) (.int .i64 g'.longer)
        exact lay3 R7.2 (Nat.le_refl _) (set7_far (HL8.out.blk 0 rfl) (show w.heap.size ≠ w.heap.size + 1 + 1 by omega) (.int .i64 g'.at_) (.int .i64 g'.up) (.int .i64 g'.paces) (.int .i64 g'.paces) (.int .i64 g'.up) (.int .i64 g'.steps) (.int .i64 g'.longer)) (set7_far (HL8.out.blk 1 rfl) (show w.heap.size + 1 ≠ w.heap.size + 1 + 1 by omega) (.int .i64 g'.at_) (.int .i64 g'.up) (.int .i64 g'.paces) (.int .i64 g'.paces) (.int .i64 g'.up) (.int .i64 g'.steps) (.int .i64 g'.longer)) R7.1)
       have HO9 : Hid (Own (((((((w8.setCell ⟨w.heap.size + 1 + 1, 0, none⟩ (.int .i64 g'.at_)).setCell ⟨w.heap.size + 1 + 1, 1, none⟩ (.int .i64 g'.up)).setCell ⟨w.heap.size + 1 + 1, 2, none⟩ (.int .i64 g'.paces)).setCell ⟨w.heap.size + 1 + 1, 3, none⟩ (.int .i64 g'.paces)).setCell ⟨w.heap.size + 1 + 1, 4, none⟩ (.int .i64 g'.up)).setCell ⟨w.heap.size + 1 + 1, 5, none⟩ (.int .i64 g'.steps)).setCell ⟨w.heap.size + 1 + 1, 6, none⟩ (.int .i64 g'.longer)) w0.heap.size 3 1 A8 (ls.length + 1) c8 ((ls ++ [y.id]).map (Value.int .i64))) := Lib.hid (own_set7 HO8.out HW0.out (.int .i64 g'.at_) (.int .i64 g'.up) (.int .i64 g'.paces) (.int .i64 g'.paces) (.int .i64 g'.up) (.int .i64 g'.steps) (.int .i64 g'.longer))
       have HG9 : Hid (GW t dk (startG u) (ls ++ [y.id]) g') := Lib.hid (HS.out.2.2.2.1.snoc HXM.out HG0.out)
       go_wp2_with fail
       go_roundw
       case rel => exact ⟨k + 1, c8, A8, g', ls ++ [y.id], by omega, by go_num, by simp, by simp; omega, Lib.hid ⟨HL9.out, by simpa using HO9.out, by simpa using HZ8.out, HG9.out, by have := HS.out.2.2.2.2; simp; omega⟩⟩
       case measure => simp [intOf]; omega
     ·obtain rfl : j = m := by omega
      go_wp2_with fail
      go_roundw
      case rel => exact ⟨k + 1, q, B, g, ls, by omega, by go_num, rfl, h40, Lib.hid ⟨HJ.out.1, HJ.out.2.1, HJ.out.2.2, HS.out.2.2.2.1, by have := HS.out.2.2.2.2; omega⟩⟩
      case measure => simp [intOf]; omega
  ·obtain rfl : k = n2 := by omega
   have ga0 := (HS.out.1.blk 2 rfl).cell 0
   have ga1 := (HS.out.1.blk 2 rfl).cell 1
   have ga2 := (HS.out.1.blk 2 rfl).cell 2
   have ga3 := (HS.out.1.blk 2 rfl).cell 3
   have ga4 := (HS.out.1.blk 2 rfl).cell 4
   have ga5 := (HS.out.1.blk 2 rfl).cell 5
   have ga6 := (HS.out.1.blk 2 rfl).cell 6
   have oa0 := (HS.out.1.blk 1 rfl).cell 0
   have oz0 := (HS.out.1.blk 1 rfl).frozen 0
   have oa1 := (HS.out.1.blk 1 rfl).cell 1
   have oz1 := (HS.out.1.blk 1 rfl).frozen 1
   have oa2 := (HS.out.1.blk 1 rfl).cell 2
   have oz2 := (HS.out.1.blk 1 rfl).frozen 2
   have oa3 := (HS.out.1.blk 1 rfl).cell 3
   have oz3 := (HS.out.1.blk 1 rfl).frozen 3
   have oa4 := (HS.out.1.blk 1 rfl).cell 4
   have oz4 := (HS.out.1.blk 1 rfl).frozen 4
   have oa5 := (HS.out.1.blk 1 rfl).cell 5
   have oz5 := (HS.out.1.blk 1 rfl).frozen 5
   have oa6 := (HS.out.1.blk 1 rfl).cell 6
   have oz6 := (HS.out.1.blk 1 rfl).frozen 6
   have gal := HS.out.1.lt 2 rfl
   have oal := HS.out.1.lt 1 rfl
   go_wp2_with fail
   have R1 := ret7 (HS.out.1.blk 1 rfl) HS.out.1.1 (by omega) (.int .i64 g.at_) (.int .i64 g.up) (.int .i64 g.paces) (.int .i64 g.paces) (.int .i64 g.up) (.int .i64 g.steps) (.int .i64 g.longer)
   have HO9 := Lib.hid (own_set7 HS.out.2.1 (show w.heap.size + 1 < w0.heap.size by have := HW0.out; omega) (.int .i64 g.at_) (.int .i64 g.up) (.int .i64 g.paces) (.int .i64 g.paces) (.int .i64 g.up) (.int .i64 g.steps) (.int .i64 g.longer))
   have r0 := R1.1.cell 0
   have r1 := R1.1.cell 1
   have r2 := R1.1.cell 2
   have r3 := R1.1.cell 3
   have r4 := R1.1.cell 4
   have r5 := R1.1.cell 5
   have r6 := R1.1.cell 6
   refine bodyPost_ret (v := .tuple #[g.val, .slice B ls.length q]) (by simp [results, Tryz.results19, go_sem, r0, r1, r2, r3, r4, r5, r6]) rfl ⟨g, ls, B, q, rfl, ⟨HS.out.2.2.2.1, h40, by have := HS.out.2.2.2.2; omega⟩, ints_of_own HO9.out (Nat.le_refl _), R1.2, HO9.out.cap_le.1⟩
end Go.Proofs.YtahkjagjcogeiaaGreatDoor
/- The law's follow: links followed by their Ids. And ahead. -/
namespace Go.Proofs.YtahkjagjcogeiaaGreatDoor
open Go.RowKit

theorem fold_succ {dk : Bool} {id : Int} {ls : List Link} {s : Gone × Bool} {j : Nat} {x : Link} (hx : ls[j]? = some x) : (ls.take (j + 1)).foldl (stepFo dk id) s = stepFo dk id ((ls.take j).foldl (stepFo dk id) s) x := by
 obtain ⟨hk, rfl⟩ := List.getElem?_eq_some_iff.1 hx
 rw [List.take_succ_eq_append_getElem hk, List.foldl_append]
 rfl
theorem goesP_in {t : Town} {dk : Bool} {g : Gone} {x : Link} {k : Nat} (h : g.In k) (ht : Fine t) (hx : x ∈ t.links) : ∃ q, q ≤ k + 1 ∧ (goesP dk x g).1.In q := by
 unfold goesP
 cases hg : goesF dk x g with
 | none => exact ⟨k, by omega, h⟩
 | some g' => exact ⟨k + 1, Nat.le_refl _, goes_in h ht hx hg⟩
theorem stepFo_goes {dk : Bool} {id : Int} {s : Gone × Bool} {x : Link} (h : x.id = id) : stepFo dk id s x = goesP dk x s.1 := by
 unfold stepFo goesP
 rw [if_pos h]
 try (cases goesF dk x s.1 <;> rfl)
theorem stepFo_not {dk : Bool} {id : Int} {s : Gone × Bool} {x : Link} (h : ¬ x.id = id) : stepFo dk id s x = s := by
 unfold stepFo
 rw [if_neg h]

set_option maxRecDepth 100000 in
set_option maxHeartbeats 8000000 in
theorem follow_any (A : Option Addr) (n c : Nat) (A' : Option Addr) (m d : Nat) (t : Town) (u : Int) (A2 : Option Addr) (k2 c2 : Nat) (l : List Int) (dk : Bool) (w : World) (hm : m ≤ 20) (hk : k2 ≤ 40) (ht : LinksAt w w.heap.size A' m t.links) (hf : Fine t) (hr : IntsAt w w.heap.size A2 k2 l) :
  Calls Tryz.prog 20 #[.agg #[.slice A n c, .slice A' m d], .int .i64 u, .slice A2 k2 c2, .bool dk] w (GoesOut w (followF t dk (startG u) l)) := by
 have HT := Lib.hid ht
 have HR := Lib.hid hr
 have HF := Lib.hid hf
 have HLm := Lib.hid ht.len
 have HLl := Lib.hid hr.len
 clear ht hr hf
 have HLay := Lib.hid (Lay.three w 25 #[.slice A n c, .slice A' m d] 39 #[.int .i64 0, .int .i64 0, .int .i64 0, .int .i64 0, .int .i64 0, .int .i64 0, .int .i64 0] 39 #[.int .i64 u, .int .i64 0, .int .i64 0, .int .i64 0, .int .i64 0, .int .i64 0, .int .i64 0])
 go_enter Tryz.func20, Tryz.ntmps20
 go_upto_region 2 with fail
 generalize (((w.alloc (.cells #[.slice A n c, .slice A' m d] 25)).alloc (.cells #[.int .i64 0, .int .i64 0, .int .i64 0, .int .i64 0, .int .i64 0, .int .i64 0, .int .i64 0] 39)).alloc (.cells #[.int .i64 u, .int .i64 0, .int .i64 0, .int .i64 0, .int .i64 0, .int .i64 0, .int .i64 0] 39)) = w0 at *
 go_wp2_with fail
 go_loopw [20] (fun vi wr => ∃ (i q : Nat) (g : Gone), i ≤ k2 ∧ vi = .int .i64 i ∧ Hid (Lay w wr [(w.heap.size, 25, #[.slice A n c, .slice A' m d]), (w.heap.size + 1, 39, #[.int .i64 0, .int .i64 0, .int .i64 0, .int .i64 0, .int .i64 0, .int .i64 0, .int .i64 0]), (w.heap.size + 1 + 1, 39, g.vals)] ∧ followF t dk (startG u) l = followF t dk g (l.drop i) ∧ g.In q ∧ q ≤ i * 20))
  (fun vi _ => k2 - (intOf vi).toNat)
 case atStart => exact ⟨0, 0, startG u, by omega, rfl, Lib.hid ⟨HLay.out, rfl, startG_in u, by omega⟩⟩
 case round =>
  obtain ⟨i, q, g, hi, rfl, HS⟩ := hrel
  by_cases hlt : i < k2
  ·obtain ⟨b, off, id, rfl, hbB, hid, hc⟩ := ((HR.out.below HS.out.1.1)).cell hlt
   have HID := Lib.hid hid
   clear hid
   have y0 := (HS.out.1.blk 0 rfl).cell 0
   have y1 := (HS.out.1.blk 0 rfl).cell 1
   have ly := HS.out.1.lt 0 rfl
   go_wp2_with fail
   go_loopw [13, 27] (fun vf vj wr2 => ∃ (j q2 : Nat) (g2 : Gone) (f2 : Bool), j ≤ m ∧ vj = .int .i64 j ∧ vf = .bool f2 ∧ Hid (Lay w wr2 [(w.heap.size, 25, #[.slice A n c, .slice A' m d]), (w.heap.size + 1, 39, #[.int .i64 0, .int .i64 0, .int .i64 0, .int .i64 0, .int .i64 0, .int .i64 0, .int .i64 0]), (w.heap.size + 1 + 1, 39, g2.vals)] ∧ (t.links.take j).foldl (stepFo dk id) (g, false) = (g2, f2) ∧ g2.In q2 ∧ q2 ≤ i * 20 + j))
    (fun _ vj _ => m - (intOf vj).toNat)
   case atStart => exact ⟨0, q, g, false, by omega, rfl, rfl, Lib.hid ⟨HS.out.1, rfl, HS.out.2.2.1, HS.out.2.2.2⟩⟩
   case round =>
    rename World => wr2
    obtain ⟨j, q2, g2, f2, hj, rfl, rfl, HJ⟩ := hrel
    by_cases hjm : j < m
    ·obtain ⟨b2, off2, x, rfl, hb2, hx, h0, h1, h2, h3, h4⟩ := (HT.out.below HJ.out.1.1).cell hjm
     have HX := Lib.hid hx
     have HXM := Lib.hid (List.mem_of_getElem? hx)
     have hbl2 : b2 < wr2.heap.size := Nat.lt_of_lt_of_le hb2 HJ.out.1.1.size
     have y0 := (HJ.out.1.blk 0 rfl).cell 0
     have y1 := (HJ.out.1.blk 0 rfl).cell 1
     have ly := HJ.out.1.lt 0 rfl
     clear hx hc hb2
     go_upto_region 9 with fail
     have X1 := Blk.new wr2 52 #[.int .i64 x.id, .int .i64 x.fr, .int .i64 x.to, .int .i64 x.steps, .int .i64 x.paces]
     have HL3 := Lib.hid (HJ.out.1.below ((Below.refl wr2.heap.size wr2).alloc (Nat.le_refl _) (.cells #[.int .i64 x.id, .int .i64 x.fr, .int .i64 x.to, .int .i64 x.steps, .int .i64 x.paces] 52)))
     clear y0 y1 ly h0 h1 h2 h3 h4 hbl2
     generalize (wr2.alloc (.cells #[.int .i64 x.id, .int .i64 x.fr, .int .i64 x.to, .int .i64 x.steps, .int .i64 x.paces] 52)) = w3 at *
     have x0 := X1.cell 0
     have x1 := X1.cell 1
     have x2 := X1.cell 2
     have x3 := X1.cell 3
     have x4 := X1.cell 4
     have hxl := X1.lt
     by_cases hxi : x.id = id
     ·have HXI := Lib.hid hxi
      have HDJ : Hid ((t.links.take (j + 1)).foldl (stepFo dk id) (g, false) = goesP dk x g2) := Lib.hid (by rw [fold_succ HX.out, HJ.out.2.1, stepFo_goes hxi])
      have hxb : (x.id == id) = true := by simpa using hxi
      clear hxi
      have ga0 := (HL3.out.blk 2 rfl).cell 0
      have gz0 := (HL3.out.blk 2 rfl).frozen 0
      have ga1 := (HL3.out.blk 2 rfl).cell 1
      have gz1 := (HL3.out.blk 2 rfl).frozen 1
      have ga2 := (HL3.out.blk 2 rfl).cell 2
      have gz2 := (HL3.out.blk 2 rfl).frozen 2
      have ga3 := (HL3.out.blk 2 rfl).cell 3
      have gz3 := (HL3.out.blk 2 rfl).frozen 3
      have ga4 := (HL3.out.blk 2 rfl).cell 4
      have gz4 := (HL3.out.blk 2 rfl).frozen 4
      have ga5 := (HL3.out.blk 2 rfl).cell 5
      have gz5 := (HL3.out.blk 2 rfl).frozen 5
      have ga6 := (HL3.out.blk 2 rfl).cell 6
      have gz6 := (HL3.out.blk 2 rfl).frozen 6
      have gl := HL3.out.lt 2 rfl
      go_wp2_with fail
      refine (goes_any g2 x dk q2 w3 HJ.out.2.2.1 (by have := HJ.out.2.2.2; omega) (HF.out.steps x HXM.out) (HF.out.paces x HXM.out)).mono ?_
      rintro e w4 ⟨rfl, hb4⟩
      obtain ⟨q3, hq3, hin3⟩ := goesP_in (dk := dk) HJ.out.2.2.1 HF.out HXM.out
      have HI3 := Lib.hid hin3
      obtain ⟨⟨g3, f3⟩, hg3⟩ : ∃ r, goesP dk x g2 = r := ⟨_, rfl⟩
      rw [hg3] at HDJ HI3
      rw [hg3]
      have HL4 := Lib.hid (HL3.out.below hb4)
      clear hb4 hin3 hg3 ga0 gz0 ga1 gz1 ga2 gz2 ga3 gz3 ga4 gz4 ga5 gz5 ga6 gz6 gl x0 x1 x2 x3 x4 hxl X1
      have ga0 := (HL4.out.blk 2 rfl).cell 0
      have gz0 := (HL4.out.blk 2 rfl).frozen 0
      have ga1 := (HL4.out.blk 2 rfl).cell 1
      have gz1 := (HL4.out.blk 2 rfl).frozen 1
      have ga2 := (HL4.out.blk 2 rfl).cell 2
      have gz2 := (HL4.out.blk 2 rfl).frozen 2
      have ga3 := (HL4.out.blk 2 rfl).cell 3
      have gz3 := (HL4.out.blk 2 rfl).frozen 3
      have ga4 := (HL4.out.blk 2 rfl).cell 4
      have gz4 := (HL4.out.blk 2 rfl).frozen 4
      have ga5 := (HL4.out.blk 2 rfl).cell 5
      have gz5 := (HL4.out.blk 2 rfl).frozen 5
      have ga6 := (HL4.out.blk 2 rfl).cell 6
      have gz6 := (HL4.out.blk 2 rfl).frozen 6
      have gl := HL4.out.lt 2 rfl
      go_wp2_with fail
      have R7 := ret7 (HL4.out.blk 2 rfl) HL4.out.1 (by omega) (.int .i64 g3.at_) (.int .i64 g3.up) (.int .i64 g3.paces) (.int .i64 g3.paces) (.int .i64 g3.up) (.int .i64 g3.steps) (.int .i64 g3.longer)
      have R0 := Lib.hid (set7_far (HL4.out.blk 0 rfl) (show w.heap.size ≠ w.heap.size + 1 + 1 by omega) (.int .i64 g3.at_) (.int .i64 g3.up) (.int .i64 g3.paces) (.int .i64 g3.paces) (.int .i64 g3.up) (.int .i64 g3.steps) (.int .i64 g3.longer))
      have R1 := Lib.hid (set7_far (HL4.out.blk 1 rfl) (show w.heap.size + 1 ≠ w.heap.size + 1 + 1 by omega) (.int .i64 g3.at_) (.int .i64 g3.up) (.int .i64 g3.paces) (.int .i64 g3.paces) (.int .i64 g3.up) (.int .i64 g3.steps) (.int .i64 g3.longer))
      have HR7 := Lib.hid R7
      clear R7 ga0 gz0 ga1 gz1 ga2 gz2 ga3 gz3 ga4 gz4 ga5 gz5 ga6 gz6 gl
      go_roundw
      case rel => exact ⟨j + 1, q3, g3, f3, by omega, by go_num, rfl, Lib.hid ⟨lay3 HR7.out.2 (Nat.le_refl _) R0.out R1.out HR7.out.1, HDJ.out, HI3.out, by have := HJ.out.2.2.2; omega⟩⟩
      case measure => simp [intOf]; omega
     ·have HDJ : Hid ((t.links.take (j + 1)).foldl (stepFo dk id) (g, false) = (g2, f2)) := Lib.hid (by rw [fold_succ HX.out, HJ.out.2.1, stepFo_not hxi])
      have hxb : (x.id == id) = false := by simpa using hxi
      clear hxi
      go_wp2_with fail
      go_roundw
      case rel => exact ⟨j + 1, q2, g2, f2, by omega, by go_num, rfl, Lib.hid ⟨HL3.out, HDJ.out, HJ.out.2.2.1, by have := HJ.out.2.2.2; omega⟩⟩
      case measure => simp [intOf]; omega
    ·obtain rfl : j = m := by omega
     have HD : Hid (t.links.foldl (stepFo dk id) (g, false) = (g2, f2)) := Lib.hid (by
      have h := HJ.out.2.1
      rwa [List.take_of_length_le (by rw [HLm.out]; exact Nat.le_refl _)] at h)
     have HE : Hid (followF t dk (startG u) l = if f2 = true then followF t dk g2 (l.drop (i + 1)) else (g2, false)) := Lib.hid (by
      rw [HS.out.2.1, drop_atF HID.out, followF, HD.out]
      cases f2 <;> rfl)
     clear hc y0 y1 ly
     cases f2 with
     | true =>
      go_wp2_with fail
      go_roundw
      case rel => exact ⟨i + 1, q2, g2, by omega, by go_num, Lib.hid ⟨HJ.out.1, by rw [HE.out]; rfl, HJ.out.2.2.1, by have := HJ.out.2.2.2; omega⟩⟩
      case measure => simp [intOf]; omega
     | false =>
      have ga0 := (HJ.out.1.blk 2 rfl).cell 0
      have gz0 := (HJ.out.1.blk 2 rfl).frozen 0
      have ga1 := (HJ.out.1.blk 2 rfl).cell 1
      have gz1 := (HJ.out.1.blk 2 rfl).frozen 1
      have ga2 := (HJ.out.1.blk 2 rfl).cell 2
      have gz2 := (HJ.out.1.blk 2 rfl).frozen 2
      have ga3 := (HJ.out.1.blk 2 rfl).cell 3
      have gz3 := (HJ.out.1.blk 2 rfl).frozen 3
      have ga4 := (HJ.out.1.blk 2 rfl).cell 4
      have gz4 := (HJ.out.1.blk 2 rfl).frozen 4
      have ga5 := (HJ.out.1.blk 2 rfl).cell 5
      have gz5 := (HJ.out.1.blk 2 rfl).frozen 5
      have ga6 := (HJ.out.1.blk 2 rfl).cell 6
      have gz6 := (HJ.out.1.blk 2 rfl).frozen 6
      have gl := HJ.out.1.lt 2 rfl
      have o0 := (HJ.out.1.blk 1 rfl).cell 0
      have oz0 := (HJ.out.1.blk 1 rfl).frozen 0
      have o1 := (HJ.out.1.blk 1 rfl).cell 1
      have oz1 := (HJ.out.1.blk 1 rfl).frozen 1
      have o2 := (HJ.out.1.blk 1 rfl).cell 2
      have oz2 := (HJ.out.1.blk 1 rfl).frozen 2
      have o3 := (HJ.out.1.blk 1 rfl).cell 3
      have oz3 := (HJ.out.1.blk 1 rfl).frozen 3
      have o4 := (HJ.out.1.blk 1 rfl).cell 4
      have oz4 := (HJ.out.1.blk 1 rfl).frozen 4
      have o5 := (HJ.out.1.blk 1 rfl).cell 5
      have oz5 := (HJ.out.1.blk 1 rfl).frozen 5
      have o6 := (HJ.out.1.blk 1 rfl).cell 6
      have oz6 := (HJ.out.1.blk 1 rfl).frozen 6
      have ol := HJ.out.1.lt 1 rfl
      go_wp2_with fail
      have R1 := ret7 (HJ.out.1.blk 1 rfl) HJ.out.1.1 (by omega) (.int .i64 g2.at_) (.int .i64 g2.up) (.int .i64 g2.paces) (.int .i64 g2.paces) (.int .i64 g2.up) (.int .i64 g2.steps) (.int .i64 g2.longer)
      have r0 := R1.1.cell 0
      have r1 := R1.1.cell 1
      have r2 := R1.1.cell 2
      have r3 := R1.1.cell 3
      have r4 := R1.1.cell 4
      have r5 := R1.1.cell 5
      have r6 := R1.1.cell 6
      refine bodyPost_ret (v := .tuple #[g2.val, .bool false]) (by simp [results, Tryz.results20, go_sem, r0, r1, r2, r3, r4, r5, r6]) rfl ⟨?_, R1.2⟩
      rw [HE.out]
      rfl
  ·obtain rfl : i = k2 := by omega
   have HE : Hid (followF t dk (startG u) l = (g, true)) := Lib.hid (by
    rw [HS.out.2.1, List.drop_of_length_le (by rw [HLl.out]; exact Nat.le_refl _)]
    rfl)
   have ga0 := (HS.out.1.blk 2 rfl).cell 0
   have gz0 := (HS.out.1.blk 2 rfl).frozen 0
   have ga1 := (HS.out.1.blk 2 rfl).cell 1
   have gz1 := (HS.out.1.blk 2 rfl).frozen 1
   have ga2 := (HS.out.1.blk 2 rfl).cell 2
   have gz2 := (HS.out.1.blk 2 rfl).frozen 2
   have ga3 := (HS.out.1.blk 2 rfl).cell 3
   have gz3 := (HS.out.1.blk 2 rfl).frozen 3
   have ga4 := (HS.out.1.blk 2 rfl).cell 4
   have gz4 := (HS.out.1.blk 2 rfl).frozen 4
   have ga5 := (HS.out.1.blk 2 rfl).cell 5
   have gz5 := (HS.out.1.blk 2 rfl).frozen 5
   have ga6 := (HS.out.1.blk 2 rfl).cell 6
   have gz6 := (HS.out.1.blk 2 rfl).frozen 6
   have gl := HS.out.1.lt 2 rfl
   have o0 := (HS.out.1.blk 1 rfl).cell 0
   have oz0 := (HS.out.1.blk 1 rfl).frozen 0
   have o1 := (HS.out.1.blk 1 rfl).cell 1
   have oz1 := (HS.out.1.blk 1 rfl).frozen 1
   have o2 := (HS.out.1.blk 1 rfl).cell 2
   have oz2 := (HS.out.1.blk 1 rfl).frozen 2
   have o3 := (HS.out.1.blk 1 rfl).cell 3
   have oz3 := (HS.out.1.blk 1 rfl).frozen 3
   have o4 := (HS.out.1.blk 1 rfl).cell 4
   have oz4 := (HS.out.1.blk 1 rfl).frozen 4
   have o5 := (HS.out.1.blk 1 rfl).cell 5
   have oz5 := (HS.out.1.blk 1 rfl).frozen 5
   have o6 := (HS.out.1.blk 1 rfl).cell 6
   have oz6 := (HS.out.1.blk 1 rfl).frozen 6
   have ol := HS.out.1.lt 1 rfl
   go_wp2_with fail
   have R1 := ret7 (HS.out.1.blk 1 rfl) HS.out.1.1 (by omega) (.int .i64 g.at_) (.int .i64 g.up) (.int .i64 g.paces) (.int .i64 g.paces) (.int .i64 g.up) (.int .i64 g.steps) (.int .i64 g.longer)
   have r0 := R1.1.cell 0
   have r1 := R1.1.cell 1
   have r2 := R1.1.cell 2
   have r3 := R1.1.cell 3
   have r4 := R1.1.cell 4
   have r5 := R1.1.cell 5
   have r6 := R1.1.cell 6
   refine bodyPost_ret (v := .tuple #[g.val, .bool true]) (by simp [results, Tryz.results20, go_sem, r0, r1, r2, r3, r4, r5, r6]) rfl ⟨?_, R1.2⟩
   rw [HE.out]

end Go.Proofs.YtahkjagjcogeiaaGreatDoor
/- What the first walk is good for: no walk is before it; pieces; walks whatever the price: plain Lean. -/
namespace Go.Proofs.YtahkjagjcogeiaaGreatDoor

section
variable {t : Town} {dk : Bool} {p q : Price} {u v m : Int} {c d c1 c2 : Cost} {l k l1 l2 : List Int} {g g' : Gone}
theorem key_split (h : cmpL (key c l) (key d k) ≤ 0) : c.a < d.a ∨ (c.a = d.a ∧ (c.b < d.b ∨ (c.b = d.b ∧ (c.c < d.c ∨ (c.c = d.c ∧ (c.d < d.d ∨ (c.d = d.d ∧ cmpL l k ≤ 0))))))) := by
 rw [cmp_key] at h
 by_cases h0 : cmpL c.list d.list = 0
 ·rw [if_pos h0] at h
  have := list_eq h0
  subst this
  omega
 ·rw [if_neg h0] at h
  rw [cmpC_unf] at h h0
  by_cases e1 : c.a < d.a
  ·omega
  ·rw [if_neg e1] at h h0
   by_cases e2 : d.a < c.a
   ·rw [if_pos e2] at h; omega
   ·rw [if_neg e2] at h h0
    by_cases e3 : c.b < d.b
    ·omega
    ·rw [if_neg e3] at h h0
     by_cases e4 : d.b < c.b
     ·rw [if_pos e4] at h; omega
     ·rw [if_neg e4] at h h0
      by_cases e5 : c.c < d.c
      ·omega
      ·rw [if_neg e5] at h h0
       by_cases e6 : d.c < c.c
       ·rw [if_pos e6] at h; omega
       ·rw [if_neg e6] at h h0
        by_cases e7 : c.d < d.d
        ·omega
        ·rw [if_neg e7] at h h0
         by_cases e8 : d.d < c.d
         ·rw [if_pos e8] at h; omega
         ·rw [if_neg e8] at h0; exact absurd rfl h0
/-- A walk at one price is one at any other. -/
theorem Walk.priced (h : Walk t dk p u v c l) (q : Price) : ∃ d, Walk t dk q u v d l := by
 obtain ⟨g', h1, h2, _⟩ := h.gw (startG u) rfl
 exact ⟨_, h2 ▸ h1.walk0 q⟩
theorem best_none_iff (ht : Fine t) (hp : Fair p) : best t dk p u v = none ↔ ∀ c l, ¬ Walk t dk p u v c l := by
 have h := best_first ht hp dk u v
 constructor
 ·intro e; rw [e] at h; exact h
 ·intro hn
  cases hb : best t dk p u v with
  | none => rfl
  | some r =>
   obtain ⟨c, l⟩ := r
   rw [hb] at h
   exact absurd h.1 (hn c l)
theorem best_same_some (ht : Fine t) (hp : Fair p) (hq : Fair q) : (best t dk p u v).isSome = (best t dk q u v).isSome := by
 have key : ∀ {p q : Price}, Fair p → Fair q → best t dk p u v = none → best t dk q u v = none := by
  intro p q hp hq h
  rw [best_none_iff ht hp] at h
  rw [best_none_iff ht hq]
  intro c l hw
  obtain ⟨d, h1⟩ := hw.priced p
  exact h d l h1
 cases h1 : best t dk p u v with
 | none => rw [key hp hq h1]
 | some r =>
  cases h2 : best t dk q u v with
  | none => rw [key hq hp h2] at h1; cases h1
  | some r => rfl
theorem best_walk (ht : Fine t) (hp : Fair p) (h : best t dk p u v = some (c, l)) : First t dk p u v (some (c, l)) := by rw [← h]; exact best_first ht hp dk u v
/-- The first walk followed. -/
theorem best_gone (ht : Fine t) (hp : Fair p) (h : best t dk p u v = some (c, l)) : ∃ g, followF t dk (startG u) l = (g, true) ∧ GW t dk (startG u) l g ∧ g.at_ = v ∧ g.cost p = c := by
 obtain ⟨g, h1, h2, h3⟩ := (best_walk ht hp h).1.gw (startG u) rfl
 rw [startG_cost, zero_addC] at h3
 exact ⟨g, follow_gw ht.ids h1, h1, h2, h3⟩
theorem best_before (ht : Fine t) (hp : Fair p) (h : best t dk p u v = some (c, l)) (hg : GW t dk (startG u) k g) (hv : g.at_ = v) : cmpL (key c l) (key (g.cost p) k) ≤ 0 := by
 have := (best_walk ht hp h).2 (g.cost p) k (by rw [← hv]; exact hg.walk0 p)
 exact this
end

section
variable {t : Town} {dk : Bool} {p : Price} {u v : Int} {c : Cost} {l k : List Int} {g g' : Gone}
theorem askE_two {t : Town} {u v : Int} (hb : townB t = true) (hu : u ∈ t.places) (hv : v ∈ t.places) : askE t [u, v] = 0 := by
 unfold askE hasB
 rw [if_pos hb, if_pos (by simp [memI_iff.2 hu, memI_iff.2 hv])]
theorem askE_one {t : Town} {u : Int} (hb : townB t = true) (hu : u ∈ t.places) : askE t [u] = 0 := by
 unfold askE hasB
 rw [if_pos hb, if_pos (by simp [memI_iff.2 hu])]
end
end Go.Proofs.YtahkjagjcogeiaaGreatDoor
/- Words for the ten laws. -/
namespace Go.Proofs.YtahkjagjcogeiaaGreatDoor
open Go.RowKit Go.Shelf

theorem townB_one {t : Town} (h : townB t = true) : 1 ≤ t.places.length := by
 unfold townB sizeB at h
 simp only [Bool.and_eq_true, decide_eq_true_eq] at h
 have := inB1_spec h.1.1.1
 omega
end Go.Proofs.YtahkjagjcogeiaaGreatDoor
/- What links gone come to, as the laws ask it: plain Lean. -/
namespace Go.Proofs.YtahkjagjcogeiaaGreatDoor

section
variable {t : Town} {u v : Int} {dk : Bool} {l k : List Int} {g g' : Gone} {p : Price}
theorem gw_walked (ht : Fine t) (h : GW t dk (startG u) l g) (hl : l.length ≤ 40) (p : Price) : walkedF t p u l = some (g.at_, g.cost p) := by
 have h1 := walk_walkS ht.ids (h.walk0 p) zeroC
 unfold walkedF
 rw [if_neg (by omega), h1, zero_addC]
theorem gw_firstA (ht : Fine t) (h : GW t dk (startG u) l g) (hl : l.length ≤ 40) (p : Price) : firstA t p u l = (g.cost p).a := by
 unfold firstA
 rw [gw_walked ht h hl p]
theorem gw_bet (ht : Fine t) (h : GW t dk (startG u) l g) (hl : l.length ≤ 40) : betE t u l = 0 := by
 unfold betE
 rw [gw_walked ht h hl]
 rfl
theorem or2_00 : or2 0 0 = 0 := by simp [or2]
theorem slow0 {s : Gait} (h : gaitB s = true) : slowE s = 0 := by unfold slowE; rw [h]; rfl
theorem cost_time (g : Gone) (a b : Int) : (g.cost (timeP a b)).a = g.paces * a + g.up * b := by simp [Gone.cost, timeP]
theorem sec_gw (ht : Fine t) (h : GW t dk (startG u) l g) (hl : l.length ≤ 40) (ha : askE t [u] = 0) {s : Gait} (hg : gaitB s = true) :
  secE t s u l = 0 ∧ secV t s u l = ⟨g.paces * s.pace.lo + g.up * s.step.lo, g.paces * s.pace.hi + g.up * s.step.hi⟩ := by
 have h0 : or2 (askE t [u]) (slowE s) = 0 := by rw [ha, slow0 hg, or2_00]
 unfold secE secV
 rw [if_pos h0, if_pos h0, gw_bet ht h hl, gw_firstA ht h hl, gw_firstA ht h hl, cost_time, cost_time]
 exact ⟨rfl, rfl⟩
theorem quick_none (ha : askE t [u, v] = 0) {s : Gait} (hg : gaitB s = true) (hb : best t dk (timeP s.pace.hi s.step.hi) u v = none) : quickF t s u v dk = ([], ⟨0, 0⟩, 6) := by
 unfold quickF
 rw [if_pos (by rw [ha, slow0 hg, or2_00]), hb]
theorem quick_some (ht : Fine t) (ha : askE t [u, v] = 0) {s : Gait} (hg : gaitB s = true) {c : Cost} (hb : best t dk (timeP s.pace.hi s.step.hi) u v = some (c, l)) (h : GW t dk (startG u) l g) (hl : l.length ≤ 40) :
  quickF t s u v dk = (l, ⟨g.paces * s.pace.lo + g.up * s.step.lo, g.paces * s.pace.hi + g.up * s.step.hi⟩, 0) := by
 unfold quickF
 rw [if_pos (by rw [ha, slow0 hg, or2_00]), hb]
 simp only
 rw [gw_firstA ht h hl, gw_firstA ht h hl, cost_time, cost_time]
theorem min_none (ha : askE t [u, v] = 0) {s : Gait} (hg : gaitB s = true) (hb : best t dk freeP u v = none) : minE t s u v dk = 6 ∧ minV t s u v dk = ⟨0, 0⟩ := by
 have h0 : or2 (askE t [u, v]) (slowE s) = 0 := by rw [ha, slow0 hg, or2_00]
 unfold minE minV
 rw [if_pos h0, if_pos h0, hb]
 exact ⟨rfl, rfl⟩
theorem min_some (ht : Fine t) (ha : askE t [u, v] = 0) {s : Gait} (hg : gaitB s = true) {c : Cost} (hb : best t dk freeP u v = some (c, l)) (h : GW t dk (startG u) l g) (hl : l.length ≤ 40) :
  minE t s u v dk = 0 ∧ minV t s u v dk = ⟨(g.paces * s.pace.lo + g.up * s.step.lo) / 60, (g.paces * s.pace.hi + g.up * s.step.hi + 59) / 60⟩ := by
 have h0 : or2 (askE t [u, v]) (slowE s) = 0 := by rw [ha, slow0 hg, or2_00]
 unfold minE minV
 rw [if_pos h0, if_pos h0, hb]
 simp only
 rw [gw_firstA ht h hl, gw_firstA ht h hl, cost_time, cost_time]
 simp
/-- Products stay small. -/
theorem mul_small {a b : Int} {m n : Int} (ha : 0 ≤ a ∧ a ≤ m) (hb : 0 ≤ b ∧ b ≤ n) : 0 ≤ a * b ∧ a * b ≤ m * n :=
 ⟨Int.mul_nonneg ha.1 hb.1, Int.mul_le_mul ha.2 hb.2 hb.1 (by omega)⟩
theorem gw_small (ht : Fine t) (h : GW t dk (startG u) l g) (hl : l.length ≤ 40) : (0 ≤ g.paces ∧ g.paces ≤ 80000) ∧ (0 ≤ g.up ∧ g.up ≤ 20000) ∧ (0 ≤ g.steps ∧ g.steps ≤ 20000) := by
 have h1 := h.in_ ht (startG_in u)
 obtain ⟨a, b, c, d⟩ := h1
 omega
theorem firstA_best (ht : Fine t) (hp : Fair p) {c : Cost} (hb : best t dk p u v = some (c, l)) (hg : GW t dk (startG u) k g) (hv : g.at_ = v) : c.a ≤ (g.cost p).a := by
 have := best_before ht hp hb hg hv
 rcases key_split this with h | h
 ·omega
 ·omega
end
end Go.Proofs.YtahkjagjcogeiaaGreatDoor
/- The answer's spans, skins and gaits. -/
namespace Go.Proofs.YtahkjagjcogeiaaGreatDoor
open Go.RowKit

theorem inB_span (most : Int) (x : Span) : (inB 0 most [x.hi] && inB 0 x.hi [x.lo]) = spanB most x := by
 unfold spanB inB
 simp only [List.any_cons, List.any_nil, Bool.or_false]
 by_cases h1 : x.hi < 0 <;> by_cases h2 : most < x.hi <;> by_cases h3 : x.lo < 0 <;> by_cases h4 : x.hi < x.lo <;> simp [h1, h2, h3, h4] <;> omega

set_option maxRecDepth 100000 in
set_option maxHeartbeats 2000000 in
theorem rspanned_any (x : Span) (most : Int) (w : World) :
  Calls Tryz.prog 88 #[.agg #[.int .i64 x.lo, .int .i64 x.hi], .int .i64 most] w fun e w' => e = .returned (.bool (spanB most x)) ∧ Below w.heap.size w w' := by
 have HS := Lib.hid (inB_span most x)
 have B0 : Below w.heap.size w (w.alloc (.cells #[.int .i64 x.lo, .int .i64 x.hi] 63)) := (Below.refl _ _).alloc (Nat.le_refl _) _
 go_enter Tryz.func88, Tryz.ntmps88
 go_wp2_with fail
 refine (within_any x.hi 0 most _).mono ?_
 rintro e w1 ⟨rfl, rfl⟩
 cases hi : inB 0 most [x.hi] with
 | false =>
  have HI := Lib.hid hi
  clear hi
  go_wp2_with fail
  go_ret
  exact ⟨ret_bool (by rw [← HS.out, HI.out]; rfl), B0⟩
 | true =>
  have HI := Lib.hid hi
  clear hi
  go_wp2_with fail
  refine (within_any x.lo 0 x.hi _).mono ?_
  rintro e w1 ⟨rfl, rfl⟩
  go_wp2_with fail
  go_ret
  exact ⟨ret_bool (by rw [← HS.out, HI.out]; rfl), B0⟩

set_option maxRecDepth 100000 in
set_option maxHeartbeats 2000000 in
theorem rgait_any (s : Gait) (w : World) :
  Calls Tryz.prog 37 #[.agg #[.int .i64 s.pace.lo, .int .i64 s.pace.hi, .int .i64 s.step.lo, .int .i64 s.step.hi]] w fun e w' => e = .returned (.bool (gaitB s)) ∧ Below w.heap.size w w' := by
 have hs : gaitB s = (spanB 20 s.pace && spanB 20 s.step) := by
  unfold gaitB spansB
  simp [Bool.not_or]
 have HS := Lib.hid hs
 clear hs
 go_enter Tryz.func37, Tryz.ntmps37
 go_wp2_with fail
 have B0 : Below w.heap.size w (w.alloc (.cells #[.int .i64 s.pace.lo, .int .i64 s.pace.hi, .int .i64 s.step.lo, .int .i64 s.step.hi] 73)) := (Below.refl _ _).alloc (Nat.le_refl _) _
 have X0 := Blk.new w 73 #[.int .i64 s.pace.lo, .int .i64 s.pace.hi, .int .i64 s.step.lo, .int .i64 s.step.hi]
 refine (rspanned_any s.pace 20 _).mono ?_
 rintro e w1 ⟨rfl, hb1⟩
 have X1 := X0.below hb1 X0.lt
 have B1 := B0.trans (hb1.mono B0.size)
 have x2 := X1.cell 2
 have x3 := X1.cell 3
 clear X0 hb1 B0 X1
 cases hj : spanB 20 s.pace with
 | false =>
  have HJ := Lib.hid hj
  clear hj
  go_wp2_with fail
  go_ret
  exact ⟨ret_bool (by rw [HS.out, HJ.out]; rfl), B1⟩
 | true =>
  have HJ := Lib.hid hj
  clear hj
  go_wp2_with fail
  refine (rspanned_any s.step 20 _).mono ?_
  rintro e w2 ⟨rfl, hb2⟩
  have B2 := B1.trans (hb2.mono B1.size)
  clear hb2
  go_wp2_with fail
  go_ret
  exact ⟨ret_bool (by rw [HS.out, HJ.out]; rfl), B2⟩

end Go.Proofs.YtahkjagjcogeiaaGreatDoor
/- The law ClimbQuick, walked. -/
namespace Go.Proofs.YtahkjagjcogeiaaGreatDoor
open Go.RowKit Go.Shelf

set_option maxRecDepth 100000 in
set_option maxHeartbeats 16000000 in
theorem zquick_walk_in (A : Option Addr) (n c : Nat) (A' : Option Addr) (m d : Nat) (t : Town) (s : Gait) (fr : Nat) (to_ : Nat) (dk : Bool) (by_A : Option Addr) (by_n by_c : Nat) (by_ : List Nat) (w : World) (hn : n ≤ maxLen) (hm : m ≤ maxLen) (hfr : fr ≤ 255) (hto_ : to_ ≤ 255) (hby_ : by_n ≤ maxLen) (ht : TownAt w w.heap.size A n A' m t) (rby_ : BytesAt w w.heap.size by_A by_n by_) (hL : Laid w) :
  CallsIn Fence.wide 9 Tryz.prog 8 #[.agg #[.slice A n c, .slice A' m d], .agg #[.int .i64 s.pace.lo, .int .i64 s.pace.hi, .int .i64 s.step.lo, .int .i64 s.step.hi], .int .u8 fr, .int .u8 to_, .bool dk, .slice by_A by_n by_c] w fun e w' => e = .returned (.bool true) ∧ Below w.heap.size w w' := by
 have HR := Lib.hid rby_
 clear rby_
 unfold maxLen at hby_
 have HT := Lib.hid ht
 have HL := Lib.hid hL
 have hl0 := hL.2.2.2
 have HLn := Lib.hid ht.places.len
 have HLm := Lib.hid ht.links.len
 clear ht hL
 unfold maxLen at hn hm
 refine callsIn_of_wp Tryz.func8 rfl trivial ?_ rfl
 simp only [Tryz.ntmps8, List.size_toArray, List.length_cons, List.length_nil, Nat.reduceAdd, Nat.reduceSub, Array.replicate_succ, Array.replicate_zero, List.push_toArray, List.append_toArray, List.nil_append, List.cons_append]
 gi_wp2
 have HLay := Lib.hid (Lay.two w 25 #[.slice A n c, .slice A' m d] 73 #[.int .i64 s.pace.lo, .int .i64 s.pace.hi, .int .i64 s.step.lo, .int .i64 s.step.hi])
 generalize ((w.alloc (.cells #[.slice A n c, .slice A' m d] 25)).alloc (.cells #[.int .i64 s.pace.lo, .int .i64 s.pace.hi, .int .i64 s.step.lo, .int .i64 s.step.hi] 73)) = w0 at *
 refine ⟨trivial, (callsIn_wide.2 (alive_any w0 (HL.out.below HLay.out.bel hl0))).mono ?_⟩
 rintro e W1 ⟨rfl, hb⟩
 replace HLay := Lib.hid (HLay.out.below hb)
 clear hb
 have x0_0 := (HLay.out.blk 0 rfl).cell 0
 have x0_1 := (HLay.out.blk 0 rfl).cell 1
 have l0_ := HLay.out.lt 0 rfl
 gi_wp2
 clear x0_0 x0_1 l0_
 refine ⟨trivial, (callsIn_wide.2 (ready_any A n c A' m d t W1 ((HT.out.below HLay.out.bel).more HLay.out.bel.size))).mono ?_⟩
 rintro e W2 ⟨rfl, hb⟩
 replace HLay := Lib.hid (HLay.out.below hb)
 clear hb
 cases hrd : readyB n m t with
 | false =>
  clear hrd
  gi_wp2
  refine ⟨trivial, ?_⟩
  gi_wp2
  exact bodyPost_ret (v := .bool true) (by simp [results, Tryz.results8, go_sem]) rfl ⟨rfl, HLay.out.bel⟩
 | true =>
 have htb : townB t = true := by unfold readyB at hrd; simp at hrd; exact hrd.2
 have HTB := Lib.hid htb
 have HG := Lib.hid (goodT htb)
 have hm20 : m ≤ 20 := by have := HG.out.links; have := HLm.out; omega
 have hn9 : n ≤ 9 := by have := HG.out.fine.size; have := HLn.out; omega
 have hn1 : 1 ≤ n := by have := townB_one htb; have := HLn.out; omega
 have HP1 : Hid (1 ≤ t.places.length) := Lib.hid (townB_one htb)
 clear hrd htb
 have x1_0 := (HLay.out.blk 1 rfl).cell 0
 have x1_1 := (HLay.out.blk 1 rfl).cell 1
 have x1_2 := (HLay.out.blk 1 rfl).cell 2
 have x1_3 := (HLay.out.blk 1 rfl).cell 3
 have l1_ := HLay.out.lt 1 rfl
 gi_wp2
 clear x1_0 x1_1 x1_2 x1_3 l1_
 refine ⟨trivial, (callsIn_wide.2 (rgait_any s W2)).mono ?_⟩
 rintro e W3 ⟨rfl, hb⟩
 replace HLay := Lib.hid (HLay.out.below hb)
 clear hb
 cases hgt : gaitB s with
 | false =>
  clear hgt
  gi_wp2
  exact bodyPost_ret (v := .bool true) (by simp [results, Tryz.results8, go_sem]) rfl ⟨rfl, HLay.out.bel⟩
 | true =>
 have HGT := Lib.hid hgt
 have HGG := Lib.hid (goodG hgt)
 clear hgt
 gi_wp2
 refine wpIn_flow_old [([true, true, false, true, true], 2), ([], 5)] [false, false, false, false, false, false, true, true] [] (by kernel_rfl) (by kernel_rfl) (by kernel_rfl) (below_drewN (Below.refl _ _) 1) ?_
 refine wpFlow_cons (A := ?AF1) rfl ?hq1 ?_
 case hq1 =>
  rintro σ hσ of hof hcl
  have HOF := Lib.hid hof
  have HCL := Lib.hid hcl
  clear hof hcl
  have c0_ : ∀ z, (of z).cell? ⟨w.heap.size, 0, none⟩ = some (.slice A n c) := fun z => ((HLay.out.below (HOF.out z)).blk 0 rfl).cell 0
  have c1_ : ∀ z, (of z).cell? ⟨w.heap.size, 1, none⟩ = some (.slice A' m d) := fun z => ((HLay.out.below (HOF.out z)).blk 0 rfl).cell 1
  have hfw : ∀ f, Fence.wide.fn f := fun _ => trivial
  simp only [pickB]
  repeat (gi_big_quiet_step (fail))
  refine wpQuietIn_nil ?_
  exact rfl
 intro W4 hW
 replace HLay := Lib.hid (HLay.out.below hW)
 clear hW
 have hlw := (HLay.out.blk 0 rfl).lt
 gi_wp2
 refine ⟨trivial, (callsIn_wide.2 (lplace_any A n c A' m d t fr W4 hn1 (by omega) hfr ((HT.out.places.below HLay.out.bel).more HLay.out.bel.size))).mono ?_⟩
 rintro e W5 ⟨rfl, hb⟩
 replace HLay := Lib.hid (HLay.out.below hb)
 obtain ⟨u, hu⟩ : ∃ u, plN t fr = u := ⟨_, rfl⟩
 rw [hu]
 have Hu := Lib.hid (show u ∈ t.places from hu ▸ plN_mem HP1.out fr)
 clear hu
 gi_wp2
 refine ⟨trivial, hb, ?_⟩
 clear hb
 clear hlw
 refine wpFlow_cons rfl Quietly.none ?_
 intro W6 hW
 replace HLay := Lib.hid (HLay.out.below hW)
 clear hW
 have hlw := (HLay.out.blk 0 rfl).lt
 gi_wp2
 refine ⟨trivial, (callsIn_wide.2 (lplace_any A n c A' m d t to_ W6 hn1 (by omega) hto_ ((HT.out.places.below HLay.out.bel).more HLay.out.bel.size))).mono ?_⟩
 rintro e W7 ⟨rfl, hb⟩
 replace HLay := Lib.hid (HLay.out.below hb)
 obtain ⟨v, hv⟩ : ∃ v, plN t to_ = v := ⟨_, rfl⟩
 rw [hv]
 have Hv := Lib.hid (show v ∈ t.places from hv ▸ plN_mem HP1.out to_)
 clear hv
 gi_wp2
 refine ⟨trivial, hb, ?_⟩
 clear hb
 clear hlw
 refine wpFlow_nil (A := ?AF2) ?hq2 ?_
 case hq2 =>
  rintro σ hσ of hof hcl
  have HOF := Lib.hid hof
  have HCL := Lib.hid hcl
  clear hof hcl
  have c0_ : ∀ z, (of z).cell? ⟨w.heap.size, 0, none⟩ = some (.slice A n c) := fun z => ((HLay.out.below (HOF.out z)).blk 0 rfl).cell 0
  have c1_ : ∀ z, (of z).cell? ⟨w.heap.size, 1, none⟩ = some (.slice A' m d) := fun z => ((HLay.out.below (HOF.out z)).blk 0 rfl).cell 1
  have hfw : ∀ f, Fence.wide.fn f := fun _ => trivial
  simp only [pickB]
  repeat (gi_big_quiet_step (fail))
  refine wpQuietIn_nil ?_
  exact rfl
 intro W8 hW
 replace HLay := Lib.hid (HLay.out.below hW)
 clear hW
 simp only [pickB]
 refine wpT_nil ?_
 have HA2 := Lib.hid (askE_two HTB.out Hu.out Hv.out)
 have HA1 := Lib.hid (askE_one HTB.out Hu.out)
 have HTP := Lib.hid (timeP_fair (a := s.pace.hi) (b := s.step.hi) ⟨by have := HGG.out.pace; omega, by have := HGG.out.pace; omega⟩ ⟨by have := HGG.out.step; omega, by have := HGG.out.step; omega⟩)
 cases hbo : best t dk (timeP s.pace.hi s.step.hi) u v with
 | none =>
  have HBO := Lib.hid hbo
  clear hbo
  have HQ := Lib.hid (quick_none HA2.out HGT.out HBO.out)
  have HBF := Lib.hid (show best t dk freeP u v = none from by have h := best_same_some (t := t) (dk := dk) (u := u) (v := v) HG.out.fine HTP.out freeP_fair; rw [HBO.out] at h; cases hx : best t dk freeP u v with
   | none => rfl
   | some r => rw [hx] at h; cases h)
  have HM := Lib.hid (min_none HA2.out HGT.out HBF.out)
  have HW := Lib.hid (way_none HA2.out HBF.out)
  have x0_0 := (HLay.out.blk 0 rfl).cell 0
  have x0_1 := (HLay.out.blk 0 rfl).cell 1
  have l0_ := HLay.out.lt 0 rfl
  have x1_0 := (HLay.out.blk 1 rfl).cell 0
  have x1_1 := (HLay.out.blk 1 rfl).cell 1
  have x1_2 := (HLay.out.blk 1 rfl).cell 2
  have x1_3 := (HLay.out.blk 1 rfl).cell 3
  have l1_ := HLay.out.lt 1 rfl
  gi_wp2
  clear x0_0 x0_1 l0_ x1_0 x1_1 x1_2 x1_3 l1_
  refine ⟨trivial, (callsIn_wide.2 (quick_any A n c A' m d t s u v dk W8 (by omega) (by omega) ((HT.out.below HLay.out.bel).more HLay.out.bel.size) (HL.out.below HLay.out.bel hl0))).mono ?_⟩
  rintro e W9 ⟨AQ, nAQ, cAQ, rfl, hi, hb⟩
  replace HLay := Lib.hid (HLay.out.below hb)
  clear hb
  rw [HQ.out] at hi ⊢
  have HAQ := Lib.hid hi
  clear hi
  obtain rfl : nAQ = 0 := HAQ.out.len.symm
  gi_upto_region 6 with fail
  obtain ⟨V10, hV⟩ : ∃ V, (W9.alloc (.cells #[.int .i64 0, .int .i64 0] 63)) = V := ⟨_, rfl⟩
  rw [hV]
  have hb := fbox_bel hV
  have hnew := fbox_blk hV
  have hge := HLay.out.bel.size
  replace HLay := Lib.hid (HLay.out.below hb)
  replace HAQ := Lib.hid ((HAQ.out.below hb).more hb.size)
  replace HLay := Lib.hid (HLay.out.add hge hnew)
  clear hnew hge hb hV
  obtain ⟨G11, hG⟩ : ∃ g, W9.heap.size = g := ⟨_, rfl⟩
  rw [hG] at HLay ⊢
  clear hG
  have x0_0 := (HLay.out.blk 0 rfl).cell 0
  have x0_1 := (HLay.out.blk 0 rfl).cell 1
  have l0_ := HLay.out.lt 0 rfl
  gi_wp2
  clear x0_0 x0_1 l0_
  refine ⟨trivial, (callsIn_wide.2 (stroll_any A n c A' m d t u v dk by_A by_n by_c by_ V10 hm20 (by unfold maxLen; omega) ((HT.out.links.below HLay.out.bel).more HLay.out.bel.size) HG.out.fine ((HR.out.below HLay.out.bel).more HLay.out.bel.size))).mono ?_⟩
  rintro e W12 ⟨⟨ga, gp, gu, gs, gl⟩, lm, AM, cAM, rfl, hst, hi, hb, hcapAM⟩
  replace HLay := Lib.hid (HLay.out.below hb)
  replace HAQ := Lib.hid ((HAQ.out.below hb).more hb.size)
  clear hb
  have HSTg := Lib.hid hst
  have HAM := Lib.hid hi
  clear hst hi
  have HGS := Lib.hid (gw_small HG.out.fine HSTg.out.1 HSTg.out.2.1)
  have HSG := Lib.hid (sec_gw HG.out.fine HSTg.out.1 HSTg.out.2.1 HA1.out HGT.out)
  have hlm40 := HSTg.out.2.1
  gi_upto_region 7 with fail
  obtain ⟨V13, hV⟩ : ∃ V, (W12.alloc (.cells #[.int .i64 ga, .int .i64 gu, .int .i64 gp, .int .i64 gp, .int .i64 gu, .int .i64 gs, .int .i64 gl] 39)) = V := ⟨_, rfl⟩
  rw [hV]
  have hb := fbox_bel hV
  have hnew := fbox_blk hV
  have hge := HLay.out.bel.size
  replace HLay := Lib.hid (HLay.out.below hb)
  replace HAQ := Lib.hid ((HAQ.out.below hb).more hb.size)
  replace HAM := Lib.hid ((HAM.out.below hb).more hb.size)
  replace HLay := Lib.hid (HLay.out.add hge hnew)
  clear hnew hge hb hV
  obtain ⟨G14, hG⟩ : ∃ g, W12.heap.size = g := ⟨_, rfl⟩
  rw [hG] at HLay ⊢
  clear hG
  have x0_0 := (HLay.out.blk 0 rfl).cell 0
  have x0_1 := (HLay.out.blk 0 rfl).cell 1
  have l0_ := HLay.out.lt 0 rfl
  have x1_0 := (HLay.out.blk 1 rfl).cell 0
  have x1_1 := (HLay.out.blk 1 rfl).cell 1
  have x1_2 := (HLay.out.blk 1 rfl).cell 2
  have x1_3 := (HLay.out.blk 1 rfl).cell 3
  have l1_ := HLay.out.lt 1 rfl
  gi_wp2
  clear x0_0 x0_1 l0_ x1_0 x1_1 x1_2 x1_3 l1_
  refine ⟨trivial, (callsIn_wide.2 (seconds_any A n c A' m d t s u AM lm.length cAM lm V13 (by omega) (by omega) (by omega) ((HT.out.below HLay.out.bel).more HLay.out.bel.size) HAM.out (HL.out.below HLay.out.bel hl0))).mono ?_⟩
  rintro e W15 ⟨rfl, hb⟩
  replace HLay := Lib.hid (HLay.out.below hb)
  replace HAQ := Lib.hid ((HAQ.out.below hb).more hb.size)
  replace HAM := Lib.hid ((HAM.out.below hb).more hb.size)
  clear hb
  rw [HSG.out.1, HSG.out.2]
  gi_upto_region 8 with fail
  obtain ⟨V16, hV⟩ : ∃ V, (W15.alloc (.cells #[.int .i64 (gp * s.pace.lo + gu * s.step.lo), .int .i64 (gp * s.pace.hi + gu * s.step.hi)] 63)) = V := ⟨_, rfl⟩
  rw [hV]
  have hb := fbox_bel hV
  have hnew := fbox_blk hV
  have hge := HLay.out.bel.size
  replace HLay := Lib.hid (HLay.out.below hb)
  replace HAQ := Lib.hid ((HAQ.out.below hb).more hb.size)
  replace HAM := Lib.hid ((HAM.out.below hb).more hb.size)
  replace HLay := Lib.hid (HLay.out.add hge hnew)
  clear hnew hge hb hV
  obtain ⟨G17, hG⟩ : ∃ g, W15.heap.size = g := ⟨_, rfl⟩
  rw [hG] at HLay ⊢
  clear hG
  have PG0 := Lib.hid (mul_small HGS.out.1 (n := 20) ⟨by have := HGG.out.pace; omega, by have := HGG.out.pace; omega⟩ : 0 ≤ gp * s.pace.lo ∧ gp * s.pace.lo ≤ 80000 * 20)
  have PG1 := Lib.hid (mul_small HGS.out.2.1 (n := 20) ⟨by have := HGG.out.step; omega, by have := HGG.out.step; omega⟩ : 0 ≤ gu * s.step.lo ∧ gu * s.step.lo ≤ 20000 * 20)
  have PG2 := Lib.hid (mul_small HGS.out.1 (n := 20) ⟨by have := HGG.out.pace; omega, by have := HGG.out.pace; omega⟩ : 0 ≤ gp * s.pace.hi ∧ gp * s.pace.hi ≤ 80000 * 20)
  have PG3 := Lib.hid (mul_small HGS.out.2.1 (n := 20) ⟨by have := HGG.out.step; omega, by have := HGG.out.step; omega⟩ : 0 ≤ gu * s.step.hi ∧ gu * s.step.hi ≤ 20000 * 20)
  have hsq := eqSpan_same (gp * s.pace.lo + gu * s.step.lo) (gp * s.pace.hi + gu * s.step.hi)
  refine wpIn_flow_old [([true, true, true, true, true, true, true, true, true, true, true, true, true, true, true, true, true, true, true, true, true, true, true, true, true, true, true, true, true, true], 30)] [false, false, false, false, false, false, false, false, false, false, false, false, false, false, false, false, false, false, false, false, false, false, false, false, false, false, false, false, false, false, false, true, true] [] (by kernel_rfl) (by kernel_rfl) (by kernel_rfl) (below_drewN (Below.refl _ _) 1) ?_
  refine wpFlow_cons (A := ?AF3) rfl ?hq3 ?_
  case hq3 =>
   rintro σ hσ of hof hcl
   have HOF := Lib.hid hof
   have HCL := Lib.hid hcl
   clear hof hcl
   have c0_ : ∀ z, (of z).cell? ⟨G14, 0, none⟩ = some (.int .i64 ga) := fun z => ((HLay.out.below (HOF.out z)).blk 3 rfl).cell 0
   have c1_ : ∀ z, (of z).cell? ⟨G14, 1, none⟩ = some (.int .i64 gu) := fun z => ((HLay.out.below (HOF.out z)).blk 3 rfl).cell 1
   have c2_ : ∀ z, (of z).cell? ⟨G14, 2, none⟩ = some (.int .i64 gp) := fun z => ((HLay.out.below (HOF.out z)).blk 3 rfl).cell 2
   have c3_ : ∀ z, (of z).cell? ⟨G14, 3, none⟩ = some (.int .i64 gp) := fun z => ((HLay.out.below (HOF.out z)).blk 3 rfl).cell 3
   have c4_ : ∀ z, (of z).cell? ⟨G14, 4, none⟩ = some (.int .i64 gu) := fun z => ((HLay.out.below (HOF.out z)).blk 3 rfl).cell 4
   have c5_ : ∀ z, (of z).cell? ⟨G14, 5, none⟩ = some (.int .i64 gs) := fun z => ((HLay.out.below (HOF.out z)).blk 3 rfl).cell 5
   have c6_ : ∀ z, (of z).cell? ⟨G14, 6, none⟩ = some (.int .i64 gl) := fun z => ((HLay.out.below (HOF.out z)).blk 3 rfl).cell 6
   have c7_ : ∀ z, (of z).cell? ⟨w.heap.size + 1, 0, none⟩ = some (.int .i64 s.pace.lo) := fun z => ((HLay.out.below (HOF.out z)).blk 1 rfl).cell 0
   have c8_ : ∀ z, (of z).cell? ⟨w.heap.size + 1, 1, none⟩ = some (.int .i64 s.pace.hi) := fun z => ((HLay.out.below (HOF.out z)).blk 1 rfl).cell 1
   have c9_ : ∀ z, (of z).cell? ⟨w.heap.size + 1, 2, none⟩ = some (.int .i64 s.step.lo) := fun z => ((HLay.out.below (HOF.out z)).blk 1 rfl).cell 2
   have c10_ : ∀ z, (of z).cell? ⟨w.heap.size + 1, 3, none⟩ = some (.int .i64 s.step.hi) := fun z => ((HLay.out.below (HOF.out z)).blk 1 rfl).cell 3
   have c11_ : ∀ z, (of z).cell? ⟨G17, 0, none⟩ = some (.int .i64 (gp * s.pace.lo + gu * s.step.lo)) := fun z => ((HLay.out.below (HOF.out z)).blk 4 rfl).cell 0
   have c12_ : ∀ z, (of z).cell? ⟨G17, 1, none⟩ = some (.int .i64 (gp * s.pace.hi + gu * s.step.hi)) := fun z => ((HLay.out.below (HOF.out z)).blk 4 rfl).cell 1
   have hfw : ∀ f, Fence.wide.fn f := fun _ => trivial
   have wPG0 : IntKind.i64.wrap (gp * s.pace.lo) = gp * s.pace.lo := IntWalk.i64_in _ (by have := PG0.out; omega)
   have wPG1 : IntKind.i64.wrap (gu * s.step.lo) = gu * s.step.lo := IntWalk.i64_in _ (by have := PG1.out; omega)
   have wPG2 : IntKind.i64.wrap (gp * s.pace.hi) = gp * s.pace.hi := IntWalk.i64_in _ (by have := PG2.out; omega)
   have wPG3 : IntKind.i64.wrap (gu * s.step.hi) = gu * s.step.hi := IntWalk.i64_in _ (by have := PG3.out; omega)
   have wPGs0 : IntKind.i64.wrap (gp * s.pace.lo + gu * s.step.lo) = gp * s.pace.lo + gu * s.step.lo := IntWalk.i64_in _ (by have := PG0.out; have := PG1.out; omega)
   have wPGs1 : IntKind.i64.wrap (gp * s.pace.hi + gu * s.step.hi) = gp * s.pace.hi + gu * s.step.hi := IntWalk.i64_in _ (by have := PG2.out; have := PG3.out; omega)
   simp only [pickB]
   repeat (gi_big_quiet_step (fail))
   refine wpQuietIn_nil ?_
   exact rfl
  intro W18 hW
  replace HLay := Lib.hid (HLay.out.below hW)
  replace HAQ := Lib.hid ((HAQ.out.below hW).more hW.size)
  replace HAM := Lib.hid ((HAM.out.below hW).more hW.size)
  clear hW
  gi_wp2
  refine ⟨trivial, (callsIn_wide.2 (lspan_any (gp * s.pace.lo + gu * s.step.lo) (gp * s.pace.hi + gu * s.step.hi) W18)).mono ?_⟩
  rintro e W19 ⟨rfl, hb⟩
  replace HLay := Lib.hid (HLay.out.below hb)
  replace HAQ := Lib.hid ((HAQ.out.below hb).more hb.size)
  replace HAM := Lib.hid ((HAM.out.below hb).more hb.size)
  gi_wp2
  refine ⟨trivial, hb, ?_⟩
  clear hb
  refine wpFlow_nil (A := ?AF4) ?hq4 ?_
  case hq4 =>
   rintro σ hσ of hof hcl
   have HOF := Lib.hid hof
   have HCL := Lib.hid hcl
   clear hof hcl
   have c0_ : ∀ z, (of z).cell? ⟨G14, 0, none⟩ = some (.int .i64 ga) := fun z => ((HLay.out.below (HOF.out z)).blk 3 rfl).cell 0
   have c1_ : ∀ z, (of z).cell? ⟨G14, 1, none⟩ = some (.int .i64 gu) := fun z => ((HLay.out.below (HOF.out z)).blk 3 rfl).cell 1
   have c2_ : ∀ z, (of z).cell? ⟨G14, 2, none⟩ = some (.int .i64 gp) := fun z => ((HLay.out.below (HOF.out z)).blk 3 rfl).cell 2
   have c3_ : ∀ z, (of z).cell? ⟨G14, 3, none⟩ = some (.int .i64 gp) := fun z => ((HLay.out.below (HOF.out z)).blk 3 rfl).cell 3
   have c4_ : ∀ z, (of z).cell? ⟨G14, 4, none⟩ = some (.int .i64 gu) := fun z => ((HLay.out.below (HOF.out z)).blk 3 rfl).cell 4
   have c5_ : ∀ z, (of z).cell? ⟨G14, 5, none⟩ = some (.int .i64 gs) := fun z => ((HLay.out.below (HOF.out z)).blk 3 rfl).cell 5
   have c6_ : ∀ z, (of z).cell? ⟨G14, 6, none⟩ = some (.int .i64 gl) := fun z => ((HLay.out.below (HOF.out z)).blk 3 rfl).cell 6
   have c7_ : ∀ z, (of z).cell? ⟨w.heap.size + 1, 0, none⟩ = some (.int .i64 s.pace.lo) := fun z => ((HLay.out.below (HOF.out z)).blk 1 rfl).cell 0
   have c8_ : ∀ z, (of z).cell? ⟨w.heap.size + 1, 1, none⟩ = some (.int .i64 s.pace.hi) := fun z => ((HLay.out.below (HOF.out z)).blk 1 rfl).cell 1
   have c9_ : ∀ z, (of z).cell? ⟨w.heap.size + 1, 2, none⟩ = some (.int .i64 s.step.lo) := fun z => ((HLay.out.below (HOF.out z)).blk 1 rfl).cell 2
   have c10_ : ∀ z, (of z).cell? ⟨w.heap.size + 1, 3, none⟩ = some (.int .i64 s.step.hi) := fun z => ((HLay.out.below (HOF.out z)).blk 1 rfl).cell 3
   have c11_ : ∀ z, (of z).cell? ⟨G17, 0, none⟩ = some (.int .i64 (gp * s.pace.lo + gu * s.step.lo)) := fun z => ((HLay.out.below (HOF.out z)).blk 4 rfl).cell 0
   have c12_ : ∀ z, (of z).cell? ⟨G17, 1, none⟩ = some (.int .i64 (gp * s.pace.hi + gu * s.step.hi)) := fun z => ((HLay.out.below (HOF.out z)).blk 4 rfl).cell 1
   have hfw : ∀ f, Fence.wide.fn f := fun _ => trivial
   have wPG0 : IntKind.i64.wrap (gp * s.pace.lo) = gp * s.pace.lo := IntWalk.i64_in _ (by have := PG0.out; omega)
   have wPG1 : IntKind.i64.wrap (gu * s.step.lo) = gu * s.step.lo := IntWalk.i64_in _ (by have := PG1.out; omega)
   have wPG2 : IntKind.i64.wrap (gp * s.pace.hi) = gp * s.pace.hi := IntWalk.i64_in _ (by have := PG2.out; omega)
   have wPG3 : IntKind.i64.wrap (gu * s.step.hi) = gu * s.step.hi := IntWalk.i64_in _ (by have := PG3.out; omega)
   have wPGs0 : IntKind.i64.wrap (gp * s.pace.lo + gu * s.step.lo) = gp * s.pace.lo + gu * s.step.lo := IntWalk.i64_in _ (by have := PG0.out; have := PG1.out; omega)
   have wPGs1 : IntKind.i64.wrap (gp * s.pace.hi + gu * s.step.hi) = gp * s.pace.hi + gu * s.step.hi := IntWalk.i64_in _ (by have := PG2.out; have := PG3.out; omega)
   simp only [pickB]
   repeat (gi_big_quiet_step (fail))
   refine wpQuietIn_nil ?_
   exact rfl
  intro W20 hW
  replace HLay := Lib.hid (HLay.out.below hW)
  replace HAQ := Lib.hid ((HAQ.out.below hW).more hW.size)
  replace HAM := Lib.hid ((HAM.out.below hW).more hW.size)
  clear hW
  simp only [pickB]
  refine wpT_nil ?_
  clear hsq
  have x0_0 := (HLay.out.blk 0 rfl).cell 0
  have x0_1 := (HLay.out.blk 0 rfl).cell 1
  have l0_ := HLay.out.lt 0 rfl
  have x1_0 := (HLay.out.blk 1 rfl).cell 0
  have x1_1 := (HLay.out.blk 1 rfl).cell 1
  have x1_2 := (HLay.out.blk 1 rfl).cell 2
  have x1_3 := (HLay.out.blk 1 rfl).cell 3
  have l1_ := HLay.out.lt 1 rfl
  gi_wp2
  clear x0_0 x0_1 l0_ x1_0 x1_1 x1_2 x1_3 l1_
  refine ⟨trivial, (callsIn_wide.2 (minutes_any A n c A' m d t s u v dk W20 (by omega) (by omega) ((HT.out.below HLay.out.bel).more HLay.out.bel.size) (HL.out.below HLay.out.bel hl0))).mono ?_⟩
  rintro e W21 ⟨rfl, hb⟩
  replace HLay := Lib.hid (HLay.out.below hb)
  replace HAQ := Lib.hid ((HAQ.out.below hb).more hb.size)
  replace HAM := Lib.hid ((HAM.out.below hb).more hb.size)
  clear hb
  rw [HM.out.1, HM.out.2]
  gi_upto_region 11 with fail
  obtain ⟨V22, hV⟩ : ∃ V, (W21.alloc (.cells #[.int .i64 0, .int .i64 0] 63)) = V := ⟨_, rfl⟩
  rw [hV]
  have hb := fbox_bel hV
  have hnew := fbox_blk hV
  have hge := HLay.out.bel.size
  replace HLay := Lib.hid (HLay.out.below hb)
  replace HAQ := Lib.hid ((HAQ.out.below hb).more hb.size)
  replace HAM := Lib.hid ((HAM.out.below hb).more hb.size)
  replace HLay := Lib.hid (HLay.out.add hge hnew)
  clear hnew hge hb hV
  obtain ⟨G23, hG⟩ : ∃ g, W21.heap.size = g := ⟨_, rfl⟩
  rw [hG] at HLay ⊢
  clear hG
  have x0_0 := (HLay.out.blk 0 rfl).cell 0
  have x0_1 := (HLay.out.blk 0 rfl).cell 1
  have l0_ := HLay.out.lt 0 rfl
  gi_wp2
  clear x0_0 x0_1 l0_
  refine ⟨trivial, (callsIn_wide.2 (wayl_any A n c A' m d t u v dk V22 (by omega) (by omega) ((HT.out.below HLay.out.bel).more HLay.out.bel.size) (HL.out.below HLay.out.bel hl0))).mono ?_⟩
  rintro e W24 ⟨AW, nAW, cAW, rfl, hi, hb⟩
  replace HLay := Lib.hid (HLay.out.below hb)
  replace HAQ := Lib.hid ((HAQ.out.below hb).more hb.size)
  replace HAM := Lib.hid ((HAM.out.below hb).more hb.size)
  clear hb
  rw [HW.out.2.1] at hi
  rw [HW.out.1]
  have HAW := Lib.hid hi
  clear hi
  obtain rfl : nAW = 0 := HAW.out.len.symm
  have HNE : Hid (¬ ga = v) := Lib.hid (fun e => (best_none_iff HG.out.fine freeP_fair).1 HBF.out _ _ (by have h := HSTg.out.1.walk0 freeP; rw [show (Gone.mk ga gp gu gs gl).at_ = v from e] at h; exact h))
  have hne : (ga != v) = true := by simpa using HNE.out
  have x3_0 := (HLay.out.blk 3 rfl).cell 0
  have x3_1 := (HLay.out.blk 3 rfl).cell 1
  have x3_2 := (HLay.out.blk 3 rfl).cell 2
  have x3_3 := (HLay.out.blk 3 rfl).cell 3
  have x3_4 := (HLay.out.blk 3 rfl).cell 4
  have x3_5 := (HLay.out.blk 3 rfl).cell 5
  have x3_6 := (HLay.out.blk 3 rfl).cell 6
  have l3_ := HLay.out.lt 3 rfl
  gi_wp2
  clear x3_0 x3_1 x3_2 x3_3 x3_4 x3_5 x3_6 l3_
  exact bodyPost_ret (v := .bool true) (by simp [results, Tryz.results8, go_sem]) rfl ⟨rfl, HLay.out.bel⟩
 | some rb =>
  obtain ⟨⟨ca, cb, cc, cd⟩, lw⟩ := rb
  have HBO := Lib.hid hbo
  clear hbo
  obtain ⟨⟨xa, xp, xu, xs, xl⟩, hfo, hgw, hgv, hgc⟩ := best_gone HG.out.fine HTP.out HBO.out
  obtain rfl : v = xa := hgv.symm
  have hlw9 := best_len HG.out.fine HTP.out HBO.out
  have HFO := Lib.hid hfo
  have HQ := Lib.hid (quick_some HG.out.fine HA2.out HGT.out HBO.out hgw (by omega))
  have HXS := Lib.hid (gw_small HG.out.fine hgw (by omega))
  have HXA := Lib.hid (show ca = xp * s.pace.hi + xu * s.step.hi from by rw [show ca = (Cost.mk ca cb cc cd).a from rfl, ← hgc, cost_time])
  obtain ⟨rf, hrf⟩ := Option.isSome_iff_exists.1 ((best_same_some HG.out.fine HTP.out freeP_fair).symm.trans (by rw [HBO.out]; rfl) : (best t dk freeP u v).isSome = true)
  obtain ⟨cf, lf⟩ := rf
  obtain ⟨⟨ya, yp, yu, ys, yl⟩, _, hgf, hfv, _⟩ := best_gone HG.out.fine freeP_fair hrf
  have hlf9 := best_len HG.out.fine freeP_fair hrf
  have HW := Lib.hid (way_some HA2.out hrf)
  have HM := Lib.hid (min_some HG.out.fine HA2.out HGT.out hrf hgf (by omega))
  have HYS := Lib.hid (gw_small HG.out.fine hgf (by omega))
  have HSY := Lib.hid (sec_gw HG.out.fine hgf (by omega) HA1.out HGT.out)
  have HLE := Lib.hid (show ca ≤ ((Gone.mk ya yp yu ys yl).cost (timeP s.pace.hi s.step.hi)).a from firstA_best HG.out.fine HTP.out HBO.out hgf hfv)
  clear hrf hfo hgw hgc hgf hfv
  have x0_0 := (HLay.out.blk 0 rfl).cell 0
  have x0_1 := (HLay.out.blk 0 rfl).cell 1
  have l0_ := HLay.out.lt 0 rfl
  have x1_0 := (HLay.out.blk 1 rfl).cell 0
  have x1_1 := (HLay.out.blk 1 rfl).cell 1
  have x1_2 := (HLay.out.blk 1 rfl).cell 2
  have x1_3 := (HLay.out.blk 1 rfl).cell 3
  have l1_ := HLay.out.lt 1 rfl
  gi_wp2
  clear x0_0 x0_1 l0_ x1_0 x1_1 x1_2 x1_3 l1_
  refine ⟨trivial, (callsIn_wide.2 (quick_any A n c A' m d t s u v dk W8 (by omega) (by omega) ((HT.out.below HLay.out.bel).more HLay.out.bel.size) (HL.out.below HLay.out.bel hl0))).mono ?_⟩
  rintro e W25 ⟨AQ, nAQ, cAQ, rfl, hi, hb⟩
  replace HLay := Lib.hid (HLay.out.below hb)
  clear hb
  rw [HQ.out] at hi ⊢
  have HAQ := Lib.hid hi
  clear hi
  obtain rfl : nAQ = lw.length := HAQ.out.len.symm
  gi_upto_region 6 with fail
  obtain ⟨V26, hV⟩ : ∃ V, (W25.alloc (.cells #[.int .i64 (xp * s.pace.lo + xu * s.step.lo), .int .i64 (xp * s.pace.hi + xu * s.step.hi)] 63)) = V := ⟨_, rfl⟩
  rw [hV]
  have hb := fbox_bel hV
  have hnew := fbox_blk hV
  have hge := HLay.out.bel.size
  replace HLay := Lib.hid (HLay.out.below hb)
  replace HAQ := Lib.hid ((HAQ.out.below hb).more hb.size)
  replace HLay := Lib.hid (HLay.out.add hge hnew)
  clear hnew hge hb hV
  obtain ⟨G27, hG⟩ : ∃ g, W25.heap.size = g := ⟨_, rfl⟩
  rw [hG] at HLay ⊢
  clear hG
  have x0_0 := (HLay.out.blk 0 rfl).cell 0
  have x0_1 := (HLay.out.blk 0 rfl).cell 1
  have l0_ := HLay.out.lt 0 rfl
  gi_wp2
  clear x0_0 x0_1 l0_
  refine ⟨trivial, (callsIn_wide.2 (stroll_any A n c A' m d t u v dk by_A by_n by_c by_ V26 hm20 (by unfold maxLen; omega) ((HT.out.links.below HLay.out.bel).more HLay.out.bel.size) HG.out.fine ((HR.out.below HLay.out.bel).more HLay.out.bel.size))).mono ?_⟩
  rintro e W28 ⟨⟨ga, gp, gu, gs, gl⟩, lm, AM, cAM, rfl, hst, hi, hb, hcapAM⟩
  replace HLay := Lib.hid (HLay.out.below hb)
  replace HAQ := Lib.hid ((HAQ.out.below hb).more hb.size)
  clear hb
  have HSTg := Lib.hid hst
  have HAM := Lib.hid hi
  clear hst hi
  have HGS := Lib.hid (gw_small HG.out.fine HSTg.out.1 HSTg.out.2.1)
  have HSG := Lib.hid (sec_gw HG.out.fine HSTg.out.1 HSTg.out.2.1 HA1.out HGT.out)
  have hlm40 := HSTg.out.2.1
  gi_upto_region 7 with fail
  obtain ⟨V29, hV⟩ : ∃ V, (W28.alloc (.cells #[.int .i64 ga, .int .i64 gu, .int .i64 gp, .int .i64 gp, .int .i64 gu, .int .i64 gs, .int .i64 gl] 39)) = V := ⟨_, rfl⟩
  rw [hV]
  have hb := fbox_bel hV
  have hnew := fbox_blk hV
  have hge := HLay.out.bel.size
  replace HLay := Lib.hid (HLay.out.below hb)
  replace HAQ := Lib.hid ((HAQ.out.below hb).more hb.size)
  replace HAM := Lib.hid ((HAM.out.below hb).more hb.size)
  replace HLay := Lib.hid (HLay.out.add hge hnew)
  clear hnew hge hb hV
  obtain ⟨G30, hG⟩ : ∃ g, W28.heap.size = g := ⟨_, rfl⟩
  rw [hG] at HLay ⊢
  clear hG
  have x0_0 := (HLay.out.blk 0 rfl).cell 0
  have x0_1 := (HLay.out.blk 0 rfl).cell 1
  have l0_ := HLay.out.lt 0 rfl
  have x1_0 := (HLay.out.blk 1 rfl).cell 0
  have x1_1 := (HLay.out.blk 1 rfl).cell 1
  have x1_2 := (HLay.out.blk 1 rfl).cell 2
  have x1_3 := (HLay.out.blk 1 rfl).cell 3
  have l1_ := HLay.out.lt 1 rfl
  gi_wp2
  clear x0_0 x0_1 l0_ x1_0 x1_1 x1_2 x1_3 l1_
  refine ⟨trivial, (callsIn_wide.2 (seconds_any A n c A' m d t s u AM lm.length cAM lm V29 (by omega) (by omega) (by omega) ((HT.out.below HLay.out.bel).more HLay.out.bel.size) HAM.out (HL.out.below HLay.out.bel hl0))).mono ?_⟩
  rintro e W31 ⟨rfl, hb⟩
  replace HLay := Lib.hid (HLay.out.below hb)
  replace HAQ := Lib.hid ((HAQ.out.below hb).more hb.size)
  replace HAM := Lib.hid ((HAM.out.below hb).more hb.size)
  clear hb
  rw [HSG.out.1, HSG.out.2]
  gi_upto_region 8 with fail
  obtain ⟨V32, hV⟩ : ∃ V, (W31.alloc (.cells #[.int .i64 (gp * s.pace.lo + gu * s.step.lo), .int .i64 (gp * s.pace.hi + gu * s.step.hi)] 63)) = V := ⟨_, rfl⟩
  rw [hV]
  have hb := fbox_bel hV
  have hnew := fbox_blk hV
  have hge := HLay.out.bel.size
  replace HLay := Lib.hid (HLay.out.below hb)
  replace HAQ := Lib.hid ((HAQ.out.below hb).more hb.size)
  replace HAM := Lib.hid ((HAM.out.below hb).more hb.size)
  replace HLay := Lib.hid (HLay.out.add hge hnew)
  clear hnew hge hb hV
  obtain ⟨G33, hG⟩ : ∃ g, W31.heap.size = g := ⟨_, rfl⟩
  rw [hG] at HLay ⊢
  clear hG
  have PG0 := Lib.hid (mul_small HGS.out.1 (n := 20) ⟨by have := HGG.out.pace; omega, by have := HGG.out.pace; omega⟩ : 0 ≤ gp * s.pace.lo ∧ gp * s.pace.lo ≤ 80000 * 20)
  have PG1 := Lib.hid (mul_small HGS.out.2.1 (n := 20) ⟨by have := HGG.out.step; omega, by have := HGG.out.step; omega⟩ : 0 ≤ gu * s.step.lo ∧ gu * s.step.lo ≤ 20000 * 20)
  have PG2 := Lib.hid (mul_small HGS.out.1 (n := 20) ⟨by have := HGG.out.pace; omega, by have := HGG.out.pace; omega⟩ : 0 ≤ gp * s.pace.hi ∧ gp * s.pace.hi ≤ 80000 * 20)
  have PG3 := Lib.hid (mul_small HGS.out.2.1 (n := 20) ⟨by have := HGG.out.step; omega, by have := HGG.out.step; omega⟩ : 0 ≤ gu * s.step.hi ∧ gu * s.step.hi ≤ 20000 * 20)
  have hsq := eqSpan_same (gp * s.pace.lo + gu * s.step.lo) (gp * s.pace.hi + gu * s.step.hi)
  refine wpIn_flow_old [([true, true, true, true, true, true, true, true, true, true, true, true, true, true, true, true, true, true, true, true, true, true, true, true, true, true, true, true, true, true], 30)] [false, false, false, false, false, false, false, false, false, false, false, false, false, false, false, false, false, false, false, false, false, false, false, false, false, false, false, false, false, false, false, true, true] [] (by kernel_rfl) (by kernel_rfl) (by kernel_rfl) (below_drewN (Below.refl _ _) 1) ?_
  refine wpFlow_cons (A := ?AF5) rfl ?hq5 ?_
  case hq5 =>
   rintro σ hσ of hof hcl
   have HOF := Lib.hid hof
   have HCL := Lib.hid hcl
   clear hof hcl
   have c0_ : ∀ z, (of z).cell? ⟨G30, 0, none⟩ = some (.int .i64 ga) := fun z => ((HLay.out.below (HOF.out z)).blk 3 rfl).cell 0
   have c1_ : ∀ z, (of z).cell? ⟨G30, 1, none⟩ = some (.int .i64 gu) := fun z => ((HLay.out.below (HOF.out z)).blk 3 rfl).cell 1
   have c2_ : ∀ z, (of z).cell? ⟨G30, 2, none⟩ = some (.int .i64 gp) := fun z => ((HLay.out.below (HOF.out z)).blk 3 rfl).cell 2
   have c3_ : ∀ z, (of z).cell? ⟨G30, 3, none⟩ = some (.int .i64 gp) := fun z => ((HLay.out.below (HOF.out z)).blk 3 rfl).cell 3
   have c4_ : ∀ z, (of z).cell? ⟨G30, 4, none⟩ = some (.int .i64 gu) := fun z => ((HLay.out.below (HOF.out z)).blk 3 rfl).cell 4
   have c5_ : ∀ z, (of z).cell? ⟨G30, 5, none⟩ = some (.int .i64 gs) := fun z => ((HLay.out.below (HOF.out z)).blk 3 rfl).cell 5
   have c6_ : ∀ z, (of z).cell? ⟨G30, 6, none⟩ = some (.int .i64 gl) := fun z => ((HLay.out.below (HOF.out z)).blk 3 rfl).cell 6
   have c7_ : ∀ z, (of z).cell? ⟨w.heap.size + 1, 0, none⟩ = some (.int .i64 s.pace.lo) := fun z => ((HLay.out.below (HOF.out z)).blk 1 rfl).cell 0
   have c8_ : ∀ z, (of z).cell? ⟨w.heap.size + 1, 1, none⟩ = some (.int .i64 s.pace.hi) := fun z => ((HLay.out.below (HOF.out z)).blk 1 rfl).cell 1
   have c9_ : ∀ z, (of z).cell? ⟨w.heap.size + 1, 2, none⟩ = some (.int .i64 s.step.lo) := fun z => ((HLay.out.below (HOF.out z)).blk 1 rfl).cell 2
   have c10_ : ∀ z, (of z).cell? ⟨w.heap.size + 1, 3, none⟩ = some (.int .i64 s.step.hi) := fun z => ((HLay.out.below (HOF.out z)).blk 1 rfl).cell 3
   have c11_ : ∀ z, (of z).cell? ⟨G33, 0, none⟩ = some (.int .i64 (gp * s.pace.lo + gu * s.step.lo)) := fun z => ((HLay.out.below (HOF.out z)).blk 4 rfl).cell 0
   have c12_ : ∀ z, (of z).cell? ⟨G33, 1, none⟩ = some (.int .i64 (gp * s.pace.hi + gu * s.step.hi)) := fun z => ((HLay.out.below (HOF.out z)).blk 4 rfl).cell 1
   have hfw : ∀ f, Fence.wide.fn f := fun _ => trivial
   have wPG0 : IntKind.i64.wrap (gp * s.pace.lo) = gp * s.pace.lo := IntWalk.i64_in _ (by have := PG0.out; omega)
   have wPG1 : IntKind.i64.wrap (gu * s.step.lo) = gu * s.step.lo := IntWalk.i64_in _ (by have := PG1.out; omega)
   have wPG2 : IntKind.i64.wrap (gp * s.pace.hi) = gp * s.pace.hi := IntWalk.i64_in _ (by have := PG2.out; omega)
   have wPG3 : IntKind.i64.wrap (gu * s.step.hi) = gu * s.step.hi := IntWalk.i64_in _ (by have := PG3.out; omega)
   have wPGs0 : IntKind.i64.wrap (gp * s.pace.lo + gu * s.step.lo) = gp * s.pace.lo + gu * s.step.lo := IntWalk.i64_in _ (by have := PG0.out; have := PG1.out; omega)
   have wPGs1 : IntKind.i64.wrap (gp * s.pace.hi + gu * s.step.hi) = gp * s.pace.hi + gu * s.step.hi := IntWalk.i64_in _ (by have := PG2.out; have := PG3.out; omega)
   simp only [pickB]
   repeat (gi_big_quiet_step (fail))
   refine wpQuietIn_nil ?_
   exact rfl
  intro W34 hW
  replace HLay := Lib.hid (HLay.out.below hW)
  replace HAQ := Lib.hid ((HAQ.out.below hW).more hW.size)
  replace HAM := Lib.hid ((HAM.out.below hW).more hW.size)
  clear hW
  gi_wp2
  refine ⟨trivial, (callsIn_wide.2 (lspan_any (gp * s.pace.lo + gu * s.step.lo) (gp * s.pace.hi + gu * s.step.hi) W34)).mono ?_⟩
  rintro e W35 ⟨rfl, hb⟩
  replace HLay := Lib.hid (HLay.out.below hb)
  replace HAQ := Lib.hid ((HAQ.out.below hb).more hb.size)
  replace HAM := Lib.hid ((HAM.out.below hb).more hb.size)
  gi_wp2
  refine ⟨trivial, hb, ?_⟩
  clear hb
  refine wpFlow_nil (A := ?AF6) ?hq6 ?_
  case hq6 =>
   rintro σ hσ of hof hcl
   have HOF := Lib.hid hof
   have HCL := Lib.hid hcl
   clear hof hcl
   have c0_ : ∀ z, (of z).cell? ⟨G30, 0, none⟩ = some (.int .i64 ga) := fun z => ((HLay.out.below (HOF.out z)).blk 3 rfl).cell 0
   have c1_ : ∀ z, (of z).cell? ⟨G30, 1, none⟩ = some (.int .i64 gu) := fun z => ((HLay.out.below (HOF.out z)).blk 3 rfl).cell 1
   have c2_ : ∀ z, (of z).cell? ⟨G30, 2, none⟩ = some (.int .i64 gp) := fun z => ((HLay.out.below (HOF.out z)).blk 3 rfl).cell 2
   have c3_ : ∀ z, (of z).cell? ⟨G30, 3, none⟩ = some (.int .i64 gp) := fun z => ((HLay.out.below (HOF.out z)).blk 3 rfl).cell 3
   have c4_ : ∀ z, (of z).cell? ⟨G30, 4, none⟩ = some (.int .i64 gu) := fun z => ((HLay.out.below (HOF.out z)).blk 3 rfl).cell 4
   have c5_ : ∀ z, (of z).cell? ⟨G30, 5, none⟩ = some (.int .i64 gs) := fun z => ((HLay.out.below (HOF.out z)).blk 3 rfl).cell 5
   have c6_ : ∀ z, (of z).cell? ⟨G30, 6, none⟩ = some (.int .i64 gl) := fun z => ((HLay.out.below (HOF.out z)).blk 3 rfl).cell 6
   have c7_ : ∀ z, (of z).cell? ⟨w.heap.size + 1, 0, none⟩ = some (.int .i64 s.pace.lo) := fun z => ((HLay.out.below (HOF.out z)).blk 1 rfl).cell 0
   have c8_ : ∀ z, (of z).cell? ⟨w.heap.size + 1, 1, none⟩ = some (.int .i64 s.pace.hi) := fun z => ((HLay.out.below (HOF.out z)).blk 1 rfl).cell 1
   have c9_ : ∀ z, (of z).cell? ⟨w.heap.size + 1, 2, none⟩ = some (.int .i64 s.step.lo) := fun z => ((HLay.out.below (HOF.out z)).blk 1 rfl).cell 2
   have c10_ : ∀ z, (of z).cell? ⟨w.heap.size + 1, 3, none⟩ = some (.int .i64 s.step.hi) := fun z => ((HLay.out.below (HOF.out z)).blk 1 rfl).cell 3
   have c11_ : ∀ z, (of z).cell? ⟨G33, 0, none⟩ = some (.int .i64 (gp * s.pace.lo + gu * s.step.lo)) := fun z => ((HLay.out.below (HOF.out z)).blk 4 rfl).cell 0
   have c12_ : ∀ z, (of z).cell? ⟨G33, 1, none⟩ = some (.int .i64 (gp * s.pace.hi + gu * s.step.hi)) := fun z => ((HLay.out.below (HOF.out z)).blk 4 rfl).cell 1
   have hfw : ∀ f, Fence.wide.fn f := fun _ => trivial
   have wPG0 : IntKind.i64.wrap (gp * s.pace.lo) = gp * s.pace.lo := IntWalk.i64_in _ (by have := PG0.out; omega)
   have wPG1 : IntKind.i64.wrap (gu * s.step.lo) = gu * s.step.lo := IntWalk.i64_in _ (by have := PG1.out; omega)
   have wPG2 : IntKind.i64.wrap (gp * s.pace.hi) = gp * s.pace.hi := IntWalk.i64_in _ (by have := PG2.out; omega)
   have wPG3 : IntKind.i64.wrap (gu * s.step.hi) = gu * s.step.hi := IntWalk.i64_in _ (by have := PG3.out; omega)
   have wPGs0 : IntKind.i64.wrap (gp * s.pace.lo + gu * s.step.lo) = gp * s.pace.lo + gu * s.step.lo := IntWalk.i64_in _ (by have := PG0.out; have := PG1.out; omega)
   have wPGs1 : IntKind.i64.wrap (gp * s.pace.hi + gu * s.step.hi) = gp * s.pace.hi + gu * s.step.hi := IntWalk.i64_in _ (by have := PG2.out; have := PG3.out; omega)
   simp only [pickB]
   repeat (gi_big_quiet_step (fail))
   refine wpQuietIn_nil ?_
   exact rfl
  intro W36 hW
  replace HLay := Lib.hid (HLay.out.below hW)
  replace HAQ := Lib.hid ((HAQ.out.below hW).more hW.size)
  replace HAM := Lib.hid ((HAM.out.below hW).more hW.size)
  clear hW
  simp only [pickB]
  refine wpT_nil ?_
  clear hsq
  have x0_0 := (HLay.out.blk 0 rfl).cell 0
  have x0_1 := (HLay.out.blk 0 rfl).cell 1
  have l0_ := HLay.out.lt 0 rfl
  have x1_0 := (HLay.out.blk 1 rfl).cell 0
  have x1_1 := (HLay.out.blk 1 rfl).cell 1
  have x1_2 := (HLay.out.blk 1 rfl).cell 2
  have x1_3 := (HLay.out.blk 1 rfl).cell 3
  have l1_ := HLay.out.lt 1 rfl
  gi_wp2
  clear x0_0 x0_1 l0_ x1_0 x1_1 x1_2 x1_3 l1_
  refine ⟨trivial, (callsIn_wide.2 (minutes_any A n c A' m d t s u v dk W36 (by omega) (by omega) ((HT.out.below HLay.out.bel).more HLay.out.bel.size) (HL.out.below HLay.out.bel hl0))).mono ?_⟩
  rintro e W37 ⟨rfl, hb⟩
  replace HLay := Lib.hid (HLay.out.below hb)
  replace HAQ := Lib.hid ((HAQ.out.below hb).more hb.size)
  replace HAM := Lib.hid ((HAM.out.below hb).more hb.size)
  clear hb
  rw [HM.out.1, HM.out.2]
  obtain ⟨q1, hq1⟩ : ∃ q, (yp * s.pace.lo + yu * s.step.lo) / 60 = q := ⟨_, rfl⟩
  obtain ⟨q2, hq2⟩ : ∃ q, (yp * s.pace.hi + yu * s.step.hi + 59) / 60 = q := ⟨_, rfl⟩
  rw [hq1, hq2]
  have HQ1 := Lib.hid hq1
  have HQ2 := Lib.hid hq2
  clear hq1 hq2
  gi_upto_region 11 with fail
  obtain ⟨V38, hV⟩ : ∃ V, (W37.alloc (.cells #[.int .i64 q1, .int .i64 q2] 63)) = V := ⟨_, rfl⟩
  rw [hV]
  have hb := fbox_bel hV
  have hnew := fbox_blk hV
  have hge := HLay.out.bel.size
  replace HLay := Lib.hid (HLay.out.below hb)
  replace HAQ := Lib.hid ((HAQ.out.below hb).more hb.size)
  replace HAM := Lib.hid ((HAM.out.below hb).more hb.size)
  replace HLay := Lib.hid (HLay.out.add hge hnew)
  clear hnew hge hb hV
  obtain ⟨G39, hG⟩ : ∃ g, W37.heap.size = g := ⟨_, rfl⟩
  rw [hG] at HLay ⊢
  clear hG
  have x0_0 := (HLay.out.blk 0 rfl).cell 0
  have x0_1 := (HLay.out.blk 0 rfl).cell 1
  have l0_ := HLay.out.lt 0 rfl
  gi_wp2
  clear x0_0 x0_1 l0_
  refine ⟨trivial, (callsIn_wide.2 (wayl_any A n c A' m d t u v dk V38 (by omega) (by omega) ((HT.out.below HLay.out.bel).more HLay.out.bel.size) (HL.out.below HLay.out.bel hl0))).mono ?_⟩
  rintro e W40 ⟨AW, nAW, cAW, rfl, hi, hb⟩
  replace HLay := Lib.hid (HLay.out.below hb)
  replace HAQ := Lib.hid ((HAQ.out.below hb).more hb.size)
  replace HAM := Lib.hid ((HAM.out.below hb).more hb.size)
  clear hb
  rw [HW.out.2.1] at hi
  rw [HW.out.1]
  have HAW := Lib.hid hi
  clear hi
  obtain rfl : nAW = lf.length := HAW.out.len.symm
  have x0_0 := (HLay.out.blk 0 rfl).cell 0
  have x0_1 := (HLay.out.blk 0 rfl).cell 1
  have l0_ := HLay.out.lt 0 rfl
  gi_wp2
  clear x0_0 x0_1 l0_
  refine ⟨trivial, (callsIn_wide.2 (follow_any A n c A' m d t u AQ lw.length cAQ lw dk W40 hm20 (by omega) ((HT.out.links.below HLay.out.bel).more HLay.out.bel.size) HG.out.fine HAQ.out)).mono ?_⟩
  rintro e W41 ⟨rfl, hb⟩
  replace HLay := Lib.hid (HLay.out.below hb)
  replace HAQ := Lib.hid ((HAQ.out.below hb).more hb.size)
  replace HAM := Lib.hid ((HAM.out.below hb).more hb.size)
  replace HAW := Lib.hid ((HAW.out.below hb).more hb.size)
  clear hb
  rw [HFO.out]
  gi_upto_region 15 with fail
  obtain ⟨V42, hV⟩ : ∃ V, (W41.alloc (.cells #[.int .i64 v, .int .i64 xu, .int .i64 xp, .int .i64 xp, .int .i64 xu, .int .i64 xs, .int .i64 xl] 39)) = V := ⟨_, rfl⟩
  rw [hV]
  have hb := fbox_bel hV
  have hnew := fbox_blk hV
  have hge := HLay.out.bel.size
  replace HLay := Lib.hid (HLay.out.below hb)
  replace HAQ := Lib.hid ((HAQ.out.below hb).more hb.size)
  replace HAM := Lib.hid ((HAM.out.below hb).more hb.size)
  replace HAW := Lib.hid ((HAW.out.below hb).more hb.size)
  replace HLay := Lib.hid (HLay.out.add hge hnew)
  clear hnew hge hb hV
  obtain ⟨G43, hG⟩ : ∃ g, W41.heap.size = g := ⟨_, rfl⟩
  rw [hG] at HLay ⊢
  clear hG
  have PX0 := Lib.hid (mul_small HXS.out.1 (n := 20) ⟨by have := HGG.out.pace; omega, by have := HGG.out.pace; omega⟩ : 0 ≤ xp * s.pace.lo ∧ xp * s.pace.lo ≤ 80000 * 20)
  have PX1 := Lib.hid (mul_small HXS.out.2.1 (n := 20) ⟨by have := HGG.out.step; omega, by have := HGG.out.step; omega⟩ : 0 ≤ xu * s.step.lo ∧ xu * s.step.lo ≤ 20000 * 20)
  have PX2 := Lib.hid (mul_small HXS.out.1 (n := 20) ⟨by have := HGG.out.pace; omega, by have := HGG.out.pace; omega⟩ : 0 ≤ xp * s.pace.hi ∧ xp * s.pace.hi ≤ 80000 * 20)
  have PX3 := Lib.hid (mul_small HXS.out.2.1 (n := 20) ⟨by have := HGG.out.step; omega, by have := HGG.out.step; omega⟩ : 0 ≤ xu * s.step.hi ∧ xu * s.step.hi ≤ 20000 * 20)
  have hsq := eqSpan_same (xp * s.pace.lo + xu * s.step.lo) (xp * s.pace.hi + xu * s.step.hi)
  refine wpIn_flow_old [([true, true, true, true, true, true, true, true, true, true, true, true, true, true, true, true, true, true, true, true, true, true, true, true, true, true, true, true, true, true, true, true, true, true, true, true], 36)] [false, false, false, false, false, false, false, false, false, false, false, false, false, false, false, false, false, false, false, false, false, false, false, false, false, false, false, false, false, false, false, false, false, false, false, false, false, true, true] [] (by kernel_rfl) (by kernel_rfl) (by kernel_rfl) (below_drewN (Below.refl _ _) 1) ?_
  refine wpFlow_cons (A := ?AF7) rfl ?hq7 ?_
  case hq7 =>
   rintro σ hσ of hof hcl
   have HOF := Lib.hid hof
   have HCL := Lib.hid hcl
   clear hof hcl
   have c0_ : ∀ z, (of z).cell? ⟨G43, 0, none⟩ = some (.int .i64 v) := fun z => ((HLay.out.below (HOF.out z)).blk 6 rfl).cell 0
   have c1_ : ∀ z, (of z).cell? ⟨G43, 1, none⟩ = some (.int .i64 xu) := fun z => ((HLay.out.below (HOF.out z)).blk 6 rfl).cell 1
   have c2_ : ∀ z, (of z).cell? ⟨G43, 2, none⟩ = some (.int .i64 xp) := fun z => ((HLay.out.below (HOF.out z)).blk 6 rfl).cell 2
   have c3_ : ∀ z, (of z).cell? ⟨G43, 3, none⟩ = some (.int .i64 xp) := fun z => ((HLay.out.below (HOF.out z)).blk 6 rfl).cell 3
   have c4_ : ∀ z, (of z).cell? ⟨G43, 4, none⟩ = some (.int .i64 xu) := fun z => ((HLay.out.below (HOF.out z)).blk 6 rfl).cell 4
   have c5_ : ∀ z, (of z).cell? ⟨G43, 5, none⟩ = some (.int .i64 xs) := fun z => ((HLay.out.below (HOF.out z)).blk 6 rfl).cell 5
   have c6_ : ∀ z, (of z).cell? ⟨G43, 6, none⟩ = some (.int .i64 xl) := fun z => ((HLay.out.below (HOF.out z)).blk 6 rfl).cell 6
   have c7_ : ∀ z, (of z).cell? ⟨w.heap.size + 1, 0, none⟩ = some (.int .i64 s.pace.lo) := fun z => ((HLay.out.below (HOF.out z)).blk 1 rfl).cell 0
   have c8_ : ∀ z, (of z).cell? ⟨w.heap.size + 1, 1, none⟩ = some (.int .i64 s.pace.hi) := fun z => ((HLay.out.below (HOF.out z)).blk 1 rfl).cell 1
   have c9_ : ∀ z, (of z).cell? ⟨w.heap.size + 1, 2, none⟩ = some (.int .i64 s.step.lo) := fun z => ((HLay.out.below (HOF.out z)).blk 1 rfl).cell 2
   have c10_ : ∀ z, (of z).cell? ⟨w.heap.size + 1, 3, none⟩ = some (.int .i64 s.step.hi) := fun z => ((HLay.out.below (HOF.out z)).blk 1 rfl).cell 3
   have c11_ : ∀ z, (of z).cell? ⟨G27, 0, none⟩ = some (.int .i64 (xp * s.pace.lo + xu * s.step.lo)) := fun z => ((HLay.out.below (HOF.out z)).blk 2 rfl).cell 0
   have c12_ : ∀ z, (of z).cell? ⟨G27, 1, none⟩ = some (.int .i64 (xp * s.pace.hi + xu * s.step.hi)) := fun z => ((HLay.out.below (HOF.out z)).blk 2 rfl).cell 1
   have hfw : ∀ f, Fence.wide.fn f := fun _ => trivial
   have wPX0 : IntKind.i64.wrap (xp * s.pace.lo) = xp * s.pace.lo := IntWalk.i64_in _ (by have := PX0.out; omega)
   have wPX1 : IntKind.i64.wrap (xu * s.step.lo) = xu * s.step.lo := IntWalk.i64_in _ (by have := PX1.out; omega)
   have wPX2 : IntKind.i64.wrap (xp * s.pace.hi) = xp * s.pace.hi := IntWalk.i64_in _ (by have := PX2.out; omega)
   have wPX3 : IntKind.i64.wrap (xu * s.step.hi) = xu * s.step.hi := IntWalk.i64_in _ (by have := PX3.out; omega)
   have wPXs0 : IntKind.i64.wrap (xp * s.pace.lo + xu * s.step.lo) = xp * s.pace.lo + xu * s.step.lo := IntWalk.i64_in _ (by have := PX0.out; have := PX1.out; omega)
   have wPXs1 : IntKind.i64.wrap (xp * s.pace.hi + xu * s.step.hi) = xp * s.pace.hi + xu * s.step.hi := IntWalk.i64_in _ (by have := PX2.out; have := PX3.out; omega)
   simp only [pickB]
   repeat (gi_big_quiet_step (fail))
   refine wpQuietIn_nil ?_
   exact rfl
  intro W44 hW
  replace HLay := Lib.hid (HLay.out.below hW)
  replace HAQ := Lib.hid ((HAQ.out.below hW).more hW.size)
  replace HAM := Lib.hid ((HAM.out.below hW).more hW.size)
  replace HAW := Lib.hid ((HAW.out.below hW).more hW.size)
  clear hW
  gi_wp2
  refine ⟨trivial, (callsIn_wide.2 (lspan_any (xp * s.pace.lo + xu * s.step.lo) (xp * s.pace.hi + xu * s.step.hi) W44)).mono ?_⟩
  rintro e W45 ⟨rfl, hb⟩
  replace HLay := Lib.hid (HLay.out.below hb)
  replace HAQ := Lib.hid ((HAQ.out.below hb).more hb.size)
  replace HAM := Lib.hid ((HAM.out.below hb).more hb.size)
  replace HAW := Lib.hid ((HAW.out.below hb).more hb.size)
  gi_wp2
  refine ⟨trivial, hb, ?_⟩
  clear hb
  refine wpFlow_nil (A := ?AF8) ?hq8 ?_
  case hq8 =>
   rintro σ hσ of hof hcl
   have HOF := Lib.hid hof
   have HCL := Lib.hid hcl
   clear hof hcl
   have c0_ : ∀ z, (of z).cell? ⟨G43, 0, none⟩ = some (.int .i64 v) := fun z => ((HLay.out.below (HOF.out z)).blk 6 rfl).cell 0
   have c1_ : ∀ z, (of z).cell? ⟨G43, 1, none⟩ = some (.int .i64 xu) := fun z => ((HLay.out.below (HOF.out z)).blk 6 rfl).cell 1
   have c2_ : ∀ z, (of z).cell? ⟨G43, 2, none⟩ = some (.int .i64 xp) := fun z => ((HLay.out.below (HOF.out z)).blk 6 rfl).cell 2
   have c3_ : ∀ z, (of z).cell? ⟨G43, 3, none⟩ = some (.int .i64 xp) := fun z => ((HLay.out.below (HOF.out z)).blk 6 rfl).cell 3
   have c4_ : ∀ z, (of z).cell? ⟨G43, 4, none⟩ = some (.int .i64 xu) := fun z => ((HLay.out.below (HOF.out z)).blk 6 rfl).cell 4
   have c5_ : ∀ z, (of z).cell? ⟨G43, 5, none⟩ = some (.int .i64 xs) := fun z => ((HLay.out.below (HOF.out z)).blk 6 rfl).cell 5
   have c6_ : ∀ z, (of z).cell? ⟨G43, 6, none⟩ = some (.int .i64 xl) := fun z => ((HLay.out.below (HOF.out z)).blk 6 rfl).cell 6
   have c7_ : ∀ z, (of z).cell? ⟨w.heap.size + 1, 0, none⟩ = some (.int .i64 s.pace.lo) := fun z => ((HLay.out.below (HOF.out z)).blk 1 rfl).cell 0
   have c8_ : ∀ z, (of z).cell? ⟨w.heap.size + 1, 1, none⟩ = some (.int .i64 s.pace.hi) := fun z => ((HLay.out.below (HOF.out z)).blk 1 rfl).cell 1
   have c9_ : ∀ z, (of z).cell? ⟨w.heap.size + 1, 2, none⟩ = some (.int .i64 s.step.lo) := fun z => ((HLay.out.below (HOF.out z)).blk 1 rfl).cell 2
   have c10_ : ∀ z, (of z).cell? ⟨w.heap.size + 1, 3, none⟩ = some (.int .i64 s.step.hi) := fun z => ((HLay.out.below (HOF.out z)).blk 1 rfl).cell 3
   have c11_ : ∀ z, (of z).cell? ⟨G27, 0, none⟩ = some (.int .i64 (xp * s.pace.lo + xu * s.step.lo)) := fun z => ((HLay.out.below (HOF.out z)).blk 2 rfl).cell 0
   have c12_ : ∀ z, (of z).cell? ⟨G27, 1, none⟩ = some (.int .i64 (xp * s.pace.hi + xu * s.step.hi)) := fun z => ((HLay.out.below (HOF.out z)).blk 2 rfl).cell 1
   have hfw : ∀ f, Fence.wide.fn f := fun _ => trivial
   have wPX0 : IntKind.i64.wrap (xp * s.pace.lo) = xp * s.pace.lo := IntWalk.i64_in _ (by have := PX0.out; omega)
   have wPX1 : IntKind.i64.wrap (xu * s.step.lo) = xu * s.step.lo := IntWalk.i64_in _ (by have := PX1.out; omega)
   have wPX2 : IntKind.i64.wrap (xp * s.pace.hi) = xp * s.pace.hi := IntWalk.i64_in _ (by have := PX2.out; omega)
   have wPX3 : IntKind.i64.wrap (xu * s.step.hi) = xu * s.step.hi := IntWalk.i64_in _ (by have := PX3.out; omega)
   have wPXs0 : IntKind.i64.wrap (xp * s.pace.lo + xu * s.step.lo) = xp * s.pace.lo + xu * s.step.lo := IntWalk.i64_in _ (by have := PX0.out; have := PX1.out; omega)
   have wPXs1 : IntKind.i64.wrap (xp * s.pace.hi + xu * s.step.hi) = xp * s.pace.hi + xu * s.step.hi := IntWalk.i64_in _ (by have := PX2.out; have := PX3.out; omega)
   simp only [pickB]
   repeat (gi_big_quiet_step (fail))
   refine wpQuietIn_nil ?_
   exact rfl
  intro W46 hW
  replace HLay := Lib.hid (HLay.out.below hW)
  replace HAQ := Lib.hid ((HAQ.out.below hW).more hW.size)
  replace HAM := Lib.hid ((HAM.out.below hW).more hW.size)
  replace HAW := Lib.hid ((HAW.out.below hW).more hW.size)
  clear hW
  simp only [pickB]
  refine wpT_nil ?_
  clear hsq
  have x0_0 := (HLay.out.blk 0 rfl).cell 0
  have x0_1 := (HLay.out.blk 0 rfl).cell 1
  have l0_ := HLay.out.lt 0 rfl
  have x1_0 := (HLay.out.blk 1 rfl).cell 0
  have x1_1 := (HLay.out.blk 1 rfl).cell 1
  have x1_2 := (HLay.out.blk 1 rfl).cell 2
  have x1_3 := (HLay.out.blk 1 rfl).cell 3
  have l1_ := HLay.out.lt 1 rfl
  gi_wp2
  clear x0_0 x0_1 l0_ x1_0 x1_1 x1_2 x1_3 l1_
  refine ⟨trivial, (callsIn_wide.2 (seconds_any A n c A' m d t s u AW lf.length cAW lf W46 (by omega) (by omega) (by omega) ((HT.out.below HLay.out.bel).more HLay.out.bel.size) HAW.out (HL.out.below HLay.out.bel hl0))).mono ?_⟩
  rintro e W47 ⟨rfl, hb⟩
  replace HLay := Lib.hid (HLay.out.below hb)
  replace HAQ := Lib.hid ((HAQ.out.below hb).more hb.size)
  replace HAM := Lib.hid ((HAM.out.below hb).more hb.size)
  replace HAW := Lib.hid ((HAW.out.below hb).more hb.size)
  clear hb
  rw [HSY.out.1, HSY.out.2]
  have PY0 := Lib.hid (mul_small HYS.out.1 (n := 20) ⟨by have := HGG.out.pace; omega, by have := HGG.out.pace; omega⟩ : 0 ≤ yp * s.pace.lo ∧ yp * s.pace.lo ≤ 80000 * 20)
  have PY1 := Lib.hid (mul_small HYS.out.2.1 (n := 20) ⟨by have := HGG.out.step; omega, by have := HGG.out.step; omega⟩ : 0 ≤ yu * s.step.lo ∧ yu * s.step.lo ≤ 20000 * 20)
  have PY2 := Lib.hid (mul_small HYS.out.1 (n := 20) ⟨by have := HGG.out.pace; omega, by have := HGG.out.pace; omega⟩ : 0 ≤ yp * s.pace.hi ∧ yp * s.pace.hi ≤ 80000 * 20)
  have PY3 := Lib.hid (mul_small HYS.out.2.1 (n := 20) ⟨by have := HGG.out.step; omega, by have := HGG.out.step; omega⟩ : 0 ≤ yu * s.step.hi ∧ yu * s.step.hi ≤ 20000 * 20)
  gi_upto_region 18 with fail
  obtain ⟨V48, hV⟩ : ∃ V, (W47.alloc (.cells #[.int .i64 (yp * s.pace.lo + yu * s.step.lo), .int .i64 (yp * s.pace.hi + yu * s.step.hi)] 63)) = V := ⟨_, rfl⟩
  rw [hV]
  have hb := fbox_bel hV
  have hnew := fbox_blk hV
  have hge := HLay.out.bel.size
  replace HLay := Lib.hid (HLay.out.below hb)
  replace HAQ := Lib.hid ((HAQ.out.below hb).more hb.size)
  replace HAM := Lib.hid ((HAM.out.below hb).more hb.size)
  replace HAW := Lib.hid ((HAW.out.below hb).more hb.size)
  replace HLay := Lib.hid (HLay.out.add hge hnew)
  clear hnew hge hb hV
  obtain ⟨G49, hG⟩ : ∃ g, W47.heap.size = g := ⟨_, rfl⟩
  rw [hG] at HLay ⊢
  clear hG
  obtain ⟨vl, hvl⟩ : ∃ x, yp * s.pace.lo + yu * s.step.lo = x := ⟨_, rfl⟩
  obtain ⟨vh, hvh⟩ : ∃ x, yp * s.pace.hi + yu * s.step.hi = x := ⟨_, rfl⟩
  obtain ⟨xh, hxh⟩ : ∃ x, xp * s.pace.hi + xu * s.step.hi = x := ⟨_, rfl⟩
  obtain ⟨xlo, hxl⟩ : ∃ x, xp * s.pace.lo + xu * s.step.lo = x := ⟨_, rfl⟩
  obtain ⟨gh, hgh⟩ : ∃ x, gp * s.pace.hi + gu * s.step.hi = x := ⟨_, rfl⟩
  obtain ⟨glo, hgl⟩ : ∃ x, gp * s.pace.lo + gu * s.step.lo = x := ⟨_, rfl⟩
  have PY0 := Lib.hid (mul_small HYS.out.1 (n := 20) ⟨by have := HGG.out.pace; omega, by have := HGG.out.pace; omega⟩ : 0 ≤ yp * s.pace.lo ∧ yp * s.pace.lo ≤ 80000 * 20)
  have PY1 := Lib.hid (mul_small HYS.out.2.1 (n := 20) ⟨by have := HGG.out.step; omega, by have := HGG.out.step; omega⟩ : 0 ≤ yu * s.step.lo ∧ yu * s.step.lo ≤ 20000 * 20)
  have PY2 := Lib.hid (mul_small HYS.out.1 (n := 20) ⟨by have := HGG.out.pace; omega, by have := HGG.out.pace; omega⟩ : 0 ≤ yp * s.pace.hi ∧ yp * s.pace.hi ≤ 80000 * 20)
  have PY3 := Lib.hid (mul_small HYS.out.2.1 (n := 20) ⟨by have := HGG.out.step; omega, by have := HGG.out.step; omega⟩ : 0 ≤ yu * s.step.hi ∧ yu * s.step.hi ≤ 20000 * 20)
  have hvl1 : 0 ≤ vl ∧ vl ≤ 2000000 := by have := PY0.out; have := PY1.out; omega
  have hvh1 : 0 ≤ vh ∧ vh ≤ 2000000 := by have := PY2.out; have := PY3.out; omega
  have hq1 : q1 * 60 ≤ vl ∧ vl < q1 * 60 + 60 := by have := HQ1.out; omega
  have hq2 : vh ≤ q2 * 60 ∧ q2 * 60 < vh + 60 := by have := HQ2.out; omega
  have hq3 : 0 ≤ q1 ∧ q1 ≤ 40000 := by omega
  have hq4 : 0 ≤ q2 ∧ q2 ≤ 40000 := by omega
  have hxv : xh ≤ vh := by
   have h := HLE.out
   rw [cost_time] at h
   dsimp only at h
   have := HXA.out
   omega
  rw [hvl, hvh] at HLay
  rw [hxh, hxl, hgh, hgl] at HLay
  have d1 : decide (vl < 0) = false := by simp; omega
  have d2 : decide (100000000 < vh) = false := by simp; omega
  have d3 : decide (q1 < 0) = false := by simp; omega
  have d4 : decide (100000000 < q2) = false := by simp; omega
  have d5 : decide (vl < q1 * 60) = false := by simp; omega
  have d6 : decide ((q1 + 1) * 60 ≤ vl) = false := by simp; omega
  have d7 : decide (q2 * 60 < vh) = false := by simp; omega
  have d8 : decide (vh ≤ (q2 - 1) * 60) = false := by simp; omega
  have d9 : decide (vh < xh) = false := by simp; omega
  have HGG1 := Lib.hid hgh
  have HXH := Lib.hid hxh
  clear hvl hvh hxh hxl hgl hgh PY0 PY1 PY2 PY3
  by_cases hgo : ga = v
  ·have hgo2 : (ga != v) = false := by simpa using hgo
   have HGO := Lib.hid hgo
   clear hgo
   have hxg : xh ≤ gh := by
    have h := firstA_best HG.out.fine HTP.out HBO.out HSTg.out.1 HGO.out
    rw [cost_time] at h
    dsimp only at h
    have := HXA.out
    have := HXH.out
    have := HGG1.out
    omega
   have dxg : decide (xh ≤ gh) = true := by simp; omega
   have x5_0 := (HLay.out.blk 5 rfl).cell 0
   have x5_1 := (HLay.out.blk 5 rfl).cell 1
   have l5_ := HLay.out.lt 5 rfl
   have x7_0 := (HLay.out.blk 7 rfl).cell 0
   have x7_1 := (HLay.out.blk 7 rfl).cell 1
   have l7_ := HLay.out.lt 7 rfl
   have x2_0 := (HLay.out.blk 2 rfl).cell 0
   have x2_1 := (HLay.out.blk 2 rfl).cell 1
   have l2_ := HLay.out.lt 2 rfl
   have x3_0 := (HLay.out.blk 3 rfl).cell 0
   have x3_1 := (HLay.out.blk 3 rfl).cell 1
   have x3_2 := (HLay.out.blk 3 rfl).cell 2
   have x3_3 := (HLay.out.blk 3 rfl).cell 3
   have x3_4 := (HLay.out.blk 3 rfl).cell 4
   have x3_5 := (HLay.out.blk 3 rfl).cell 5
   have x3_6 := (HLay.out.blk 3 rfl).cell 6
   have l3_ := HLay.out.lt 3 rfl
   have x4_0 := (HLay.out.blk 4 rfl).cell 0
   have x4_1 := (HLay.out.blk 4 rfl).cell 1
   have l4_ := HLay.out.lt 4 rfl
   gi_wp2
   clear x5_0 x5_1 l5_ x7_0 x7_1 l7_ x2_0 x2_1 l2_ x3_0 x3_1 x3_2 x3_3 x3_4 x3_5 x3_6 l3_ x4_0 x4_1 l4_
   exact bodyPost_ret (v := .bool true) (by simp [results, Tryz.results8, go_sem]) rfl ⟨rfl, HLay.out.bel⟩
  ·have hgo2 : (ga != v) = true := by simpa using hgo
   clear hgo
   have x5_0 := (HLay.out.blk 5 rfl).cell 0
   have x5_1 := (HLay.out.blk 5 rfl).cell 1
   have l5_ := HLay.out.lt 5 rfl
   have x7_0 := (HLay.out.blk 7 rfl).cell 0
   have x7_1 := (HLay.out.blk 7 rfl).cell 1
   have l7_ := HLay.out.lt 7 rfl
   have x2_0 := (HLay.out.blk 2 rfl).cell 0
   have x2_1 := (HLay.out.blk 2 rfl).cell 1
   have l2_ := HLay.out.lt 2 rfl
   have x3_0 := (HLay.out.blk 3 rfl).cell 0
   have x3_1 := (HLay.out.blk 3 rfl).cell 1
   have x3_2 := (HLay.out.blk 3 rfl).cell 2
   have x3_3 := (HLay.out.blk 3 rfl).cell 3
   have x3_4 := (HLay.out.blk 3 rfl).cell 4
   have x3_5 := (HLay.out.blk 3 rfl).cell 5
   have x3_6 := (HLay.out.blk 3 rfl).cell 6
   have l3_ := HLay.out.lt 3 rfl
   have x4_0 := (HLay.out.blk 4 rfl).cell 0
   have x4_1 := (HLay.out.blk 4 rfl).cell 1
   have l4_ := HLay.out.lt 4 rfl
   gi_wp2
   clear x5_0 x5_1 l5_ x7_0 x7_1 l7_ x2_0 x2_1 l2_ x3_0 x3_1 x3_2 x3_3 x3_4 x3_5 x3_6 l3_ x4_0 x4_1 l4_
   exact bodyPost_ret (v := .bool true) (by simp [results, Tryz.results8, go_sem]) rfl ⟨rfl, HLay.out.bel⟩
theorem zquick_walk (A : Option Addr) (n c : Nat) (A' : Option Addr) (m d : Nat) (t : Town) (s : Gait) (fr : Nat) (to_ : Nat) (dk : Bool) (by_A : Option Addr) (by_n by_c : Nat) (by_ : List Nat) (w : World) (hn : n ≤ maxLen) (hm : m ≤ maxLen) (hfr : fr ≤ 255) (hto_ : to_ ≤ 255) (hby_ : by_n ≤ maxLen) (ht : TownAt w w.heap.size A n A' m t) (rby_ : BytesAt w w.heap.size by_A by_n by_) (hL : Laid w) :
  Calls Tryz.prog 8 #[.agg #[.slice A n c, .slice A' m d], .agg #[.int .i64 s.pace.lo, .int .i64 s.pace.hi, .int .i64 s.step.lo, .int .i64 s.step.hi], .int .u8 fr, .int .u8 to_, .bool dk, .slice by_A by_n by_c] w fun e w' => e = .returned (.bool true) ∧ Below w.heap.size w w' :=
 callsIn_wide.1 (zquick_walk_in A n c A' m d t s fr to_ dk by_A by_n by_c by_ w hn hm hfr hto_ hby_ ht rby_ hL)
end Go.Proofs.YtahkjagjcogeiaaGreatDoor
/- The table of checks as the row lists it: its three cells. The door's own heap meets the condition. -/
namespace Go.Proofs.YtahkjagjcogeiaaGreatDoor
open Go.ChangeShapes Go.WideShapes Go.ChangeAt Go.RowKit
set_option maxRecDepth 100000

def laidL : List (String × DataW Unit) := [("aguador/climb.checks", Rows.laid_aguador_climb_checks)]
theorem gChecks : Tryz.prog.globalNamed "aguador/climb.checks" = some 0 := by kernel_rfl
theorem tChecks : (Tryz.prog.globals[0]?).map (·.type) = some 163 := by kernel_rfl
theorem cellsCheck : Tryz.prog.cellsOf 162 = 1 := by kernel_rfl
theorem cellsFuncB : Tryz.prog.cellsOf 28 = 1 := by kernel_rfl
theorem checkUnd : ∃ f, Tryz.prog.underlying 162 = some (.struct #[f]) ∧ f.type = 28 ∧ f.offset = 0 := ⟨_, Tryz.underlying162, rfl, rfl⟩

/-- The door's own heap meets the condition. -/
theorem door_met (os : Os) (args : Array Value) : laidMetH Tryz.prog laidL ((World.doorLaid Tryz.prog 800 os).forCall (fun _ _ => 0) ⟨#[], args, []⟩).memory :=
 laidMetH_of_parts3 (fuel := 8) (laidMet_of_run' 8 (by kernel_rfl) (by kernel_rfl)) (by kernel_rfl) (by kernel_rfl)

theorem check_cell {W : World} {fuel : Nat} {cs : List Value} {b : UInt8} {r : List UInt8} {q : List MemPlace} {f0 : FuncId} (h : DataW.trod (funcToken Tryz.prog) Tryz.prog W 0 (fun _ => true) true fuel 162 cs = some (.agg [.held (b :: r)], q))
  (hone : ((List.range Tryz.prog.funcs.size).filter fun f => (Tryz.prog.funcs[f]?).any (·.name.toUTF8.data.toList == b :: r)) = [f0]) : cs = [.func (.func f0) #[] #[]] := by
 obtain ⟨f, hu, ht, ho⟩ := checkUnd
 obtain ⟨y0, n, hx, hl, h0⟩ := trod_struct1 hu h
 rw [cellsCheck] at hl
 match cs, hl with
 | [c], _ =>
  have h1 : DataW.trod (funcToken Tryz.prog) Tryz.prog W 0 (fun _ => true) true n 28 [c] = some y0 := by simpa [ht, ho, cellsFuncB] using h0
  simp only [Prod.mk.injEq, DataW.agg.injEq, List.cons.injEq, and_true] at hx
  obtain ⟨z, p⟩ := y0
  obtain ⟨e1, e2⟩ := hx
  simp only at e1
  subst e1
  rw [func_of_trod Tryz.underlying28 hone h1]

theorem of_laid {W : World} (h : laidMetH Tryz.prog laidL W) : Laid W := by
 obtain ⟨g, t, cs, fuel, p, hg, ht, hv, hd⟩ := h.funcs (List.mem_singleton.2 rfl)
 obtain rfl := Option.some.inj (gChecks.symm.trans hg)
 obtain rfl := Option.some.inj (tChecks.symm.trans ht)
 obtain ⟨xs, m, _, hx, hlen, hn, hel⟩ := DataW.trod_array Tryz.underlying163 hd
 rw [cellsCheck] at hel
 match xs, hn with
 | [x0, x1, x2], _ =>
  have h0 := hel 0 (by decide)
  have h1 := hel 1 (by decide)
  have h2 := hel 2 (by decide)
  simp only [Prod.mk.injEq] at hx
  have hx1 := hx.1
  simp only [DataW.funcsOut, DataW.funcsOutAll, List.map_cons, List.map_nil, DataW.agg.injEq, List.cons.injEq, and_true] at hx1
  obtain ⟨e0, e1, e2⟩ := hx1
  obtain ⟨x0, p0⟩ := x0
  obtain ⟨x1, p1⟩ := x1
  obtain ⟨x2, p2⟩ := x2
  simp only at e0 e1 e2
  subst e0 e1 e2
  have k0 := check_cell (f0 := 174) h0 (by kernel_rfl)
  have k1 := check_cell (f0 := 175) h1 (by kernel_rfl)
  have k2 := check_cell (f0 := 176) h2 (by kernel_rfl)
  have at_ : ∀ i, W.cell? ⟨0, i, none⟩ = cs[i]? := fun i => by simpa using World.var?_cell hg hv i
  obtain ⟨l⟩ := cs
  have c0 : W.cell? ⟨0, 0, none⟩ = some (.func (.func 174) #[] #[]) := by
   rw [at_]
   have := congrArg (·[0]?) k0
   simpa [List.getElem?_take, List.getElem?_drop] using this
  have c1 : W.cell? ⟨0, 1, none⟩ = some (.func (.func 175) #[] #[]) := by
   rw [at_]
   have := congrArg (·[0]?) k1
   simpa [List.getElem?_take, List.getElem?_drop] using this
  have c2 : W.cell? ⟨0, 2, none⟩ = some (.func (.func 176) #[] #[]) := by
   rw [at_]
   have := congrArg (·[0]?) k2
   simpa [List.getElem?_take, List.getElem?_drop] using this
  exact ⟨c0, c1, c2, World.block_lt_of_cell? W _ c0⟩

end Go.Proofs.YtahkjagjcogeiaaGreatDoor
/- The laws' arguments, opened: lists of whole numbers, lists of links, towns, a link; the table of checks. -/
namespace Go.Proofs.YtahkjagjcogeiaaGreatDoor
open Go.ChangeShapes Go.WideShapes Go.RowKit Go.Deep Go.Joins
set_option maxRecDepth 100000

section
variable {H : Type} {enc : TypeId × Value → H} {P : Program} {w : World} {base : Nat} {spare : Nat → Bool} {held : Bool}
end

section
variable {H : Type} {enc : TypeId × Value → H} {w : World}

theorem linkUnd : ∃ f0 f1 f2 f3 f4, Tryz.prog.underlying 52 = some (.struct #[f0, f1, f2, f3, f4]) ∧ oneCellFields Tryz.prog #[f0, f1, f2, f3, f4] = true ∧ f0.type = 3 ∧ f1.type = 3 ∧ f2.type = 3 ∧ f3.type = 3 ∧ f4.type = 3 ∧ f0.offset = 0 ∧ f1.offset = 1 ∧ f2.offset = 2 ∧ f3.offset = 3 ∧ f4.offset = 4 :=
 ⟨_, _, _, _, _, Tryz.underlying52, by kernel_rfl, rfl, rfl, rfl, rfl, rfl, rfl, rfl, rfl, rfl, rfl⟩
theorem cellsLink : Tryz.prog.cellsOf 52 = 5 := by kernel_rfl
theorem cellsInt1 : Tryz.prog.cellsOf 3 = 1 := by kernel_rfl
theorem cellsTown2 : Tryz.prog.cellsOf 25 = 2 := by kernel_rfl

/-- A list of whole numbers. -/
theorem ints_open {v : Value} {fuel : Nat} {x : DataW H × List MemPlace} (h : DataW.trod enc Tryz.prog w 0 (fun _ => true) true fuel 22 [v] = some x) :
  ∃ A n c l, v = .slice A n c ∧ n ≤ c ∧ n ≤ maxLen ∧ c ≤ maxLen ∧ IntsAt w w.heap.size A n l := by
 rcases open_slice1 Tryz.underlying22 cellsInt1 h with ⟨e, _⟩ | ⟨a, len, cap, m, k, V, D, Pl, e, _, hl, hm, hmm, _, hx⟩
 ·simp only [List.cons.injEq, and_true] at e
  exact ⟨none, 0, 0, [], e, Nat.le_refl _, Nat.zero_le _, Nat.zero_le _, Reads.none_⟩
 ·simp only [List.cons.injEq, and_true] at e
  have hmc : m = cap := by simpa using hmm
  subst hmc
  have hn : ∀ i, i < m → ∃ z : Int, V i = .int .i64 z := fun i hi => by
   obtain ⟨z, f0, _, _⟩ := DataW.trod_int Tryz.underlying3 (hx i hi).2
   simp only [List.cons.injEq, and_true] at f0
   exact ⟨z, f0⟩
  obtain ⟨Z, hZ⟩ := choose_lt hn
  refine ⟨some a, len, m, (List.range len).map Z, e, hl, by omega, hm, by simp, fun h0 => ⟨a, rfl, ?_, fun j u hu => ?_⟩⟩
  ·have := World.block_lt_of_cell? w _ (hx 0 (by omega)).1
   rwa [block_of_add] at this
  ·simp only [List.getElem?_map, Option.map_map] at hu
   have hj : j < len := by
    rcases Nat.lt_or_ge j len with h' | h'
    ·exact h'
    ·rw [List.getElem?_eq_none (by simpa using h')] at hu; cases hu
   rw [List.getElem?_range hj] at hu
   simp only [Option.map_some, Option.some.injEq, Function.comp] at hu
   rw [(hx j (by omega)).1, hZ j (by omega), ← hu]

/-- A link's five cells. -/
theorem link_cells {fuel : Nat} {cs : List Value} {x : DataW H × List MemPlace} (h : DataW.trod enc Tryz.prog w 0 (fun _ => true) true fuel 52 cs = some x) (hl : cs.length = 5) : ∃ l : Link, cs = l.vals := by
 obtain ⟨f0, f1, f2, f3, f4, hu, hone, t0, t1, t2, t3, t4, z0, z1, z2, z3, z4⟩ := linkUnd
 obtain ⟨xs, n, _, _, _, hlen, hg⟩ := DataW.trod_struct hu h
 match cs, hl, xs, hlen with
 | [c0, c1, c2, c3, c4], _, [y0, y1, y2, y3, y4], _ =>
  have h0 : DataW.trod enc Tryz.prog w 0 (fun _ => true) true n 3 [c0] = some y0 := by simpa [t0, z0, cellsInt1] using hg 0 f0 rfl
  have h1 : DataW.trod enc Tryz.prog w 0 (fun _ => true) true n 3 [c1] = some y1 := by simpa [t1, z1, cellsInt1] using hg 1 f1 rfl
  have h2 : DataW.trod enc Tryz.prog w 0 (fun _ => true) true n 3 [c2] = some y2 := by simpa [t2, z2, cellsInt1] using hg 2 f2 rfl
  have h3 : DataW.trod enc Tryz.prog w 0 (fun _ => true) true n 3 [c3] = some y3 := by simpa [t3, z3, cellsInt1] using hg 3 f3 rfl
  have h4 : DataW.trod enc Tryz.prog w 0 (fun _ => true) true n 3 [c4] = some y4 := by simpa [t4, z4, cellsInt1] using hg 4 f4 rfl
  obtain ⟨n0, e0, _, _⟩ := DataW.trod_int Tryz.underlying3 h0
  obtain ⟨n1, e1, _, _⟩ := DataW.trod_int Tryz.underlying3 h1
  obtain ⟨n2, e2, _, _⟩ := DataW.trod_int Tryz.underlying3 h2
  obtain ⟨n3, e3, _, _⟩ := DataW.trod_int Tryz.underlying3 h3
  obtain ⟨n4, e4, _, _⟩ := DataW.trod_int Tryz.underlying3 h4
  simp only [List.cons.injEq, and_true] at e0 e1 e2 e3 e4
  subst e0 e1 e2 e3 e4
  exact ⟨⟨n0, n1, n2, n3, n4⟩, rfl⟩

/-- A list of links. -/
theorem links_open {v : Value} {fuel : Nat} {x : DataW H × List MemPlace} (h : DataW.trod enc Tryz.prog w 0 (fun _ => true) true fuel 23 [v] = some x) :
  ∃ A n c l, v = .slice A n c ∧ n ≤ c ∧ n ≤ maxLen ∧ c ≤ maxLen ∧ LinksAt w w.heap.size A n l := by
 rcases open_slice Tryz.underlying23 h with ⟨e, _⟩ | ⟨a, len, cap, m, k, D, Pl, e, _, hl, hm, hmm, _, hx⟩
 ·simp only [List.cons.injEq, and_true] at e
  exact ⟨none, 0, 0, [], e, Nat.le_refl _, Nat.zero_le _, Nat.zero_le _, Reads.none_⟩
 ·simp only [List.cons.injEq, and_true] at e
  have hmc : m = cap := by simpa using hmm
  subst hmc
  have hn : ∀ i, i < m → ∃ z : Link, ∀ j, j < 5 → w.cell? (a.add (i * 5 + j)) = z.vals[j]? := fun i hi => by
   obtain ⟨cs', h1, h2⟩ := hx i hi
   rw [cellsLink] at h1
   obtain ⟨_, hcl, hat⟩ := World.cells?_some h1
   obtain ⟨z, rfl⟩ := link_cells h2 hcl
   exact ⟨z, fun j hj => by rw [← Go.Deep.add_add, hat j hj]⟩
  letI : Inhabited Link := ⟨⟨0, 0, 0, 0, 0⟩⟩
  obtain ⟨Z, hZ⟩ := choose_lt hn
  refine ⟨some a, len, m, (List.range len).map Z, e, hl, by omega, hm, by rw [flat_len]; simp, fun h0 => ⟨a, rfl, ?_, fun j u hu => ?_⟩⟩
  ·have := World.block_lt_of_cell? w _ (hZ 0 (by omega) 0 (by omega))
   rwa [block_of_add] at this
  ·have hj : j < len * 5 := by
    rcases Nat.lt_or_ge j (len * 5) with h' | h'
    ·exact h'
    ·rw [List.getElem?_eq_none (by rw [flat_len]; simpa using h')] at hu; cases hu
   have hz := hZ (j / 5) (by omega) (j % 5) (by omega)
   have ha : ((List.range len).map Z)[j / 5]? = some (Z (j / 5)) := by rw [List.getElem?_map, List.getElem?_range (by omega)]; rfl
   have hf := flat_at ha (show j % 5 < 5 by omega)
   rw [show j / 5 * 5 + j % 5 = j by omega] at hf hz
   rw [hz, ← hf, hu]

/-- A town, by value. -/
theorem town_open {r : Reach} {b0 : Nat} {v : Value} {d : DataW H} {p : List MemPlace} (hv : Value.okWide Tryz.prog w r b0 25 v) (h : DataW.Trod enc Tryz.prog w 0 (fun _ => true) true 25 v d p) :
  ∃ A n c A' m d' t, v = .agg #[.slice A n c, .slice A' m d'] ∧ n ≤ maxLen ∧ m ≤ maxLen ∧ n ≤ c ∧ m ≤ d' ∧ TownAt w w.heap.size A n A' m t := by
 obtain ⟨v0, v1, y0, y1, k, rfl, _, _, h0, h1⟩ := open_agg2 Tryz.underlying25 (by kernel_rfl) cellsTown2 hv h
 obtain ⟨A, n, c, l, rfl, hn, hx, _, hr⟩ := ints_open h0
 obtain ⟨A', m, d', l', rfl, hm, hx', _, hr'⟩ := links_open h1
 exact ⟨A, n, c, A', m, d', ⟨l, l'⟩, rfl, hx, hx', hn, hm, ⟨hr, hr'⟩⟩
end

end Go.Proofs.YtahkjagjcogeiaaGreatDoor
/- The laws' arguments, opened: skins and gaits. What every row's proof wants. -/
namespace Go.Proofs.YtahkjagjcogeiaaGreatDoor
open Go.ChangeShapes Go.WideShapes Go.RowKit Go.Deep Go.Joins
set_option maxRecDepth 100000
theorem ownT' : ownKnob Tryz.prog.godebug = none := by kernel_rfl
theorem laidOutT' : laidOutB Tryz.prog = true := by kernel_rfl
section
variable {H : Type} {enc : TypeId × Value → H} {w : World}
theorem spanUnd : ∃ f0 f1, Tryz.prog.underlying 63 = some (.struct #[f0, f1]) ∧ f0.type = 3 ∧ f1.type = 3 ∧ f0.offset = 0 ∧ f1.offset = 1 := ⟨_, _, Tryz.underlying63, rfl, rfl, rfl, rfl⟩
theorem gaitUnd : ∃ f0 f1, Tryz.prog.underlying 73 = some (.struct #[f0, f1]) ∧ f0.type = 63 ∧ f1.type = 63 ∧ f0.offset = 0 ∧ f1.offset = 2 := ⟨_, _, Tryz.underlying73, rfl, rfl, rfl, rfl⟩
theorem cellsSpan : Tryz.prog.cellsOf 63 = 2 := by kernel_rfl
theorem cellsGait : Tryz.prog.cellsOf 73 = 4 := by kernel_rfl
theorem span_cells {fuel : Nat} {cs : List Value} {x : DataW H × List MemPlace} (h : DataW.trod enc Tryz.prog w 0 (fun _ => true) true fuel 63 cs = some x) (hl : cs.length = 2) : ∃ s : Span, cs = s.vals := by
 obtain ⟨f0, f1, hu, t0, t1, z0, z1⟩ := spanUnd
 obtain ⟨xs, n, _, _, _, hlen, hg⟩ := DataW.trod_struct hu h
 match cs, hl, xs, hlen with
 | [c0, c1], _, [y0, y1], _ =>
  have h0 : DataW.trod enc Tryz.prog w 0 (fun _ => true) true n 3 [c0] = some y0 := by simpa [t0, z0, cellsInt1] using hg 0 f0 rfl
  have h1 : DataW.trod enc Tryz.prog w 0 (fun _ => true) true n 3 [c1] = some y1 := by simpa [t1, z1, cellsInt1] using hg 1 f1 rfl
  obtain ⟨n0, e0, _, _⟩ := DataW.trod_int Tryz.underlying3 h0
  obtain ⟨n1, e1, _, _⟩ := DataW.trod_int Tryz.underlying3 h1
  simp only [List.cons.injEq, and_true] at e0 e1
  subst e0 e1
  exact ⟨⟨n0, n1⟩, rfl⟩
theorem gaitArg_open {r : Reach} {b0 : Nat} {v : Value} {d : DataW H} {p : List MemPlace} (hv : Value.okWide Tryz.prog w r b0 73 v) (h : DataW.Trod enc Tryz.prog w 0 (fun _ => true) true 73 v d p) :
  ∃ s : Gait, v = .agg #[.int .i64 s.pace.lo, .int .i64 s.pace.hi, .int .i64 s.step.lo, .int .i64 s.step.hi] := by
 obtain ⟨f0, f1, hu, t0, t1, z0, z1⟩ := gaitUnd
 obtain ⟨cs, rfl, hsz⟩ := okWide_struct hu hv
 obtain ⟨fuel, hf⟩ := h
 obtain ⟨l⟩ := cs
 obtain ⟨xs, n, _, _, _, hlen, hg⟩ := DataW.trod_struct hu hf
 rw [cellsGait] at hsz
 match l, hsz, xs, hlen with
 | [c1, c2, c3, c4], _, [y1, y2], _ =>
  have h1 : DataW.trod enc Tryz.prog w 0 (fun _ => true) true n 63 [c1, c2] = some y1 := by simpa [t0, z0, cellsSpan, Value.cells] using hg 0 f0 rfl
  have h2 : DataW.trod enc Tryz.prog w 0 (fun _ => true) true n 63 [c3, c4] = some y2 := by simpa [t1, z1, cellsSpan, Value.cells] using hg 1 f1 rfl
  obtain ⟨s1, e1⟩ := span_cells h1 rfl
  obtain ⟨s2, e2⟩ := span_cells h2 rfl
  simp only [Span.vals, List.cons.injEq, and_true] at e1 e2
  obtain ⟨rfl, rfl⟩ := e1
  obtain ⟨rfl, rfl⟩ := e2
  exact ⟨⟨s1, s2⟩, rfl⟩
end
end Go.Proofs.YtahkjagjcogeiaaGreatDoor
/- A law's arguments opened: bytes, and lists of bytes. -/
namespace Go.Proofs.YtahkjagjcogeiaaGreatDoor
open Go.ChangeShapes Go.WideShapes Go.RowKit Go.Deep Go.Joins
set_option maxRecDepth 100000
section
variable {H : Type} {enc : TypeId × Value → H} {w : World}
theorem u8_wf {z : Int} (h : (Lit.int .u8 z).wf = true) : 0 ≤ z ∧ z ≤ 255 := by
 simp [Lit.wf] at h
 have h1 : IntKind.u8.min = 0 := rfl
 have h2 : IntKind.u8.max = 255 := rfl
 omega
theorem u8_open {v : Value} {d : DataW H} {p : List MemPlace} (h : DataW.Trod enc Tryz.prog w 0 (fun _ => true) true 5 v d p) (hv : ∃ z : Int, v = .int .u8 z) : ∃ x : Nat, v = .int .u8 (x : Nat) ∧ x ≤ 255 := by
 obtain ⟨z, rfl⟩ := hv
 obtain ⟨fuel, hf⟩ := h
 obtain ⟨n, e, _, hw⟩ := DataW.trod_int Tryz.underlying5 hf
 have e' : n = z := by simpa [Value.cells] using e.symm
 subst e'
 have hb := u8_wf hw
 obtain ⟨k, rfl⟩ := Int.eq_ofNat_of_zero_le hb.1
 exact ⟨k, rfl, by omega⟩
theorem cellsU81 : Tryz.prog.cellsOf 5 = 1 := by kernel_rfl
theorem bytes_open {v : Value} {fuel : Nat} {x : DataW H × List MemPlace} (h : DataW.trod enc Tryz.prog w 0 (fun _ => true) true fuel 26 [v] = some x) :
  ∃ A n c l, v = .slice A n c ∧ n ≤ c ∧ n ≤ maxLen ∧ c ≤ maxLen ∧ BytesAt w w.heap.size A n l := by
 rcases open_slice1 Tryz.underlying26 cellsU81 h with ⟨e, _⟩ | ⟨a, len, cap, m, k, V, D, Pl, e, _, hl, hm, hmm, _, hx⟩
 ·simp only [List.cons.injEq, and_true] at e
  exact ⟨none, 0, 0, [], e, Nat.le_refl _, Nat.zero_le _, Nat.zero_le _, Reads.none_, by simp⟩
 ·simp only [List.cons.injEq, and_true] at e
  have hmc : m = cap := by simpa using hmm
  subst hmc
  have hn : ∀ i, i < m → ∃ z : Nat, V i = .int .u8 (z : Nat) ∧ z ≤ 255 := fun i hi => by
   obtain ⟨z, f0, _, hw⟩ := DataW.trod_int Tryz.underlying5 (hx i hi).2
   simp only [List.cons.injEq, and_true] at f0
   have hb := u8_wf hw
   obtain ⟨k, rfl⟩ := Int.eq_ofNat_of_zero_le hb.1
   exact ⟨k, f0, by omega⟩
  obtain ⟨Z, hZ⟩ := choose_lt hn
  refine ⟨some a, len, m, (List.range len).map Z, e, hl, by omega, hm, ⟨by simp, fun h0 => ⟨a, rfl, ?_, fun j u hu => ?_⟩⟩, fun b hb => ?_⟩
  ·have := World.block_lt_of_cell? w _ (hx 0 (by omega)).1
   rwa [block_of_add] at this
  ·simp only [List.getElem?_map, Option.map_map] at hu
   have hj : j < len := by
    rcases Nat.lt_or_ge j len with h' | h'
    ·exact h'
    ·rw [List.getElem?_eq_none (by simpa using h')] at hu; cases hu
   rw [List.getElem?_range hj] at hu
   simp only [Option.map_some, Option.some.injEq, Function.comp] at hu
   rw [(hx j (by omega)).1, (hZ j (by omega)).1, ← hu]
  ·obtain ⟨j, hj, rfl⟩ := List.mem_map.1 hb
   exact (hZ j (by have := List.mem_range.1 hj; omega)).2
end
end Go.Proofs.YtahkjagjcogeiaaGreatDoor
/- ClimbQuick: whatever the arguments, the law answers true. The row, and the card. -/
namespace Go.Proofs.YtahkjagjcogeiaaGreatDoor
open Go.ChangeShapes Go.WideShapes Go.ChangeAt Go.RowKit Go.Joins

set_option maxRecDepth 100000 in
theorem zquick_lifted (os : Os) (started : os.Started) (H : Type) (enc : TypeId × Value → H) :
  ReturnsInHanded {} Tryz.checked os 8 .any (fun w args => (Rows.climbQuickSpec.pre enc Tryz.prog Tryz.f8 [] false w args ∧ laidMetH Tryz.prog laidL w) ∧ sizedMet enc Tryz.prog Tryz.f8 (OpenSpec.ofChange Rows.climbQuickSpec) false w args)
   (Rows.climbQuickSpec.post enc Tryz.prog Tryz.f8 false true false false) := by
 refine returnsInHanded_of_change_and (C := Tryz.checked) (X := fun w _ => laidMetH Tryz.prog laidL w) (fun _ _ _ hh h => h.of_heap hh) ownT' started (by kernel_rfl) Tryz.func8
  (ChangeSpec.witness_shaped (enc := enc) (C := Tryz.checked) (os := os) (X := fun w _ => laidMetH Tryz.prog laidL w) false (World.doorLaid Tryz.prog 800 os) #[.agg #[.slice none 0 0, .slice none 0 0], .agg #[.int .i64 0, .int .i64 0, .int .i64 0, .int .i64 0], .int .u8 0, .int .u8 0, .bool false, .slice none 0 0] 8 rfl (World.shaped_of_RefB (by kernel_rfl) (by kernel_rfl)) (by kernel_rfl) (by kernel_rfl) (by kernel_rfl) (door_met os _)) ?_
 intro W base args ds gs before hval0 hW _ _ hL _
 have hval : ∀ (j : Nat) t v, Tryz.f8.params[j]? = some t → args[j]? = some v → Value.okWide Tryz.prog W .any base t v := hval0
 have hW' := hW
 obtain ⟨p, q, hA0, hV, rfl, hfz, hnd⟩ := hW
 have hA : DataW.TrodAll enc Tryz.prog W 0 (fun _ => true) true Tryz.f8.params.toList args.toList ds p := hA0
 rw [Tryz.params8] at hA hval
 obtain ⟨v0, vs0, d0, ds0, p0, q0, hargs, rfl, rfl, h0, r0⟩ := trodAll_cons hA
 obtain ⟨v1, vs1, d1, ds1, p1, q1, rfl, rfl, rfl, h1, r1⟩ := trodAll_cons r0
 obtain ⟨v2, vs2, d2, ds2, p2, q2, rfl, rfl, rfl, h2, r2⟩ := trodAll_cons r1
 obtain ⟨v3, vs3, d3, ds3, p3, q3, rfl, rfl, rfl, h3, r3⟩ := trodAll_cons r2
 obtain ⟨v4, vs4, d4, ds4, p4, q4, rfl, rfl, rfl, h4, r4⟩ := trodAll_cons r3
 obtain ⟨v5, vs5, d5, ds5, p5, q5, rfl, rfl, rfl, h5, r5⟩ := trodAll_cons r4
 obtain ⟨rfl, rfl, rfl⟩ := trodAll_nil r5
 obtain rfl : args = #[v0, v1, v2, v3, v4, v5] := by cases args; simp_all
 obtain ⟨rfl, rfl⟩ := trodVars_none hV
 have lt0 : ∀ x ∈ p0, x.block < W.heap.size := by obtain ⟨m, hm⟩ := h0; exact DataW.trod_lt m _ _ _ hm
 have lt1 : ∀ x ∈ p1, x.block < W.heap.size := by obtain ⟨m, hm⟩ := h1; exact DataW.trod_lt m _ _ _ hm
 have lt2 : ∀ x ∈ p2, x.block < W.heap.size := by obtain ⟨m, hm⟩ := h2; exact DataW.trod_lt m _ _ _ hm
 have lt3 : ∀ x ∈ p3, x.block < W.heap.size := by obtain ⟨m, hm⟩ := h3; exact DataW.trod_lt m _ _ _ hm
 have lt4 : ∀ x ∈ p4, x.block < W.heap.size := by obtain ⟨m, hm⟩ := h4; exact DataW.trod_lt m _ _ _ hm
 have lt5 : ∀ x ∈ p5, x.block < W.heap.size := by obtain ⟨m, hm⟩ := h5; exact DataW.trod_lt m _ _ _ hm
 have hl := of_laid hL
 obtain ⟨A, n, c, A', m, d, t, e0, hn, hm, hnc, hmd, ht⟩ := town_open (hval 0 25 v0 rfl rfl) h0
 obtain ⟨s1, e1⟩ := gaitArg_open (hval 1 73 v1 rfl rfl) h1
 obtain ⟨s2, e2, hb2⟩ := u8_open h2 (okWide_int Tryz.underlying5 (hval 2 5 v2 rfl rfl))
 obtain ⟨s3, e3, hb3⟩ := u8_open h3 (okWide_int Tryz.underlying5 (hval 3 5 v3 rfl rfl))
 obtain ⟨s4, e4⟩ := okWide_bool Tryz.underlying4 (hval 4 4 v4 rfl rfl)
 obtain ⟨A2x5, k2x5, c2x5, e5⟩ := okWide_slice Tryz.underlying26 (hval 5 26 v5 rfl rfl)
 have hh5 := h5
 obtain ⟨fu5, hf5⟩ := hh5
 rw [e5, show (Value.slice A2x5 k2x5 c2x5).cells = #[.slice A2x5 k2x5 c2x5] from rfl] at hf5
 obtain ⟨B5, j5, b5, l5, e5', _, hk5, _, hr5⟩ := bytes_open hf5
 rw [← e5] at e5'
 clear e5 hf5
 clear hA0 hval0 hval
 subst e0 e1 e2 e3 e4 e5'
 refine (zquick_walk A n c A' m d t s1 s2 s3 s4 B5 j5 b5 l5 W hn hm hb2 hb3 hk5 ht hr5 hl).mono fun e W' ⟨he, bel⟩ => ?_
 subst he
 exact ⟨_, rfl, _, _, _, [], _, [], hW', trodAll_mk1 (shut_bool Tryz.underlying4 _), (trodAll_cons_mk (Below.trod laidOutT' (by kernel_rfl) (of_decide_eq_true (by kernel_rfl)) h0 bel lt0) (trodAll_cons_mk (Below.trod laidOutT' (by kernel_rfl) (of_decide_eq_true (by kernel_rfl)) h1 bel lt1) (trodAll_cons_mk (Below.trod laidOutT' (by kernel_rfl) (of_decide_eq_true (by kernel_rfl)) h2 bel lt2) (trodAll_cons_mk (Below.trod laidOutT' (by kernel_rfl) (of_decide_eq_true (by kernel_rfl)) h3 bel lt3) (trodAll_cons_mk (Below.trod laidOutT' (by kernel_rfl) (of_decide_eq_true (by kernel_rfl)) h4 bel lt4) (trodAll_cons_mk (Below.trod laidOutT' (by kernel_rfl) (of_decide_eq_true (by kernel_rfl)) h5 bel lt5) trodAll_mk0)))))), rfl, bel.frame _, fun h => by cases h⟩

theorem zquick_holds : Rows.ClimbQuickSaid :=
 OpenClaim.holds_of_wide 8 Tryz.f8 rfl rfl rfl rfl rfl rfl rfl ⟨rfl, rfl, rfl, rfl, rfl⟩ rfl rfl rfl rfl rfl (by kernel_rfl) Tryz.func8 (by kernel_rfl)
  (of_decide_eq_true (by kernel_rfl)) (by unfold Func.isWrapper; first | (rw [if_pos (by decide +kernel)]; kernel_rfl) | (rw [if_neg (by decide +kernel)]; exact ⟨rfl, rfl⟩))
  (fun os started H enc _ => zquick_lifted os started H enc)

theorem zquick_card : Rows.ClimbQuickCardSaid :=
 Claim7.holds_tied_plain_at .later [] [.funcs] true (true, "67de833af213194507c31c05b7184ea255bc0890cd487a2a5aea99d39e4477e7") false
  zquick_holds (fun _ h => by cases h) (by kernel_rfl) (fun _ h => by cases h) climbQuick_row_tie rfl ⟨rfl, rfl⟩ (by kernel_rfl) rfl
  (fun f fn hf hfn => by
   obtain rfl : f = 8 := Option.some.inj ((show Tryz.prog.funcNamed "aguador/aguadorlaw03.ClimbQuick" = some 8 by kernel_rfl).symm.trans hf) |>.symm
   obtain rfl : fn = Tryz.f8 := (Option.some.inj (Tryz.func8.symm.trans hfn)).symm
   exact ⟨by kernel_rfl, fun j t ht => by
    rw [Tryz.params8] at ht
    have hm : t ∈ [25, 73, 5, 5, 4, 26] := by simpa using Array.mem_of_getElem? ht
    have hall : ([25, 73, 5, 5, 4, 26].all fun u => !Tryz.prog.wantsStandIn u) = true := by kernel_rfl
    exact (show Tryz.prog.wantsStandIn t = false by simpa using List.all_eq_true.1 hall t hm)⟩)
  (by kernel_rfl)
#print axioms zquick_card
end Go.Proofs.YtahkjagjcogeiaaGreatDoor
