/- ClimbSums: whatever the arguments, the law answers true. The row, and the card. -/
import Derived.Deep.RegionHeld3
import Derived.Sort.CutIn
import Derived.Test.YtahkjagjcogeiaaGreatDoorRows
import Derived.ProofKit
import Derived.LaidMore
import Derived.LaidHandle
import Derived.Stop.Joined
import Derived.ChangeSame
import Derived.OpenShut
import Derived.Lib.SmallJoins
import Derived.ChangeArms
import Derived.SevenTiedAt
import Derived.Test.YtahkjagjcogeiaaGreatDoorCards
import Derived.Test.YtahkjagjcogeiaaGreatDoorTie
import Derived.Test.YtahkjagjcogeiaaGreatDoorZxSums10
set_option linter.unusedVariables false
/- The law's stroll: by links, by numbers. -/
namespace Go.Proofs.YtahkjagjcogeiaaGreatDoor
open Go.RowKit

/-- append at a step of a region that draws its order. -/
theorem step_append_any {P : Program} {w : World} {ops : Array Oper} {o : Oper} {a : Act} {K : Act → World → Prop} {Q : Exit → Act → World → Prop} {E : Prop} (hgd : o.guard = none) (s x : Operand) {t e : TypeId}
  (ho : o.op = .call { callee := .builtin .append, args := #[s, x], argTypes := #[t, t] })
  {z : Value} {size bytes : Nat} (EE : ElemAt P t e z size bytes) {base : Nat} {A : Option Addr} {n cap : Nat} {xs : List Value} (hs : a.eval s = .slice A n cap) (hown : Own w base e size A n cap xs)
  {A2 : Option Addr} {m c B : Nat} {news : List Value} (hx : a.eval x = .slice A2 m c) (hR : Reads w B size A2 m news) (h1 : ∀ u ∈ news, u.oneCell' = true) (h63 : n + m ≤ maxLen) (hbytes : (n + m) * bytes ≤ 140737488355328) (hbase : base ≤ w.heap.size)
  (h : ∀ A' cap' w', Own w' base e size A' (n + m) cap' (xs ++ news) → w.grownBy w' (A.map (·.block)) → K (a.put o.dst (.slice A' (n + m) cap')) w') :
  if Region.wanted o (yielded ops a.tmps) = true then Oper.wp P o a w K Q else E := by
 have hw : Region.wanted o (yielded ops a.tmps) = true := by simp [Region.wanted, hgd]
 rw [if_pos hw]
 obtain ⟨A', cap', w', hr, h2, h3, h4⟩ := run_append_any (P := P) w o.type EE hown hR (c := c) h1 h63 hbytes hbase
 unfold Oper.wp execOp
 simp only [ho, resolve, invoke, builtin, Sem.run_bind, Sem.run_pure, Result.andThen_ok, List.map_toArray, List.map_cons, List.map_nil, hs, hx, hr]
 exact h A' cap' w' h2 h3

theorem own_set7 {w : World} {base size n cap g : Nat} {e : TypeId} {A : Option Addr} {xs : List Value} (h : Own w base e size A n cap xs) (hg : g < base) (v0 v1 v2 v3 v4 v5 v6 : Value) :
  Own (((((((w.setCell ⟨g, 0, none⟩ v0).setCell ⟨g, 1, none⟩ v1).setCell ⟨g, 2, none⟩ v2).setCell ⟨g, 3, none⟩ v3).setCell ⟨g, 4, none⟩ v4).setCell ⟨g, 5, none⟩ v5).setCell ⟨g, 6, none⟩ v6) base e size A n cap xs :=
 h.grown (grown_setCell (grown_setCell (grown_setCell (grown_setCell (grown_setCell (grown_setCell (grown_setCell (grown_refl w (some g)) (p := ⟨g, 0, none⟩) (.inl rfl) v0) (p := ⟨g, 1, none⟩) (.inl rfl) v1) (p := ⟨g, 2, none⟩) (.inl rfl) v2) (p := ⟨g, 3, none⟩) (.inl rfl) v3) (p := ⟨g, 4, none⟩) (.inl rfl) v4) (p := ⟨g, 5, none⟩) (.inl rfl) v5) (p := ⟨g, 6, none⟩) (.inl rfl) v6)
  (fun a ha e => by have := (h.lt ha).1; have := Option.some.inj e; omega)
/-- Three blocks below a row that is appended to. -/
theorem Lay.grown_own {w W W' : World} {B : Nat} {row : Option Nat} {t0 t1 t2 : TypeId} {c0 c1 c2 : Array Value} (h : Lay w W [(w.heap.size, t0, c0), (w.heap.size + 1, t1, c1), (w.heap.size + 1 + 1, t2, c2)]) (hg : W.grownBy W' row) (hr : ∀ j, row = some j → B ≤ j) (hB : w.heap.size + 1 + 1 < B) : Lay w W' [(w.heap.size, t0, c0), (w.heap.size + 1, t1, c1), (w.heap.size + 1 + 1, t2, c2)] :=
 lay3 (h.1.grown hg h.1.size (fun j hj => by have := hr j hj; omega)) (Nat.le_refl _) ((h.blk 0 rfl).grown hg (fun e => by have := hr _ e.symm; omega)) ((h.blk 1 rfl).grown hg (fun e => by have := hr _ e.symm; omega)) ((h.blk 2 rfl).grown hg (fun e => by have := hr _ e.symm; omega))

def StrollOwn (w : World) (t : Town) (dk : Bool) (u : Int) (n : Nat) (e : Ending) (w' : World) : Prop :=
 ∃ (g : Gone) (l : List Int) (B : Option Addr) (q : Nat), e = .returned (.tuple #[g.val, .slice B l.length q]) ∧ Strolled t dk u n g l ∧ Own w' w.heap.size 3 1 B l.length q (l.map (Value.int .i64)) ∧ Below w.heap.size w w' ∧ l.length ≤ q
set_option maxRecDepth 100000 in
set_option maxHeartbeats 8000000 in
theorem stroll_own (A : Option Addr) (n c : Nat) (A' : Option Addr) (m d : Nat) (t : Town) (u v : Int) (dk : Bool) (A2 : Option Addr) (n2 c2 : Nat) (l : List Nat) (w : World) (hm : m ≤ 20) (hk : n2 ≤ maxLen) (ht : LinksAt w w.heap.size A' m t.links) (hf : Fine t) (hr : BytesAt w w.heap.size A2 n2 l) :
  Calls Tryz.prog 19 #[.agg #[.slice A n c, .slice A' m d], .int .i64 u, .int .i64 v, .bool dk, .slice A2 n2 c2] w (StrollOwn w t dk u n2) := by
 unfold maxLen at hk
 have HT := Lib.hid ht
 have HR := Lib.hid hr
 have HF := Lib.hid hf
 have HLm := Lib.hid ht.len
 clear ht hr hf
 have HLay := Lib.hid (Lay.three w 25 #[.slice A n c, .slice A' m d] 39 #[.int .i64 0, .int .i64 0, .int .i64 0, .int .i64 0, .int .i64 0, .int .i64 0, .int .i64 0] 39 #[.int .i64 u, .int .i64 0, .int .i64 0, .int .i64 0, .int .i64 0, .int .i64 0, .int .i64 0])
 go_enter Tryz.func19, Tryz.ntmps19
 go_upto_region 3 with fail
 generalize (((w.alloc (.cells #[.slice A n c, .slice A' m d] 25)).alloc (.cells #[.int .i64 0, .int .i64 0, .int .i64 0, .int .i64 0, .int .i64 0, .int .i64 0, .int .i64 0] 39)).alloc (.cells #[.int .i64 u, .int .i64 0, .int .i64 0, .int .i64 0, .int .i64 0, .int .i64 0, .int .i64 0] 39)) = w0 at *
 have HW0 : Hid (w.heap.size + 1 + 1 < w0.heap.size) := Lib.hid (HLay.out.lt 2 rfl)
 go_wp2_with fail
 go_loopw [13, 24] (fun v13 v24 wr => ∃ (k q : Nat) (B : Option Addr) (g : Gone) (ls : List Int), k ≤ n2 ∧ v24 = .int .i64 k ∧ v13 = .slice B ls.length q ∧ ls.length ≤ 40 ∧ Hid (Lay w wr [(w.heap.size, 25, #[.slice A n c, .slice A' m d]), (w.heap.size + 1, 39, #[.int .i64 0, .int .i64 0, .int .i64 0, .int .i64 0, .int .i64 0, .int .i64 0, .int .i64 0]), (w.heap.size + 1 + 1, 39, g.vals)] ∧ Own wr w0.heap.size 3 1 B ls.length q (ls.map (Value.int .i64)) ∧ w0.heap.size ≤ wr.heap.size ∧ GW t dk (startG u) ls g ∧ ls.length ≤ k))
  (fun _ vi _ => n2 - (intOf vi).toNat)
 case atStart => exact ⟨0, 0, none, startG u, [], by omega, rfl, rfl, by simp, Lib.hid ⟨HLay.out, Own.none_ _ _ _ _, Nat.le_refl _, .nil _, by simp⟩⟩
 case round =>
  obtain ⟨k, q, B, g, ls, hkk, rfl, rfl, h40, HS⟩ := hrel
  by_cases hlt : k < n2
  ·obtain ⟨b1, o1, x, rfl, hb1, hx, cx, hx255⟩ := (HR.out.below HS.out.1.1).cell hlt
   have y0 := (HS.out.1.blk 0 rfl).cell 0
   have y1 := (HS.out.1.blk 0 rfl).cell 1
   have ly := HS.out.1.lt 0 rfl
   have g0 := (HS.out.1.blk 2 rfl).cell 0
   have lg := HS.out.1.lt 2 rfl
   clear hx hb1
   by_cases hstop : g.at_ = v ∨ m = 0 ∨ ls.length = 40
   ·have hst3 : (((g.at_ == v) = true) ∨ ((g.at_ == v) = false ∧ ((((m : Nat) : Int) == 0) = true ∨ ((((m : Nat) : Int) == 0) = false ∧ (((ls.length : Nat) : Int) == 40) = true)))) := by
     by_cases e1 : g.at_ = v
     ·exact .inl (by simpa using e1)
     ·refine .inr ⟨by simpa using e1, ?_⟩
      by_cases e2 : m = 0
      ·exact .inl (by simp; omega)
      ·refine .inr ⟨by simp; omega, ?_⟩
       rcases hstop with h | h | h
       ·exact absurd h e1
       ·exact absurd h e2
       ·simp; omega
    clear hstop g0 lg
    rcases hst3 with e1 | ⟨e1, e2 | ⟨e2, e3⟩⟩
    all_goals
     have ga0 := (HS.out.1.blk 2 rfl).cell 0
     have ga1 := (HS.out.1.blk 2 rfl).cell 1
     have ga2 := (HS.out.1.blk 2 rfl).cell 2
     have ga3 := (HS.out.1.blk 2 rfl).cell 3
     have ga4 := (HS.out.1.blk 2 rfl).cell 4
     have ga5 := (HS.out.1.blk 2 rfl).cell 5
     have ga6 := (HS.out.1.blk 2 rfl).cell 6
     have oa0 := (HS.out.1.blk 1 rfl).cell 0
     have oz0 := (HS.out.1.blk 1 rfl).frozen 0
     have oa1 := (HS.out.1.blk 1 rfl).cell 1
     have oz1 := (HS.out.1.blk 1 rfl).frozen 1
     have oa2 := (HS.out.1.blk 1 rfl).cell 2
     have oz2 := (HS.out.1.blk 1 rfl).frozen 2
     have oa3 := (HS.out.1.blk 1 rfl).cell 3
     have oz3 := (HS.out.1.blk 1 rfl).frozen 3
     have oa4 := (HS.out.1.blk 1 rfl).cell 4
     have oz4 := (HS.out.1.blk 1 rfl).frozen 4
     have oa5 := (HS.out.1.blk 1 rfl).cell 5
     have oz5 := (HS.out.1.blk 1 rfl).frozen 5
     have oa6 := (HS.out.1.blk 1 rfl).cell 6
     have oz6 := (HS.out.1.blk 1 rfl).frozen 6
     have gal := HS.out.1.lt 2 rfl
     have oal := HS.out.1.lt 1 rfl
     go_wp2_with fail
     have R1 := ret7 (HS.out.1.blk 1 rfl) HS.out.1.1 (by omega) (.int .i64 g.at_) (.int .i64 g.up) (.int .i64 g.paces) (.int .i64 g.paces) (.int .i64 g.up) (.int .i64 g.steps) (.int .i64 g.longer)
     have HO9 := Lib.hid (own_set7 HS.out.2.1 (show w.heap.size + 1 < w0.heap.size by have := HW0.out; omega) (.int .i64 g.at_) (.int .i64 g.up) (.int .i64 g.paces) (.int .i64 g.paces) (.int .i64 g.up) (.int .i64 g.steps) (.int .i64 g.longer))
     have r0 := R1.1.cell 0
     have r1 := R1.1.cell 1
     have r2 := R1.1.cell 2
     have r3 := R1.1.cell 3
     have r4 := R1.1.cell 4
     have r5 := R1.1.cell 5
     have r6 := R1.1.cell 6
     refine bodyPost_ret (v := .tuple #[g.val, .slice B ls.length q]) (by simp [results, Tryz.results19, go_sem, r0, r1, r2, r3, r4, r5, r6]) rfl ⟨g, ls, B, q, rfl, ⟨HS.out.2.2.2.1, h40, by have := HS.out.2.2.2.2; omega⟩, HO9.out.mono (by have := HW0.out; omega), R1.2, HO9.out.cap_le.1⟩
   ·simp only [not_or] at hstop
    obtain ⟨hs1, hs2, hs3⟩ := hstop
    have hs1' : (g.at_ == v) = false := by simpa using hs1
    have hs2' : (((m : Nat) : Int) == 0) = false := by simp; omega
    have hs3' : (((ls.length : Nat) : Int) == 40) = false := by simp; omega
    have hm0 : 0 < m := by omega
    have h39 : ls.length ≤ 39 := by omega
    clear hs1 hs2 hs3
    go_wp2_with fail
    clear y0 y1 ly g0 lg cx hs1' hs2' hs3'
    go_loopw [13, 46] (fun v13 v46 wr2 => ∃ (j : Nat), j ≤ m ∧ v46 = .int .i64 j ∧ v13 = .slice B ls.length q ∧ Hid (Lay w wr2 [(w.heap.size, 25, #[.slice A n c, .slice A' m d]), (w.heap.size + 1, 39, #[.int .i64 0, .int .i64 0, .int .i64 0, .int .i64 0, .int .i64 0, .int .i64 0, .int .i64 0]), (w.heap.size + 1 + 1, 39, g.vals)] ∧ Own wr2 w0.heap.size 3 1 B ls.length q (ls.map (Value.int .i64)) ∧ w0.heap.size ≤ wr2.heap.size))
     (fun _ vj _ => m - (intOf vj).toNat)
    case atStart => exact ⟨0, by omega, rfl, rfl, Lib.hid ⟨HS.out.1, HS.out.2.1, HS.out.2.2.1⟩⟩
    case round =>
     rename World => wr2
     obtain ⟨j, hj, rfl, rfl, HJ⟩ := hrel
     by_cases hjm : j < m
     ·have hrm : (x + j) % m < m := Nat.mod_lt _ hm0
      have HM : Hid (Int.tmod ((x : Int) + (j : Int)) (m : Int) = (((x + j) % m : Nat) : Int)) := Lib.hid (by rw [Int.tmod_eq_emod_of_nonneg (by omega)]; push_cast; rfl)
      obtain ⟨r, hrq⟩ : ∃ r, (x + j) % m = r := ⟨_, rfl⟩
      rw [hrq] at HM hrm
      obtain ⟨b2, off2, y, rfl, hb2, hy, h0, h1, h2, h3, h4⟩ := (HT.out.below HJ.out.1.1).cell hrm
      have HY := Lib.hid hy
      have hbl2 : b2 < wr2.heap.size := Nat.lt_of_lt_of_le hb2 HJ.out.1.1.size
      clear hy hrq
      have K0 : wr2.drew.cell? ⟨w.heap.size, 1, none⟩ = some (.slice (some ⟨b2, off2, none⟩) m d) ∧ wr2.drew.cell? ⟨b2, off2 + r * 5, none⟩ = some (.int .i64 y.id) ∧ wr2.drew.cell? ⟨b2, off2 + r * 5 + 1, none⟩ = some (.int .i64 y.fr) ∧ wr2.drew.cell? ⟨b2, off2 + r * 5 + 2, none⟩ = some (.int .i64 y.to) ∧ wr2.drew.cell? ⟨b2, off2 + r * 5 + 3, none⟩ = some (.int .i64 y.steps) ∧ wr2.drew.cell? ⟨b2, off2 + r * 5 + 4, none⟩ = some (.int .i64 y.paces) := ⟨(HJ.out.1.blk 0 rfl).cell 1, h0, h1, h2, h3, h4⟩
      have lyt := HJ.out.1.lt 0 rfl
      have KK := Lib.hid (fun (W' : World) (hb : Below wr2.heap.size wr2 W') => (show W'.cell? ⟨w.heap.size, 1, none⟩ = some (.slice (some ⟨b2, off2, none⟩) m d) ∧ W'.cell? ⟨b2, off2 + r * 5, none⟩ = some (.int .i64 y.id) ∧ W'.cell? ⟨b2, off2 + r * 5 + 1, none⟩ = some (.int .i64 y.fr) ∧ W'.cell? ⟨b2, off2 + r * 5 + 2, none⟩ = some (.int .i64 y.to) ∧ W'.cell? ⟨b2, off2 + r * 5 + 3, none⟩ = some (.int .i64 y.steps) ∧ W'.cell? ⟨b2, off2 + r * 5 + 4, none⟩ = some (.int .i64 y.paces) from ⟨(hb.cell (p := ⟨w.heap.size, 1, none⟩) (HJ.out.1.lt 0 rfl)).trans ((HJ.out.1.blk 0 rfl).cell 1), (hb.cell (p := ⟨b2, off2 + r * 5, none⟩) hbl2).trans h0, (hb.cell (p := ⟨b2, off2 + r * 5 + 1, none⟩) hbl2).trans h1, (hb.cell (p := ⟨b2, off2 + r * 5 + 2, none⟩) hbl2).trans h2, (hb.cell (p := ⟨b2, off2 + r * 5 + 3, none⟩) hbl2).trans h3, (hb.cell (p := ⟨b2, off2 + r * 5 + 4, none⟩) hbl2).trans h4⟩))
      have r0 : (0 : Int) ≤ (r : Int) := by omega
      have rm : (r : Int) < (m : Int) := by omega
      have wxj : IntKind.i64.wrap ((x : Int) + (j : Int)) = (x : Int) + (j : Int) := IntWalk.i64_in _ (by omega)
      have hm1 : ((m : Nat) : Int) ≠ 0 := by omega
      have htm := HM.out
      have hmn : ¬ m = 0 := by omega
      have hmn2 : (m == 0) = false := by simp; omega
      have wx : IntKind.i64.wrap (x : Int) = (x : Int) := IntWalk.i64_in _ (by omega)
      have hmz : (((m : Nat) : Int) == 0) = false := by simp; omega
      have wrr : IntKind.i64.wrap (r : Int) = (r : Int) := IntWalk.i64_in _ (by omega)
      go_wp2_with fail
      go_region_held3 (fun w' => w'.cell? ⟨w.heap.size, 1, none⟩ = some (.slice (some ⟨b2, off2, none⟩) m d) ∧ w'.cell? ⟨b2, off2 + r * 5, none⟩ = some (.int .i64 y.id) ∧ w'.cell? ⟨b2, off2 + r * 5 + 1, none⟩ = some (.int .i64 y.fr) ∧ w'.cell? ⟨b2, off2 + r * 5 + 2, none⟩ = some (.int .i64 y.to) ∧ w'.cell? ⟨b2, off2 + r * 5 + 3, none⟩ = some (.int .i64 y.steps) ∧ w'.cell? ⟨b2, off2 + r * 5 + 4, none⟩ = some (.int .i64 y.paces))
       (first | with_reducible assumption | exact KK.out _ (below_drewN ((Below.refl wr2.heap.size wr2).alloc (Nat.le_refl _) _) 1) | exact KK.out _ (below_drewN ((((((Below.refl wr2.heap.size wr2).alloc (Nat.le_refl _) _).setCell (Nat.le_refl _) _).setCell (Nat.le_refl _) _).setCell (Nat.le_refl _) _).setCell (Nat.le_refl _) _) 1) | go_keep) (fail)
      have X1 := Lib.hid ((Blk.new wr2 52 #[.int .i64 y.id, .int .i64 y.fr, .int .i64 y.to, .int .i64 y.steps, .int .i64 y.paces]).drewN 1)
      have HB3 : Below wr2.heap.size wr2 (wr2.alloc (.cells #[.int .i64 y.id, .int .i64 y.fr, .int .i64 y.to, .int .i64 y.steps, .int .i64 y.paces] 52)).drew := below_drewN ((Below.refl wr2.heap.size wr2).alloc (Nat.le_refl _) _) 1
      have HL3 := Lib.hid (HJ.out.1.below HB3)
      have HO3 := Lib.hid (HJ.out.2.1.below HB3 (Nat.le_refl _))
      have HZ3 := Lib.hid (Nat.le_trans HJ.out.2.2 HB3.size)
      clear HB3 K0 KK h0 h1 h2 h3 h4 wxj wx wrr htm hmn hmn2 hmz hm1 lyt rm r0 hbl2 hb2
      replace X1 := Lib.hid (show Blk (wr2.alloc (.cells #[.int .i64 y.id, .int .i64 y.fr, .int .i64 y.to, .int .i64 y.steps, .int .i64 y.paces] 52)).drew wr2.heap.size 52 #[.int .i64 y.id, .int .i64 y.fr, .int .i64 y.to, .int .i64 y.steps, .int .i64 y.paces] from X1.out)
      generalize (wr2.alloc (.cells #[.int .i64 y.id, .int .i64 y.fr, .int .i64 y.to, .int .i64 y.steps, .int .i64 y.paces] 52)).drew = w3 at *
      have HXM := Lib.hid (List.mem_of_getElem? HY.out)
      have HIN := Lib.hid (show g.In ls.length from by have := HS.out.2.2.2.1.in_ HF.out (startG_in u); rwa [Nat.zero_add] at this)
      have p0 := (HL3.out.blk 2 rfl).cell 0
      have p1 := (HL3.out.blk 2 rfl).cell 1
      have p2 := (HL3.out.blk 2 rfl).cell 2
      have p3 := (HL3.out.blk 2 rfl).cell 3
      have p4 := (HL3.out.blk 2 rfl).cell 4
      have p5 := (HL3.out.blk 2 rfl).cell 5
      have p6 := (HL3.out.blk 2 rfl).cell 6
      have pl := HL3.out.lt 2 rfl
      have x0 := X1.out.cell 0
      have x1 := X1.out.cell 1
      have x2 := X1.out.cell 2
      have x3 := X1.out.cell 3
      have x4 := X1.out.cell 4
      have xl := X1.out.lt
      go_wp2_with fail
      refine (goes_any g y dk ls.length w3 HIN.out (by omega) (HF.out.steps y HXM.out) (HF.out.paces y HXM.out)).mono ?_
      rintro e w4 ⟨rfl, hb4⟩
      have HL4 := Lib.hid (HL3.out.below hb4)
      have HO4 := Lib.hid (HO3.out.below hb4 (Nat.le_refl _))
      have HZ4 := Lib.hid (Nat.le_trans HZ3.out hb4.size)
      have X4 := Lib.hid (X1.out.below hb4 X1.out.lt)
      clear hb4 X1 HL3 HO3 HZ3 x0 x1 x2 x3 x4 xl p0 p1 p2 p3 p4 p5 p6 pl
      cases hgo : goesF dk y g with
      | none =>
       have HG0 := Lib.hid hgo
       have hgp : goesP dk y g = (g, false) := by unfold goesP; rw [hgo]
       rw [hgp]
       clear hgo hgp
       have HB5 : Below w4.heap.size w4 (w4.alloc (.cells #[.int .i64 g.at_, .int .i64 g.up, .int .i64 g.paces, .int .i64 g.paces, .int .i64 g.up, .int .i64 g.steps, .int .i64 g.longer] 39)) := (Below.refl w4.heap.size w4).alloc (Nat.le_refl _) _
       have HL5 := Lib.hid (HL4.out.below HB5)
       have HO5 := Lib.hid (HO4.out.below HB5 (Nat.le_refl _))
       have HZ5 := Lib.hid (Nat.le_trans HZ4.out HB5.size)
       clear HB5
       go_wp2_with fail
       go_roundw
       case rel => exact ⟨j + 1, by omega, by go_num, rfl, Lib.hid ⟨HL5.out, HO5.out, HZ5.out⟩⟩
       case measure => simp [intOf]; omega
      | some g' =>
       have HG0 := Lib.hid hgo
       have hgp : goesP dk y g = (g', true) := by unfold goesP; rw [hgo]
       rw [hgp]
       clear hgo hgp
       have HB5 : Below w4.heap.size w4 (w4.alloc (.cells #[.int .i64 g'.at_, .int .i64 g'.up, .int .i64 g'.paces, .int .i64 g'.paces, .int .i64 g'.up, .int .i64 g'.steps, .int .i64 g'.longer] 39)) := (Below.refl w4.heap.size w4).alloc (Nat.le_refl _) _
       have HL5 := Lib.hid (HL4.out.below HB5)
       have HO5 := Lib.hid (HO4.out.below HB5 (Nat.le_refl _))
       have HZ5 := Lib.hid (Nat.le_trans HZ4.out HB5.size)
       have X5 := Lib.hid (X4.out.below HB5 X4.out.lt)
       have Y5 := Lib.hid (Blk.new w4 39 #[.int .i64 g'.at_, .int .i64 g'.up, .int .i64 g'.paces, .int .i64 g'.paces, .int .i64 g'.up, .int .i64 g'.steps, .int .i64 g'.longer])
       have HO18 := Lib.hid HZ4.out
       have HO19 := Lib.hid X4.out.lt
       clear HB5 X4 HL4 HO4 HZ4
       go_upto_region 13 with fail
       obtain ⟨G18, hG⟩ : ∃ G, w4.heap.size = G := ⟨_, rfl⟩
       rw [hG] at Y5 HO18 HO19 ⊢
       clear hG
       generalize (w4.alloc (.cells #[.int .i64 g'.at_, .int .i64 g'.up, .int .i64 g'.paces, .int .i64 g'.paces, .int .i64 g'.up, .int .i64 g'.steps, .int .i64 g'.longer] 39)) = w5 at *
       have K0 : w5.drew.cell? ⟨wr2.heap.size, 0, none⟩ = some (.int .i64 y.id) ∧ w5.drew.cell? ⟨G18, 0, none⟩ = some (.int .i64 g'.at_) ∧ w5.drew.cell? ⟨G18, 1, none⟩ = some (.int .i64 g'.up) ∧ w5.drew.cell? ⟨G18, 2, none⟩ = some (.int .i64 g'.paces) ∧ w5.drew.cell? ⟨G18, 3, none⟩ = some (.int .i64 g'.paces) ∧ w5.drew.cell? ⟨G18, 4, none⟩ = some (.int .i64 g'.up) ∧ w5.drew.cell? ⟨G18, 5, none⟩ = some (.int .i64 g'.steps) ∧ w5.drew.cell? ⟨G18, 6, none⟩ = some (.int .i64 g'.longer) := ⟨X5.out.cell 0, Y5.out.cell 0, Y5.out.cell 1, Y5.out.cell 2, Y5.out.cell 3, Y5.out.cell 4, Y5.out.cell 5, Y5.out.cell 6⟩
       have hl2 := HL5.out.lt 2 rfl
       have hlx := X5.out.lt
       have hly := Y5.out.lt
       have hne8 : G18 ≠ w.heap.size + 1 + 1 := by have := HO18.out; have := HW0.out; omega
       have hnx8 : wr2.heap.size ≠ w.heap.size + 1 + 1 := by have := HJ.out.2.2; have := HW0.out; omega
       have HR8 : Hid (∀ j, B.map (·.block) = some j → j < wr2.heap.size) := Lib.hid (fun j hj => by
        cases B with
        | none => cases hj
        | some a => have := (HJ.out.2.1.lt rfl).2; simp at hj; omega)
       have HOB : Hid (Blk (w5.alloc (.cells #[.int .i64 y.id] 3)).drew w5.heap.size 3 #[.int .i64 y.id]) := Lib.hid ((Blk.new _ _ _).drewN 1)
       have HOW := Lib.hid ((HO5.out.alloc (.cells #[.int .i64 y.id] 3)).drewN 1)
       have HB6 : Below w5.heap.size w5 (w5.alloc (.cells #[.int .i64 y.id] 3)).drew := below_drewN ((Below.refl w5.heap.size w5).alloc (Nat.le_refl _) _) 1
       have HL6 := Lib.hid (HL5.out.below HB6)
       have HZ6 := Lib.hid (Nat.le_trans HZ5.out HB6.size)
       have X6 := Lib.hid (X5.out.below HB6 X5.out.lt)
       have Y6 := Lib.hid (Y5.out.below HB6 Y5.out.lt)
       have K1 : (w5.alloc (.cells #[.int .i64 y.id] 3)).drew.cell? ⟨wr2.heap.size, 0, none⟩ = some (.int .i64 y.id) ∧ (w5.alloc (.cells #[.int .i64 y.id] 3)).drew.cell? ⟨G18, 0, none⟩ = some (.int .i64 g'.at_) ∧ (w5.alloc (.cells #[.int .i64 y.id] 3)).drew.cell? ⟨G18, 1, none⟩ = some (.int .i64 g'.up) ∧ (w5.alloc (.cells #[.int .i64 y.id] 3)).drew.cell? ⟨G18, 2, none⟩ = some (.int .i64 g'.paces) ∧ (w5.alloc (.cells #[.int .i64 y.id] 3)).drew.cell? ⟨G18, 3, none⟩ = some (.int .i64 g'.paces) ∧ (w5.alloc (.cells #[.int .i64 y.id] 3)).drew.cell? ⟨G18, 4, none⟩ = some (.int .i64 g'.up) ∧ (w5.alloc (.cells #[.int .i64 y.id] 3)).drew.cell? ⟨G18, 5, none⟩ = some (.int .i64 g'.steps) ∧ (w5.alloc (.cells #[.int .i64 y.id] 3)).drew.cell? ⟨G18, 6, none⟩ = some (.int .i64 g'.longer) := ⟨X6.out.cell 0, Y6.out.cell 0, Y6.out.cell 1, Y6.out.cell 2, Y6.out.cell 3, Y6.out.cell 4, Y6.out.cell 5, Y6.out.cell 6⟩
       have hls : ls.length + 1 ≤ maxLen := by unfold maxLen; omega
       go_region_held3 (fun w' => w'.cell? ⟨wr2.heap.size, 0, none⟩ = some (.int .i64 y.id) ∧ w'.cell? ⟨G18, 0, none⟩ = some (.int .i64 g'.at_) ∧ w'.cell? ⟨G18, 1, none⟩ = some (.int .i64 g'.up) ∧ w'.cell? ⟨G18, 2, none⟩ = some (.int .i64 g'.paces) ∧ w'.cell? ⟨G18, 3, none⟩ = some (.int .i64 g'.paces) ∧ w'.cell? ⟨G18, 4, none⟩ = some (.int .i64 g'.up) ∧ w'.cell? ⟨G18, 5, none⟩ = some (.int .i64 g'.steps) ∧ w'.cell? ⟨G18, 6, none⟩ = some (.int .i64 g'.longer))
        (first | with_reducible assumption | exact ⟨(set7_far X8.out hnx8 (.int .i64 g'.at_) (.int .i64 g'.up) (.int .i64 g'.paces) (.int .i64 g'.paces) (.int .i64 g'.up) (.int .i64 g'.steps) (.int .i64 g'.longer)).cell 0, (set7_far Y8.out hne8 (.int .i64 g'.at_) (.int .i64 g'.up) (.int .i64 g'.paces) (.int .i64 g'.paces) (.int .i64 g'.up) (.int .i64 g'.steps) (.int .i64 g'.longer)).cell 0, (set7_far Y8.out hne8 (.int .i64 g'.at_) (.int .i64 g'.up) (.int .i64 g'.paces) (.int .i64 g'.paces) (.int .i64 g'.up) (.int .i64 g'.steps) (.int .i64 g'.longer)).cell 1, (set7_far Y8.out hne8 (.int .i64 g'.at_) (.int .i64 g'.up) (.int .i64 g'.paces) (.int .i64 g'.paces) (.int .i64 g'.up) (.int .i64 g'.steps) (.int .i64 g'.longer)).cell 2, (set7_far Y8.out hne8 (.int .i64 g'.at_) (.int .i64 g'.up) (.int .i64 g'.paces) (.int .i64 g'.paces) (.int .i64 g'.up) (.int .i64 g'.steps) (.int .i64 g'.longer)).cell 3, (set7_far Y8.out hne8 (.int .i64 g'.at_) (.int .i64 g'.up) (.int .i64 g'.paces) (.int .i64 g'.paces) (.int .i64 g'.up) (.int .i64 g'.steps) (.int .i64 g'.longer)).cell 4, (set7_far Y8.out hne8 (.int .i64 g'.at_) (.int .i64 g'.up) (.int .i64 g'.paces) (.int .i64 g'.paces) (.int .i64 g'.up) (.int .i64 g'.steps) (.int .i64 g'.longer)).cell 5, (set7_far Y8.out hne8 (.int .i64 g'.at_) (.int .i64 g'.up) (.int .i64 g'.paces) (.int .i64 g'.paces) (.int .i64 g'.up) (.int .i64 g'.steps) (.int .i64 g'.longer)).cell 6⟩)
        (first | ((refine step_append_any (by rfl) (.tmp 70) (.tmp 73) (by rfl) elem_int (by rfl) HOW.out (by rfl) (one_int (x := y.id) HOB.out.lt (HOB.out.cell 0)) (ints_one _) hls (by omega) HZ6.out ?_); rintro A8 c8 w8 hown hgr; (have HO8 : Hid (Own w8 w0.heap.size 3 1 A8 (ls.length + 1) c8 ((ls ++ [y.id]).map (Value.int .i64))) := Lib.hid (by rw [List.map_append]; exact hown));  (have X8 := Lib.hid (X6.out.grown hgr (fun e => by have := HR8.out _ e.symm; have := HO19.out; omega))); (have Y8 := Lib.hid (Y6.out.grown hgr (fun e => by have := HR8.out _ e.symm; have := HO19.out; omega))); (have HL8 := Lib.hid (HL6.out.grown_own hgr (fun j hj => own_row HOW.out hj) HW0.out)); (have HZ8 := Lib.hid (Nat.le_trans HZ6.out hgr.size)); (have L8 := Lib.hid ((HL6.out.blk 2 rfl).grown hgr (fun e => by have := own_row HOW.out e.symm; have := HW0.out; omega))); (have q0 := L8.out.cell 0); (have qz0 := L8.out.frozen 0); (have q1 := L8.out.cell 1); (have qz1 := L8.out.frozen 1); (have q2 := L8.out.cell 2); (have qz2 := L8.out.frozen 2); (have q3 := L8.out.cell 3); (have qz3 := L8.out.frozen 3); (have q4 := L8.out.cell 4); (have qz4 := L8.out.frozen 4); (have q5 := L8.out.cell 5); (have qz5 := L8.out.frozen 5); (have q6 := L8.out.cell 6); (have qz6 := L8.out.frozen 6); (have ql := L8.out.lt); (have K8 : w8.cell? ⟨wr2.heap.size, 0, none⟩ = some (.int .i64 y.id) ∧ w8.cell? ⟨G18, 0, none⟩ = some (.int .i64 g'.at_) ∧ w8.cell? ⟨G18, 1, none⟩ = some (.int .i64 g'.up) ∧ w8.cell? ⟨G18, 2, none⟩ = some (.int .i64 g'.paces) ∧ w8.cell? ⟨G18, 3, none⟩ = some (.int .i64 g'.paces) ∧ w8.cell? ⟨G18, 4, none⟩ = some (.int .i64 g'.up) ∧ w8.cell? ⟨G18, 5, none⟩ = some (.int .i64 g'.steps) ∧ w8.cell? ⟨G18, 6, none⟩ = some (.int .i64 g'.longer) := ⟨X8.out.cell 0, Y8.out.cell 0, Y8.out.cell 1, Y8.out.cell 2, Y8.out.cell 3, Y8.out.cell 4, Y8.out.cell 5, Y8.out.cell 6⟩)) | fail)
       have HL9 : Hid (Lay w (((((((w8.setCell ⟨w.heap.size + 1 + 1, 0, none⟩ (.int .i64 g'.at_)).setCell ⟨w.heap.size + 1 + 1, 1, none⟩ (.int .i64 g'.up)).setCell ⟨w.heap.size + 1 + 1, 2, none⟩ (.int .i64 g'.paces)).setCell ⟨w.heap.size + 1 + 1, 3, none⟩ (.int .i64 g'.paces)).setCell ⟨w.heap.size + 1 + 1, 4, none⟩ (.int .i64 g'.up)).setCell ⟨w.heap.size + 1 + 1, 5, none⟩ (.int .i64 g'.steps)).setCell ⟨w.heap.size + 1 + 1, 6, none⟩ (.int .i64 g'.longer)) [(w.heap.size, 25, #[.slice A n c, .slice (some ⟨b2, off2, none⟩) m d]), (w.heap.size + 1, 39, #[.int .i64 0, .int .i64 0, .int .i64 0, .int .i64 0, .int .i64 0, .int .i64 0, .int .i64 0]), (w.heap.size + 1 + 1, 39, g'.vals)]) := Lib.hid (by
        have R7 := ret7 (HL8.out.blk 2 rfl) HL8.out.1 (by omega) (.int .i64 g'.at_) (.int .i64 g'.up) (.int .i64 g'.paces) (.int .i64 g'.paces) (.int .i64 g'.up) (.int .i64 g'.steps) (.int .i64 g'.longer)
        exact lay3 R7.2 (Nat.le_refl _) (set7_far (HL8.out.blk 0 rfl) (show w.heap.size ≠ w.heap.size + 1 + 1 by omega) (.int .i64 g'.at_) (.int .i64 g'.up) (.int .i64 g'.paces) (.int .i64 g'.paces) (.int .i64 g'.up) (.int .i64 g'.steps) (.int .i64 g'.longer)) (set7_far (HL8.out.blk 1 rfl) (show w.heap.size + 1 ≠ w.heap.size + 1 + 1 by omega) (.int .i64 g'.at_) (.int .i64 g'.up) (.int .i64 g'.paces) (.int .i64 g'.paces) (.int .i64 g'.up) (.int .i64 g'.steps) (.int .i64 g'.longer)) R7.1)
       have HO9 : Hid (Own (((((((w8.setCell ⟨w.heap.size + 1 + 1, 0, none⟩ (.int .i64 g'.at_)).setCell ⟨w.heap.size + 1 + 1, 1, none⟩ (.int .i64 g'.up)).setCell ⟨w.heap.size + 1 + 1, 2, none⟩ (.int .i64 g'.paces)).setCell ⟨w.heap.size + 1 + 1, 3, none⟩ (.int .i64 g'.paces)).setCell ⟨w.heap.size + 1 + 1, 4, none⟩ (.int .i64 g'.up)).setCell ⟨w.heap.size + 1 + 1, 5, none⟩ (.int .i64 g'.steps)).setCell ⟨w.heap.size + 1 + 1, 6, none⟩ (.int .i64 g'.longer)) w0.heap.size 3 1 A8 (ls.length + 1) c8 ((ls ++ [y.id]).map (Value.int .i64))) := Lib.hid (own_set7 HO8.out HW0.out (.int .i64 g'.at_) (.int .i64 g'.up) (.int .i64 g'.paces) (.int .i64 g'.paces) (.int .i64 g'.up) (.int .i64 g'.steps) (.int .i64 g'.longer))
       have HG9 : Hid (GW t dk (startG u) (ls ++ [y.id]) g') := Lib.hid (HS.out.2.2.2.1.snoc HXM.out HG0.out)
       go_wp2_with fail
       go_roundw
       case rel => exact ⟨k + 1, c8, A8, g', ls ++ [y.id], by omega, by go_num, by simp, by simp; omega, Lib.hid ⟨HL9.out, by simpa using HO9.out, by simpa using HZ8.out, HG9.out, by have := HS.out.2.2.2.2; simp; omega⟩⟩
       case measure => simp [intOf]; omega
     ·obtain rfl : j = m := by omega
      go_wp2_with fail
      go_roundw
      case rel => exact ⟨k + 1, q, B, g, ls, by omega, by go_num, rfl, h40, Lib.hid ⟨HJ.out.1, HJ.out.2.1, HJ.out.2.2, HS.out.2.2.2.1, by have := HS.out.2.2.2.2; omega⟩⟩
      case measure => simp [intOf]; omega
  ·obtain rfl : k = n2 := by omega
   have ga0 := (HS.out.1.blk 2 rfl).cell 0
   have ga1 := (HS.out.1.blk 2 rfl).cell 1
   have ga2 := (HS.out.1.blk 2 rfl).cell 2
   have ga3 := (HS.out.1.blk 2 rfl).cell 3
   have ga4 := (HS.out.1.blk 2 rfl).cell 4
   have ga5 := (HS.out.1.blk 2 rfl).cell 5
   have ga6 := (HS.out.1.blk 2 rfl).cell 6
   have oa0 := (HS.out.1.blk 1 rfl).cell 0
   have oz0 := (HS.out.1.blk 1 rfl).frozen 0
   have oa1 := (HS.out.1.blk 1 rfl).cell 1
   have oz1 := (HS.out.1.blk 1 rfl).frozen 1
   have oa2 := (HS.out.1.blk 1 rfl).cell 2
   have oz2 := (HS.out.1.blk 1 rfl).frozen 2
   have oa3 := (HS.out.1.blk 1 rfl).cell 3
   have oz3 := (HS.out.1.blk 1 rfl).frozen 3
   have oa4 := (HS.out.1.blk 1 rfl).cell 4
   have oz4 := (HS.out.1.blk 1 rfl).frozen 4
   have oa5 := (HS.out.1.blk 1 rfl).cell 5
   have oz5 := (HS.out.1.blk 1 rfl).frozen 5
   have oa6 := (HS.out.1.blk 1 rfl).cell 6
   have oz6 := (HS.out.1.blk 1 rfl).frozen 6
   have gal := HS.out.1.lt 2 rfl
   have oal := HS.out.1.lt 1 rfl
   go_wp2_with fail
   have R1 := ret7 (HS.out.1.blk 1 rfl) HS.out.1.1 (by omega) (.int .i64 g.at_) (.int .i64 g.up) (.int .i64 g.paces) (.int .i64 g.paces) (.int .i64 g.up) (.int .i64 g.steps) (.int .i64 g.longer)
   have HO9 := Lib.hid (own_set7 HS.out.2.1 (show w.heap.size + 1 < w0.heap.size by have := HW0.out; omega) (.int .i64 g.at_) (.int .i64 g.up) (.int .i64 g.paces) (.int .i64 g.paces) (.int .i64 g.up) (.int .i64 g.steps) (.int .i64 g.longer))
   have r0 := R1.1.cell 0
   have r1 := R1.1.cell 1
   have r2 := R1.1.cell 2
   have r3 := R1.1.cell 3
   have r4 := R1.1.cell 4
   have r5 := R1.1.cell 5
   have r6 := R1.1.cell 6
   refine bodyPost_ret (v := .tuple #[g.val, .slice B ls.length q]) (by simp [results, Tryz.results19, go_sem, r0, r1, r2, r3, r4, r5, r6]) rfl ⟨g, ls, B, q, rfl, ⟨HS.out.2.2.2.1, h40, by have := HS.out.2.2.2.2; omega⟩, HO9.out.mono (by have := HW0.out; omega), R1.2, HO9.out.cap_le.1⟩
end Go.Proofs.YtahkjagjcogeiaaGreatDoor
/- What the first walk is good for: no walk is before it; pieces; walks whatever the price: plain Lean. -/
namespace Go.Proofs.YtahkjagjcogeiaaGreatDoor

section
variable {t : Town} {dk : Bool} {p q : Price} {u v m : Int} {c d c1 c2 : Cost} {l k l1 l2 : List Int} {g g' : Gone}
end

section
variable {t : Town} {dk : Bool} {p : Price} {u v : Int} {c : Cost} {l k : List Int} {g g' : Gone}
theorem askE_one {t : Town} {u : Int} (hb : townB t = true) (hu : u ∈ t.places) : askE t [u] = 0 := by
 unfold askE hasB
 rw [if_pos hb, if_pos (by simp [memI_iff.2 hu])]
end
end Go.Proofs.YtahkjagjcogeiaaGreatDoor
/- Words for the ten laws. -/
namespace Go.Proofs.YtahkjagjcogeiaaGreatDoor
open Go.RowKit Go.Shelf

theorem townB_one {t : Town} (h : townB t = true) : 1 ≤ t.places.length := by
 unfold townB sizeB at h
 simp only [Bool.and_eq_true, decide_eq_true_eq] at h
 have := inB1_spec h.1.1.1
 omega
theorem own_off {w w' : World} {base size n cap g : Nat} {e t : TypeId} {A : Option Addr} {xs : List Value} {cs : Array Value} (h : Own w base e size A n cap xs) (hg : w.grownBy w' (some g)) (hb : Blk w g t cs) (ht : e ≠ t) : Own w' base e size A n cap xs :=
 h.grown hg (fun a ha e' => by
  rcases h.form with ⟨h1, _⟩ | ⟨g', cur, h1, _, h2, _⟩
  ·rw [h1] at ha; cases ha
  ·rw [h1] at ha
   cases ha
   exact blk_ne h2 hb ht (Option.some.inj e'))
theorem ret7' {w W : World} {B g : Nat} {t : TypeId} {z0 z1 z2 z3 z4 z5 z6 : Value} (R : Blk W g t #[z0, z1, z2, z3, z4, z5, z6]) (L : Below B w W) (hg : B ≤ g) (v0 v1 v2 v3 v4 v5 v6 : Value) :
  Blk (((((((W.setCell ⟨g, 0, none⟩ v0).setCell ⟨g, 1, none⟩ v1).setCell ⟨g, 2, none⟩ v2).setCell ⟨g, 3, none⟩ v3).setCell ⟨g, 4, none⟩ v4).setCell ⟨g, 5, none⟩ v5).setCell ⟨g, 6, none⟩ v6) g t #[v0, v1, v2, v3, v4, v5, v6] ∧
  Below B w (((((((W.setCell ⟨g, 0, none⟩ v0).setCell ⟨g, 1, none⟩ v1).setCell ⟨g, 2, none⟩ v2).setCell ⟨g, 3, none⟩ v3).setCell ⟨g, 4, none⟩ v4).setCell ⟨g, 5, none⟩ v5).setCell ⟨g, 6, none⟩ v6) ∧
  W.grownBy (((((((W.setCell ⟨g, 0, none⟩ v0).setCell ⟨g, 1, none⟩ v1).setCell ⟨g, 2, none⟩ v2).setCell ⟨g, 3, none⟩ v3).setCell ⟨g, 4, none⟩ v4).setCell ⟨g, 5, none⟩ v5).setCell ⟨g, 6, none⟩ v6) (some g) := by
 have h := ret7 R L hg v0 v1 v2 v3 v4 v5 v6
 refine ⟨h.1, h.2, ?_⟩
 exact grown_setCell (grown_setCell (grown_setCell (grown_setCell (grown_setCell (grown_setCell (grown_setCell (grown_refl W (some g)) (p := ⟨g, 0, none⟩) (.inl rfl) v0) (p := ⟨g, 1, none⟩) (.inl rfl) v1) (p := ⟨g, 2, none⟩) (.inl rfl) v2) (p := ⟨g, 3, none⟩) (.inl rfl) v3) (p := ⟨g, 4, none⟩) (.inl rfl) v4) (p := ⟨g, 5, none⟩) (.inl rfl) v5) (p := ⟨g, 6, none⟩) (.inl rfl) v6
end Go.Proofs.YtahkjagjcogeiaaGreatDoor
/- What links gone come to, as the laws ask it: plain Lean. -/
namespace Go.Proofs.YtahkjagjcogeiaaGreatDoor

section
variable {t : Town} {u v : Int} {dk : Bool} {l k : List Int} {g g' : Gone} {p : Price}
theorem gw_walked (ht : Fine t) (h : GW t dk (startG u) l g) (hl : l.length ≤ 40) (p : Price) : walkedF t p u l = some (g.at_, g.cost p) := by
 have h1 := walk_walkS ht.ids (h.walk0 p) zeroC
 unfold walkedF
 rw [if_neg (by omega), h1, zero_addC]
theorem gw_firstA (ht : Fine t) (h : GW t dk (startG u) l g) (hl : l.length ≤ 40) (p : Price) : firstA t p u l = (g.cost p).a := by
 unfold firstA
 rw [gw_walked ht h hl p]
theorem gw_bet (ht : Fine t) (h : GW t dk (startG u) l g) (hl : l.length ≤ 40) : betE t u l = 0 := by
 unfold betE
 rw [gw_walked ht h hl]
 rfl
theorem or2_00 : or2 0 0 = 0 := by simp [or2]
theorem slow0 {s : Gait} (h : gaitB s = true) : slowE s = 0 := by unfold slowE; rw [h]; rfl
theorem dry0 {s : Skin} (h : skinB s = true) : dryE s = 0 := by unfold dryE; rw [h]; rfl
theorem cost_time (g : Gone) (a b : Int) : (g.cost (timeP a b)).a = g.paces * a + g.up * b := by simp [Gone.cost, timeP]
theorem cost_loss (g : Gone) (a b : Int) : (g.cost (lossP a b)).a = g.paces * a + g.steps * b := by simp [Gone.cost, lossP]
theorem sec_gw (ht : Fine t) (h : GW t dk (startG u) l g) (hl : l.length ≤ 40) (ha : askE t [u] = 0) {s : Gait} (hg : gaitB s = true) :
  secE t s u l = 0 ∧ secV t s u l = ⟨g.paces * s.pace.lo + g.up * s.step.lo, g.paces * s.pace.hi + g.up * s.step.hi⟩ := by
 have h0 : or2 (askE t [u]) (slowE s) = 0 := by rw [ha, slow0 hg, or2_00]
 unfold secE secV
 rw [if_pos h0, if_pos h0, gw_bet ht h hl, gw_firstA ht h hl, gw_firstA ht h hl, cost_time, cost_time]
 exact ⟨rfl, rfl⟩
theorem end_gw (ht : Fine t) (h : GW t dk (startG u) l g) (hl : l.length ≤ 40) (ha : askE t [u] = 0) {s : Skin} (hg : skinB s = true) :
  endE t s u l = 0 ∧ endV t s u l = ⟨max 0 (s.drops - g.paces * s.pace.hi - g.steps * s.step.hi), max 0 (s.drops - g.paces * s.pace.lo - g.steps * s.step.lo)⟩ := by
 have h0 : or2 (askE t [u]) (dryE s) = 0 := by rw [ha, dry0 hg, or2_00]
 have he : endE t s u l = 0 := by unfold endE; rw [if_pos h0]; exact gw_bet ht h hl
 refine ⟨he, ?_⟩
 unfold endV
 rw [if_pos he, gw_firstA ht h hl, gw_firstA ht h hl, cost_loss, cost_loss, Int.sub_sub, Int.sub_sub]
theorem walk_gw (ht : Fine t) (h : GW t dk (startG u) l g) (hl : l.length ≤ 40) (ha : askE t [u] = 0) : walkV t u l = (g.at_, g.up, g.paces, 0) := by
 unfold walkV
 rw [if_pos ha, gw_walked ht h hl]
 rfl
/-- Products stay small. -/
theorem mul_small {a b : Int} {m n : Int} (ha : 0 ≤ a ∧ a ≤ m) (hb : 0 ≤ b ∧ b ≤ n) : 0 ≤ a * b ∧ a * b ≤ m * n :=
 ⟨Int.mul_nonneg ha.1 hb.1, Int.mul_le_mul ha.2 hb.2 hb.1 (by omega)⟩
theorem gw_small (ht : Fine t) (h : GW t dk (startG u) l g) (hl : l.length ≤ 40) : (0 ≤ g.paces ∧ g.paces ≤ 80000) ∧ (0 ≤ g.up ∧ g.up ≤ 20000) ∧ (0 ≤ g.steps ∧ g.steps ≤ 20000) := by
 have h1 := h.in_ ht (startG_in u)
 obtain ⟨a, b, c, d⟩ := h1
 omega
end
end Go.Proofs.YtahkjagjcogeiaaGreatDoor
/- Two walks one behind the other: plain Lean. -/
namespace Go.Proofs.YtahkjagjcogeiaaGreatDoor

def Gone.plus (h g : Gone) : Gone := ⟨g.at_, h.paces + g.paces, h.up + g.up, h.steps + g.steps, h.longer + g.longer⟩
section
variable {t : Town} {u v : Int} {dk : Bool} {l k : List Int} {g g' : Gone} {x : Link}
theorem goes_plus (h : Gone) (hg : goesF dk x g = some g') : goesF dk x (h.plus g) = some (h.plus g') := by
 unfold goesF at hg ⊢
 split at hg
 ·cases hg
 ·rename_i h1
  rw [if_neg h1]
  split at hg
  ·rename_i h2
   cases hg
   rw [if_pos (show x.fr = (h.plus g).at_ from h2)]
   simp [Gone.plus, Int.add_assoc]
  ·rename_i h2
   rw [if_neg (show ¬ x.fr = (h.plus g).at_ from h2)]
   split at hg
   ·rename_i h3
    cases hg
    rw [if_pos (show x.to = (h.plus g).at_ from h3)]
    simp [Gone.plus, Int.add_assoc]
   ·cases hg
theorem GW.plus (h : Gone) (hw : GW t dk g l g') : GW t dk (h.plus g) l (h.plus g') := by
 induction hw with
 | nil g => exact .nil _
 | cons hx hg _ ih => exact .cons hx (goes_plus h hg) ih
theorem gw_sum (h1 : GW t dk (startG u) l g) (h2 : GW t dk (startG g.at_) k g') : GW t dk (startG u) (l ++ k) (g.plus g') := by
 have h3 := h2.plus g
 rw [show g.plus (startG g.at_) = g from by simp [Gone.plus, startG]] at h3
 exact h1.append h3
/-- A skin with other drops. -/
theorem skin_low {s : Skin} (h : skinB s = true) {d : Int} (hd : 0 ≤ d ∧ d ≤ 100000) : skinB ⟨d, s.pace, s.step⟩ = true := by
 unfold skinB at h ⊢
 simp only [Bool.and_eq_true] at h ⊢
 refine ⟨?_, h.2⟩
 simp [inB]
 omega
theorem left_on {D b c : Int} (hb : 0 ≤ b) (hc : 0 ≤ c) (p q : Int) (hp : 0 ≤ p) (hq : 0 ≤ q) : max 0 (max 0 (D - p - q) - b - c) = max 0 (D - (p + b) - (q + c)) := by omega
end
end Go.Proofs.YtahkjagjcogeiaaGreatDoor
/- By a place between; pieces of the way: plain Lean. -/
namespace Go.Proofs.YtahkjagjcogeiaaGreatDoor

section
variable {t : Town} {u v m : Int} {dk : Bool} {l k : List Int} {g g' : Gone} {c d : Cost}
theorem gw_ends (ht : Fine t) (h : GW t dk (startG u) l g) (hu : u ∈ t.places) : g.at_ ∈ t.places := by
 rcases (h.walk0 freeP).ends ht with ⟨h1, _⟩ | ⟨_, h1⟩
 ·rw [← h1]; exact hu
 ·exact h1
end
end Go.Proofs.YtahkjagjcogeiaaGreatDoor
/- The answer's spans, skins and gaits. -/
namespace Go.Proofs.YtahkjagjcogeiaaGreatDoor
open Go.RowKit

theorem inB_span (most : Int) (x : Span) : (inB 0 most [x.hi] && inB 0 x.hi [x.lo]) = spanB most x := by
 unfold spanB inB
 simp only [List.any_cons, List.any_nil, Bool.or_false]
 by_cases h1 : x.hi < 0 <;> by_cases h2 : most < x.hi <;> by_cases h3 : x.lo < 0 <;> by_cases h4 : x.hi < x.lo <;> simp [h1, h2, h3, h4] <;> omega

set_option maxRecDepth 100000 in
set_option maxHeartbeats 2000000 in
theorem rspanned_any (x : Span) (most : Int) (w : World) :
  Calls Tryz.prog 88 #[.agg #[.int .i64 x.lo, .int .i64 x.hi], .int .i64 most] w fun e w' => e = .returned (.bool (spanB most x)) ∧ Below w.heap.size w w' := by
 have HS := Lib.hid (inB_span most x)
 have B0 : Below w.heap.size w (w.alloc (.cells #[.int .i64 x.lo, .int .i64 x.hi] 63)) := (Below.refl _ _).alloc (Nat.le_refl _) _
 go_enter Tryz.func88, Tryz.ntmps88
 go_wp2_with fail
 refine (within_any x.hi 0 most _).mono ?_
 rintro e w1 ⟨rfl, rfl⟩
 cases hi : inB 0 most [x.hi] with
 | false =>
  have HI := Lib.hid hi
  clear hi
  go_wp2_with fail
  go_ret
  exact ⟨ret_bool (by rw [← HS.out, HI.out]; rfl), B0⟩
 | true =>
  have HI := Lib.hid hi
  clear hi
  go_wp2_with fail
  refine (within_any x.lo 0 x.hi _).mono ?_
  rintro e w1 ⟨rfl, rfl⟩
  go_wp2_with fail
  go_ret
  exact ⟨ret_bool (by rw [← HS.out, HI.out]; rfl), B0⟩

set_option maxRecDepth 100000 in
set_option maxHeartbeats 2000000 in
theorem rskin_any (s : Skin) (w : World) :
  Calls Tryz.prog 34 #[.agg #[.int .i64 s.drops, .int .i64 s.pace.lo, .int .i64 s.pace.hi, .int .i64 s.step.lo, .int .i64 s.step.hi]] w fun e w' => e = .returned (.bool (skinB s)) ∧ Below w.heap.size w w' := by
 have hs : skinB s = (inB 0 100000 [s.drops] && (spanB 50 s.pace && spanB 50 s.step)) := by
  unfold skinB spansB
  simp [Bool.not_or]
 have HS := Lib.hid hs
 clear hs
 go_enter Tryz.func34, Tryz.ntmps34
 go_wp2_with fail
 refine (within_any s.drops 0 100000 _).mono ?_
 rintro e w1 ⟨rfl, rfl⟩
 have B0 : Below w.heap.size w (w.alloc (.cells #[.int .i64 s.drops, .int .i64 s.pace.lo, .int .i64 s.pace.hi, .int .i64 s.step.lo, .int .i64 s.step.hi] 65)) := (Below.refl _ _).alloc (Nat.le_refl _) _
 have X0 := Blk.new w 65 #[.int .i64 s.drops, .int .i64 s.pace.lo, .int .i64 s.pace.hi, .int .i64 s.step.lo, .int .i64 s.step.hi]
 cases hi : inB 0 100000 [s.drops] with
 | false =>
  have HI := Lib.hid hi
  clear hi
  go_wp2_with fail
  go_ret
  exact ⟨ret_bool (by rw [HS.out, HI.out]; rfl), B0⟩
 | true =>
  have HI := Lib.hid hi
  clear hi
  go_wp2_with fail
  refine (rspanned_any s.pace 50 _).mono ?_
  rintro e w1 ⟨rfl, hb1⟩
  have X1 := X0.below hb1 X0.lt
  have B1 := B0.trans (hb1.mono B0.size)
  have x3 := X1.cell 3
  have x4 := X1.cell 4
  clear X0 hb1 B0 X1
  cases hj : spanB 50 s.pace with
  | false =>
   have HJ := Lib.hid hj
   clear hj
   go_wp2_with fail
   go_ret
   exact ⟨ret_bool (by rw [HS.out, HI.out, HJ.out]; rfl), B1⟩
  | true =>
   have HJ := Lib.hid hj
   clear hj
   go_wp2_with fail
   refine (rspanned_any s.step 50 _).mono ?_
   rintro e w2 ⟨rfl, hb2⟩
   have B2 := B1.trans (hb2.mono B1.size)
   clear hb2
   go_wp2_with fail
   go_ret
   exact ⟨ret_bool (by rw [HS.out, HI.out, HJ.out]; rfl), B2⟩

set_option maxRecDepth 100000 in
set_option maxHeartbeats 2000000 in
theorem rgait_any (s : Gait) (w : World) :
  Calls Tryz.prog 37 #[.agg #[.int .i64 s.pace.lo, .int .i64 s.pace.hi, .int .i64 s.step.lo, .int .i64 s.step.hi]] w fun e w' => e = .returned (.bool (gaitB s)) ∧ Below w.heap.size w w' := by
 have hs : gaitB s = (spanB 20 s.pace && spanB 20 s.step) := by
  unfold gaitB spansB
  simp [Bool.not_or]
 have HS := Lib.hid hs
 clear hs
 go_enter Tryz.func37, Tryz.ntmps37
 go_wp2_with fail
 have B0 : Below w.heap.size w (w.alloc (.cells #[.int .i64 s.pace.lo, .int .i64 s.pace.hi, .int .i64 s.step.lo, .int .i64 s.step.hi] 73)) := (Below.refl _ _).alloc (Nat.le_refl _) _
 have X0 := Blk.new w 73 #[.int .i64 s.pace.lo, .int .i64 s.pace.hi, .int .i64 s.step.lo, .int .i64 s.step.hi]
 refine (rspanned_any s.pace 20 _).mono ?_
 rintro e w1 ⟨rfl, hb1⟩
 have X1 := X0.below hb1 X0.lt
 have B1 := B0.trans (hb1.mono B0.size)
 have x2 := X1.cell 2
 have x3 := X1.cell 3
 clear X0 hb1 B0 X1
 cases hj : spanB 20 s.pace with
 | false =>
  have HJ := Lib.hid hj
  clear hj
  go_wp2_with fail
  go_ret
  exact ⟨ret_bool (by rw [HS.out, HJ.out]; rfl), B1⟩
 | true =>
  have HJ := Lib.hid hj
  clear hj
  go_wp2_with fail
  refine (rspanned_any s.step 20 _).mono ?_
  rintro e w2 ⟨rfl, hb2⟩
  have B2 := B1.trans (hb2.mono B1.size)
  clear hb2
  go_wp2_with fail
  go_ret
  exact ⟨ret_bool (by rw [HS.out, HJ.out]; rfl), B2⟩

end Go.Proofs.YtahkjagjcogeiaaGreatDoor
/- The law ClimbSums, walked. -/
namespace Go.Proofs.YtahkjagjcogeiaaGreatDoor
open Go.RowKit Go.Shelf
theorem bytes_take {w : World} {B n r : Nat} {A : Option Addr} {l : List Nat} (h : BytesAt w B A n l) (hr : r ≤ n) : BytesAt w B A r (l.take r) := by
 have hl := h.len
 refine ⟨⟨by simp; omega, fun h0 => ?_⟩, fun b hb => h.2 b (List.mem_of_mem_take hb)⟩
 obtain ⟨ad, e, hb, hc⟩ := h.1.2 (by omega)
 refine ⟨ad, e, hb, fun j u hu => hc j u ?_⟩
 rw [List.getElem?_map, List.getElem?_take] at hu
 split at hu
 ·rw [List.getElem?_map]; exact hu
 ·cases hu

set_option maxRecDepth 100000 in
set_option maxHeartbeats 16000000 in
theorem zsums_walk_in (A : Option Addr) (n c : Nat) (A' : Option Addr) (m d : Nat) (t : Town) (fr : Nat) (by_A : Option Addr) (by_n by_c : Nat) (by_ : List Nat) (th_A : Option Addr) (th_n th_c : Nat) (th_ : List Nat) (s : Skin) (gt : Gait) (w : World) (hn : n ≤ maxLen) (hm : m ≤ maxLen) (hfr : fr ≤ 255) (hby_ : by_n ≤ maxLen) (hcby_ : by_n ≤ by_c) (hth_ : th_n ≤ maxLen) (hcth_ : th_n ≤ th_c) (ht : TownAt w w.heap.size A n A' m t) (rby_ : BytesAt w w.heap.size by_A by_n by_) (rth_ : BytesAt w w.heap.size th_A th_n th_) (hL : Laid w) :
  CallsIn Fence.wide 9 Tryz.prog 9 #[.agg #[.slice A n c, .slice A' m d], .int .u8 fr, .slice by_A by_n by_c, .slice th_A th_n th_c, .agg #[.int .i64 s.drops, .int .i64 s.pace.lo, .int .i64 s.pace.hi, .int .i64 s.step.lo, .int .i64 s.step.hi], .agg #[.int .i64 gt.pace.lo, .int .i64 gt.pace.hi, .int .i64 gt.step.lo, .int .i64 gt.step.hi]] w fun e w' => e = .returned (.bool true) ∧ Below w.heap.size w w' := by
 have HR := Lib.hid rby_
 have HR2 := Lib.hid rth_
 clear rby_ rth_
 unfold maxLen at hby_ hth_
 have HT := Lib.hid ht
 have HL := Lib.hid hL
 have hl0 := hL.2.2.2
 have HLn := Lib.hid ht.places.len
 have HLm := Lib.hid ht.links.len
 clear ht hL
 unfold maxLen at hn hm
 refine callsIn_of_wp Tryz.func9 rfl trivial ?_ rfl
 simp only [Tryz.ntmps9, List.size_toArray, List.length_cons, List.length_nil, Nat.reduceAdd, Nat.reduceSub, Array.replicate_succ, Array.replicate_zero, List.push_toArray, List.append_toArray, List.nil_append, List.cons_append]
 gi_wp2
 have HLay := Lib.hid (Lay.three w 25 #[.slice A n c, .slice A' m d] 65 #[.int .i64 s.drops, .int .i64 s.pace.lo, .int .i64 s.pace.hi, .int .i64 s.step.lo, .int .i64 s.step.hi] 73 #[.int .i64 gt.pace.lo, .int .i64 gt.pace.hi, .int .i64 gt.step.lo, .int .i64 gt.step.hi])
 generalize (((w.alloc (.cells #[.slice A n c, .slice A' m d] 25)).alloc (.cells #[.int .i64 s.drops, .int .i64 s.pace.lo, .int .i64 s.pace.hi, .int .i64 s.step.lo, .int .i64 s.step.hi] 65)).alloc (.cells #[.int .i64 gt.pace.lo, .int .i64 gt.pace.hi, .int .i64 gt.step.lo, .int .i64 gt.step.hi] 73)) = w0 at *
 refine ⟨trivial, (callsIn_wide.2 (alive_any w0 (HL.out.below HLay.out.bel hl0))).mono ?_⟩
 rintro e W1 ⟨rfl, hb⟩
 replace HLay := Lib.hid (HLay.out.below hb)
 clear hb
 have x0_0 := (HLay.out.blk 0 rfl).cell 0
 have x0_1 := (HLay.out.blk 0 rfl).cell 1
 have l0_ := HLay.out.lt 0 rfl
 gi_wp2
 clear x0_0 x0_1 l0_
 refine ⟨trivial, (callsIn_wide.2 (ready_any A n c A' m d t W1 ((HT.out.below HLay.out.bel).more HLay.out.bel.size))).mono ?_⟩
 rintro e W2 ⟨rfl, hb⟩
 replace HLay := Lib.hid (HLay.out.below hb)
 clear hb
 cases hrd : readyB n m t with
 | false =>
  clear hrd
  gi_wp2
  refine ⟨trivial, ?_⟩
  gi_wp2
  refine ⟨trivial, ?_⟩
  gi_wp2
  exact bodyPost_ret (v := .bool true) (by simp [results, Tryz.results9, go_sem]) rfl ⟨rfl, HLay.out.bel⟩
 | true =>
 have htb : townB t = true := by unfold readyB at hrd; simp at hrd; exact hrd.2
 have HTB := Lib.hid htb
 have HG := Lib.hid (goodT htb)
 have hm20 : m ≤ 20 := by have := HG.out.links; have := HLm.out; omega
 have hn9 : n ≤ 9 := by have := HG.out.fine.size; have := HLn.out; omega
 have hn1 : 1 ≤ n := by have := townB_one htb; have := HLn.out; omega
 have HP1 : Hid (1 ≤ t.places.length) := Lib.hid (townB_one htb)
 clear hrd htb
 have x1_0 := (HLay.out.blk 1 rfl).cell 0
 have x1_1 := (HLay.out.blk 1 rfl).cell 1
 have x1_2 := (HLay.out.blk 1 rfl).cell 2
 have x1_3 := (HLay.out.blk 1 rfl).cell 3
 have x1_4 := (HLay.out.blk 1 rfl).cell 4
 have l1_ := HLay.out.lt 1 rfl
 gi_wp2
 clear x1_0 x1_1 x1_2 x1_3 x1_4 l1_
 refine ⟨trivial, (callsIn_wide.2 (rskin_any s W2)).mono ?_⟩
 rintro e W3 ⟨rfl, hb⟩
 replace HLay := Lib.hid (HLay.out.below hb)
 clear hb
 cases hst0 : skinB s with
 | false =>
  clear hst0
  gi_wp2
  refine ⟨trivial, ?_⟩
  gi_wp2
  exact bodyPost_ret (v := .bool true) (by simp [results, Tryz.results9, go_sem]) rfl ⟨rfl, HLay.out.bel⟩
 | true =>
 have HST0 := Lib.hid hst0
 have HSS := Lib.hid (goodS hst0)
 clear hst0
 have x2_0 := (HLay.out.blk 2 rfl).cell 0
 have x2_1 := (HLay.out.blk 2 rfl).cell 1
 have x2_2 := (HLay.out.blk 2 rfl).cell 2
 have x2_3 := (HLay.out.blk 2 rfl).cell 3
 have l2_ := HLay.out.lt 2 rfl
 gi_wp2
 clear x2_0 x2_1 x2_2 x2_3 l2_
 refine ⟨trivial, (callsIn_wide.2 (rgait_any gt W3)).mono ?_⟩
 rintro e W4 ⟨rfl, hb⟩
 replace HLay := Lib.hid (HLay.out.below hb)
 clear hb
 cases hgt0 : gaitB gt with
 | false =>
  clear hgt0
  gi_wp2
  exact bodyPost_ret (v := .bool true) (by simp [results, Tryz.results9, go_sem]) rfl ⟨rfl, HLay.out.bel⟩
 | true =>
 have HGT := Lib.hid hgt0
 have HGG := Lib.hid (goodG hgt0)
 clear hgt0
 have x0_0 := (HLay.out.blk 0 rfl).cell 0
 have x0_1 := (HLay.out.blk 0 rfl).cell 1
 have l0_ := HLay.out.lt 0 rfl
 gi_wp2
 clear x0_0 x0_1 l0_
 refine ⟨trivial, (callsIn_wide.2 (lplace_any A n c A' m d t fr W4 hn1 (by omega) hfr ((HT.out.places.below HLay.out.bel).more HLay.out.bel.size))).mono ?_⟩
 rintro e W5 ⟨rfl, hb⟩
 replace HLay := Lib.hid (HLay.out.below hb)
 clear hb
 obtain ⟨u, hu⟩ : ∃ u, plN t fr = u := ⟨_, rfl⟩
 rw [hu]
 have Hu := Lib.hid (show u ∈ t.places from hu ▸ plN_mem HP1.out fr)
 clear hu
 have HA1 := Lib.hid (askE_one HTB.out Hu.out)
 gi_upto_region 5 with fail
 obtain ⟨r1, hr1⟩ : ∃ r, min by_n 20 = r := ⟨_, rfl⟩
 have hrn1 : r1 ≤ by_n := by omega
 have hrt1 : r1 ≤ 20 := by omega
 have hrc1 : r1 ≤ by_c := by omega
 have hmin1 : min ((by_n : Nat) : Int) 20 = ((r1 : Nat) : Int) := by omega
 have hri1 : ((r1 : Nat) : Int) ≤ ((by_n : Nat) : Int) := by omega
 have hrj1 : ((r1 : Nat) : Int) ≤ ((by_c : Nat) : Int) := by omega
 have hr01 : (0 : Int) ≤ ((r1 : Nat) : Int) := by omega
 clear hr1
 have HLay0 := Lib.hid HLay.out
 have HBV := Lib.hid (Below.refl W5.heap.size W5)
 refine wpIn_flow_new [([true, true, true, true, true, true, true], 7)] [false, false, false, false, false, false, false, false, true, true, true, false, false, true] [false, false, false, false, false, false, false, false, false, false, false, false, true] 11 (fun b => .pointer (some ⟨b, 0, none⟩)) 39 #[.int .i64 0, .int .i64 0, .int .i64 0, .int .i64 0, .int .i64 0, .int .i64 0, .int .i64 0] (by kernel_rfl) (by kernel_rfl) (by kernel_rfl) (below_drewN (Below.refl _ _) 1) rfl rfl rfl (fun _ _ => rfl) (fun _ _ => rfl) ?_
 refine wpFlow_cons (A := ?AF1) rfl ?hq1 ?_
 case hq1 =>
  rintro σ hσ of hof hcl
  have HOF := Lib.hid hof
  have HCL := Lib.hid hcl
  clear hof hcl
  have c0_ : ∀ z, (of z).cell? ⟨w.heap.size, 0, none⟩ = some (.slice A n c) := fun z => ((HLay.out.below (HOF.out z)).blk 0 rfl).cell 0
  have c1_ : ∀ z, (of z).cell? ⟨w.heap.size, 1, none⟩ = some (.slice A' m d) := fun z => ((HLay.out.below (HOF.out z)).blk 0 rfl).cell 1
  have hfw : ∀ f, Fence.wide.fn f := fun _ => trivial
  simp only [pickB]
  repeat (gi_big_quiet_step (fail))
  refine wpQuietIn_nil ?_
  exact rfl
 intro W6 hW
 replace HLay := Lib.hid (HLay.out.below hW)
 replace HBV := Lib.hid (HBV.out.trans (hW.mono HBV.out.size))
 clear hW
 gi_wp2
 refine ⟨trivial, (callsIn_wide.2 (stroll_own A n c A' m d t u 0 false by_A r1 by_c (by_.take r1) W6 hm20 (by unfold maxLen; omega) ((HT.out.links.below HLay.out.bel).more HLay.out.bel.size) HG.out.fine (bytes_take ((HR.out.below HLay.out.bel).more HLay.out.bel.size) hrn1))).mono ?_⟩
 rintro e W7 ⟨⟨ga, gp, gu, gs, gl⟩, lm, AM, cAM, rfl, hst, hi, hb, hcapAM⟩
 replace HLay := Lib.hid (HLay.out.below hb)
 replace HBV := Lib.hid (HBV.out.trans (hb.mono HBV.out.size))
 have HSTg := Lib.hid hst
 have HOAM := Lib.hid hi
 clear hst hi
 gi_wp2
 refine ⟨trivial, hb, ?_⟩
 clear hb
 refine wpFlow_nil (A := ?AF2) ?hq2 ?_
 case hq2 =>
  rintro σ hσ of hof hcl
  have HOF := Lib.hid hof
  have HCL := Lib.hid hcl
  clear hof hcl
  have c0_ : ∀ z, (of z).cell? ⟨w.heap.size, 0, none⟩ = some (.slice A n c) := fun z => ((HLay.out.below (HOF.out z)).blk 0 rfl).cell 0
  have c1_ : ∀ z, (of z).cell? ⟨w.heap.size, 1, none⟩ = some (.slice A' m d) := fun z => ((HLay.out.below (HOF.out z)).blk 0 rfl).cell 1
  have hfw : ∀ f, Fence.wide.fn f := fun _ => trivial
  simp only [pickB]
  repeat (gi_big_quiet_step (fail))
  refine wpQuietIn_nil ?_
  exact rfl
 intro G9 W8 hW hbg hbb hbi
 replace HLay := Lib.hid (HLay.out.below hW)
 replace HBV := Lib.hid (HBV.out.trans (hW.mono HBV.out.size))
 replace HOAM := Lib.hid (HOAM.out.below hW (Nat.le_refl _))
 have c0 := hbb.cell 0
 have z0 := hbb.frozen 0
 have c1 := hbb.cell 1
 have z1 := hbb.frozen 1
 have c2 := hbb.cell 2
 have z2 := hbb.frozen 2
 have c3 := hbb.cell 3
 have z3 := hbb.frozen 3
 have c4 := hbb.cell 4
 have z4 := hbb.frozen 4
 have c5 := hbb.cell 5
 have z5 := hbb.frozen 5
 have c6 := hbb.cell 6
 have z6 := hbb.frozen 6
 have hbl := hbb.lt
 have hbw : w.heap.size ≤ G9 := Nat.le_trans HLay0.out.1.size hbg
 simp only [pickB]
 refine wpT_cons ?_
 gi_wp2
 refine wpT_nil ?_
 have R2 := ret7' hbb (Below.refl G9 W8) (Nat.le_refl _) (.int .i64 ga) (.int .i64 gu) (.int .i64 gp) (.int .i64 gp) (.int .i64 gu) (.int .i64 gs) (.int .i64 gl)
 replace HOAM := Lib.hid (own_off HOAM.out R2.2.2 hbb (by decide))
 have hbv := HBV.out.trans (R2.2.1.mono hbg)
 clear HBV hbv 
 replace HLay := Lib.hid (Lay.add (w := w) (bs := [(w.heap.size, 25, #[.slice A n c, .slice A' m d]), (w.heap.size + 1, 65, #[.int .i64 s.drops, .int .i64 s.pace.lo, .int .i64 s.pace.hi, .int .i64 s.step.lo, .int .i64 s.step.hi]), (w.heap.size + 1 + 1, 73, #[.int .i64 gt.pace.lo, .int .i64 gt.pace.hi, .int .i64 gt.step.lo, .int .i64 gt.step.hi])]) ⟨HLay.out.1.trans (R2.2.1.mono hbw), fun p hp => ⟨(HLay.out.2 p hp).1, (HLay.out.2 p hp).2.below R2.2.1 (by have := (HLay0.out.2 p hp).2.lt; omega)⟩⟩ hbw R2.1)
 generalize (((((((W8.setCell ⟨G9, 0, none⟩ (.int .i64 ga)).setCell ⟨G9, 1, none⟩ (.int .i64 gu)).setCell ⟨G9, 2, none⟩ (.int .i64 gp)).setCell ⟨G9, 3, none⟩ (.int .i64 gp)).setCell ⟨G9, 4, none⟩ (.int .i64 gu)).setCell ⟨G9, 5, none⟩ (.int .i64 gs)).setCell ⟨G9, 6, none⟩ (.int .i64 gl)) = W9 at *
 clear c0 z0 c1 z1 c2 z2 c3 z3 c4 z4 c5 z5 c6 z6 hbl hbb hW hbg R2 hbw hbi HLay0
 have HAM := Lib.hid (ints_of_own HOAM.out (Nat.le_refl _))
 clear HOAM
 clear hmin1 hri1 hrj1 hr01
 have Hga : Hid (ga ∈ t.places) := Lib.hid (gw_ends HG.out.fine HSTg.out.1 Hu.out)
 have HA2 := Lib.hid (askE_one HTB.out Hga.out)
 gi_upto_region 6 with fail
 obtain ⟨r2, hr2⟩ : ∃ r, min th_n 20 = r := ⟨_, rfl⟩
 have hrn2 : r2 ≤ th_n := by omega
 have hrt2 : r2 ≤ 20 := by omega
 have hrc2 : r2 ≤ th_c := by omega
 have hmin2 : min ((th_n : Nat) : Int) 20 = ((r2 : Nat) : Int) := by omega
 have hri2 : ((r2 : Nat) : Int) ≤ ((th_n : Nat) : Int) := by omega
 have hrj2 : ((r2 : Nat) : Int) ≤ ((th_c : Nat) : Int) := by omega
 have hr02 : (0 : Int) ≤ ((r2 : Nat) : Int) := by omega
 clear hr2
 have HLay0 := Lib.hid HLay.out
 have HAMz := Lib.hid HAM.out
 have HBV := Lib.hid (Below.refl W9.heap.size W9)
 refine wpIn_flow_new [([true, true, true, true, true, true, true, true], 8)] [false, false, false, false, false, false, false, false, false, true, true, true, false, false, true] [false, false, false, false, false, false, false, false, false, false, false, false, false, true] 12 (fun b => .pointer (some ⟨b, 0, none⟩)) 39 #[.int .i64 0, .int .i64 0, .int .i64 0, .int .i64 0, .int .i64 0, .int .i64 0, .int .i64 0] (by kernel_rfl) (by kernel_rfl) (by kernel_rfl) (below_drewN (Below.refl _ _) 1) rfl rfl rfl (fun _ _ => rfl) (fun _ _ => rfl) ?_
 refine wpFlow_cons (A := ?AF3) rfl ?hq3 ?_
 case hq3 =>
  rintro σ hσ of hof hcl
  have HOF := Lib.hid hof
  have HCL := Lib.hid hcl
  clear hof hcl
  have c0_ : ∀ z, (of z).cell? ⟨w.heap.size, 0, none⟩ = some (.slice A n c) := fun z => ((HLay.out.below (HOF.out z)).blk 0 rfl).cell 0
  have c1_ : ∀ z, (of z).cell? ⟨w.heap.size, 1, none⟩ = some (.slice A' m d) := fun z => ((HLay.out.below (HOF.out z)).blk 0 rfl).cell 1
  have c2_ : ∀ z, (of z).cell? ⟨G9, 0, none⟩ = some (.int .i64 ga) := fun z => ((HLay.out.below (HOF.out z)).blk 3 rfl).cell 0
  have c3_ : ∀ z, (of z).cell? ⟨G9, 1, none⟩ = some (.int .i64 gu) := fun z => ((HLay.out.below (HOF.out z)).blk 3 rfl).cell 1
  have c4_ : ∀ z, (of z).cell? ⟨G9, 2, none⟩ = some (.int .i64 gp) := fun z => ((HLay.out.below (HOF.out z)).blk 3 rfl).cell 2
  have c5_ : ∀ z, (of z).cell? ⟨G9, 3, none⟩ = some (.int .i64 gp) := fun z => ((HLay.out.below (HOF.out z)).blk 3 rfl).cell 3
  have c6_ : ∀ z, (of z).cell? ⟨G9, 4, none⟩ = some (.int .i64 gu) := fun z => ((HLay.out.below (HOF.out z)).blk 3 rfl).cell 4
  have c7_ : ∀ z, (of z).cell? ⟨G9, 5, none⟩ = some (.int .i64 gs) := fun z => ((HLay.out.below (HOF.out z)).blk 3 rfl).cell 5
  have c8_ : ∀ z, (of z).cell? ⟨G9, 6, none⟩ = some (.int .i64 gl) := fun z => ((HLay.out.below (HOF.out z)).blk 3 rfl).cell 6
  have hfw : ∀ f, Fence.wide.fn f := fun _ => trivial
  simp only [pickB]
  repeat (gi_big_quiet_step (fail))
  refine wpQuietIn_nil ?_
  exact rfl
 intro W10 hW
 replace HLay := Lib.hid (HLay.out.below hW)
 replace HAM := Lib.hid ((HAM.out.below hW).more hW.size)
 replace HBV := Lib.hid (HBV.out.trans (hW.mono HBV.out.size))
 clear hW
 gi_wp2
 refine ⟨trivial, (callsIn_wide.2 (stroll_own A n c A' m d t ga 0 false th_A r2 th_c (th_.take r2) W10 hm20 (by unfold maxLen; omega) ((HT.out.links.below HLay.out.bel).more HLay.out.bel.size) HG.out.fine (bytes_take ((HR2.out.below HLay.out.bel).more HLay.out.bel.size) hrn2))).mono ?_⟩
 rintro e W11 ⟨⟨ya, yp, yu, ys, yl⟩, lk, AK, cAK, rfl, hst, hi, hb, hcapAK⟩
 replace HLay := Lib.hid (HLay.out.below hb)
 replace HAM := Lib.hid ((HAM.out.below hb).more hb.size)
 replace HBV := Lib.hid (HBV.out.trans (hb.mono HBV.out.size))
 have HSTy := Lib.hid hst
 have HOAK := Lib.hid hi
 clear hst hi
 gi_wp2
 refine ⟨trivial, hb, ?_⟩
 clear hb
 refine wpFlow_nil (A := ?AF4) ?hq4 ?_
 case hq4 =>
  rintro σ hσ of hof hcl
  have HOF := Lib.hid hof
  have HCL := Lib.hid hcl
  clear hof hcl
  have c0_ : ∀ z, (of z).cell? ⟨w.heap.size, 0, none⟩ = some (.slice A n c) := fun z => ((HLay.out.below (HOF.out z)).blk 0 rfl).cell 0
  have c1_ : ∀ z, (of z).cell? ⟨w.heap.size, 1, none⟩ = some (.slice A' m d) := fun z => ((HLay.out.below (HOF.out z)).blk 0 rfl).cell 1
  have c2_ : ∀ z, (of z).cell? ⟨G9, 0, none⟩ = some (.int .i64 ga) := fun z => ((HLay.out.below (HOF.out z)).blk 3 rfl).cell 0
  have c3_ : ∀ z, (of z).cell? ⟨G9, 1, none⟩ = some (.int .i64 gu) := fun z => ((HLay.out.below (HOF.out z)).blk 3 rfl).cell 1
  have c4_ : ∀ z, (of z).cell? ⟨G9, 2, none⟩ = some (.int .i64 gp) := fun z => ((HLay.out.below (HOF.out z)).blk 3 rfl).cell 2
  have c5_ : ∀ z, (of z).cell? ⟨G9, 3, none⟩ = some (.int .i64 gp) := fun z => ((HLay.out.below (HOF.out z)).blk 3 rfl).cell 3
  have c6_ : ∀ z, (of z).cell? ⟨G9, 4, none⟩ = some (.int .i64 gu) := fun z => ((HLay.out.below (HOF.out z)).blk 3 rfl).cell 4
  have c7_ : ∀ z, (of z).cell? ⟨G9, 5, none⟩ = some (.int .i64 gs) := fun z => ((HLay.out.below (HOF.out z)).blk 3 rfl).cell 5
  have c8_ : ∀ z, (of z).cell? ⟨G9, 6, none⟩ = some (.int .i64 gl) := fun z => ((HLay.out.below (HOF.out z)).blk 3 rfl).cell 6
  have hfw : ∀ f, Fence.wide.fn f := fun _ => trivial
  simp only [pickB]
  repeat (gi_big_quiet_step (fail))
  refine wpQuietIn_nil ?_
  exact rfl
 intro G8 W12 hW hbg hbb hbi
 replace HLay := Lib.hid (HLay.out.below hW)
 replace HAM := Lib.hid ((HAM.out.below hW).more hW.size)
 replace HBV := Lib.hid (HBV.out.trans (hW.mono HBV.out.size))
 replace HOAK := Lib.hid (HOAK.out.below hW (Nat.le_refl _))
 have c0 := hbb.cell 0
 have z0 := hbb.frozen 0
 have c1 := hbb.cell 1
 have z1 := hbb.frozen 1
 have c2 := hbb.cell 2
 have z2 := hbb.frozen 2
 have c3 := hbb.cell 3
 have z3 := hbb.frozen 3
 have c4 := hbb.cell 4
 have z4 := hbb.frozen 4
 have c5 := hbb.cell 5
 have z5 := hbb.frozen 5
 have c6 := hbb.cell 6
 have z6 := hbb.frozen 6
 have hbl := hbb.lt
 have hbw : w.heap.size ≤ G8 := Nat.le_trans HLay0.out.1.size hbg
 simp only [pickB]
 refine wpT_cons ?_
 gi_wp2
 refine wpT_nil ?_
 have R2 := ret7' hbb (Below.refl G8 W12) (Nat.le_refl _) (.int .i64 ya) (.int .i64 yu) (.int .i64 yp) (.int .i64 yp) (.int .i64 yu) (.int .i64 ys) (.int .i64 yl)
 replace HOAK := Lib.hid (own_off HOAK.out R2.2.2 hbb (by decide))
 have hbv := HBV.out.trans (R2.2.1.mono hbg)
 replace HAM := Lib.hid (ints_up HAMz.out hbv)
 clear HBV hbv HAMz
 replace HLay := Lib.hid (Lay.add (w := w) (bs := [(w.heap.size, 25, #[.slice A n c, .slice A' m d]), (w.heap.size + 1, 65, #[.int .i64 s.drops, .int .i64 s.pace.lo, .int .i64 s.pace.hi, .int .i64 s.step.lo, .int .i64 s.step.hi]), (w.heap.size + 1 + 1, 73, #[.int .i64 gt.pace.lo, .int .i64 gt.pace.hi, .int .i64 gt.step.lo, .int .i64 gt.step.hi]), (G9, 39, #[.int .i64 ga, .int .i64 gu, .int .i64 gp, .int .i64 gp, .int .i64 gu, .int .i64 gs, .int .i64 gl])]) ⟨HLay.out.1.trans (R2.2.1.mono hbw), fun p hp => ⟨(HLay.out.2 p hp).1, (HLay.out.2 p hp).2.below R2.2.1 (by have := (HLay0.out.2 p hp).2.lt; omega)⟩⟩ hbw R2.1)
 generalize (((((((W12.setCell ⟨G8, 0, none⟩ (.int .i64 ya)).setCell ⟨G8, 1, none⟩ (.int .i64 yu)).setCell ⟨G8, 2, none⟩ (.int .i64 yp)).setCell ⟨G8, 3, none⟩ (.int .i64 yp)).setCell ⟨G8, 4, none⟩ (.int .i64 yu)).setCell ⟨G8, 5, none⟩ (.int .i64 ys)).setCell ⟨G8, 6, none⟩ (.int .i64 yl)) = W13 at *
 clear c0 z0 c1 z1 c2 z2 c3 z3 c4 z4 c5 z5 c6 z6 hbl hbb hW hbg R2 hbw hbi HLay0
 have HAK := Lib.hid (ints_of_own HOAK.out (Nat.le_refl _))
 clear HOAK
 clear hmin2 hri2 hrj2 hr02
 have hlm40 : lm.length ≤ 20 := by have := HSTg.out.2.2; omega
 have hlk40 : lk.length ≤ 20 := by have := HSTy.out.2.2; omega
 have HSUM := Lib.hid (gw_sum HSTg.out.1 HSTy.out.1)
 have hlen : (lm ++ lk).length = lm.length + lk.length := List.length_append
 have HGS := Lib.hid (gw_small HG.out.fine HSTg.out.1 HSTg.out.2.1)
 have HYS := Lib.hid (gw_small HG.out.fine HSTy.out.1 HSTy.out.2.1)
 gi_upto_region 7 with fail
 have HE : Hid (Own (W13.alloc (.cells #[] 3)) W13.heap.size 3 1 (some ⟨W13.heap.size, 0, none⟩) 0 0 []) := Own.mk_ (Nat.le_refl _) (Blk.new W13 _ _) (Nat.le_refl _) (Nat.zero_le _) rfl rfl (fun k hk => by omega)
 have HbA : Hid (Below W13.heap.size W13 (W13.alloc (.cells #[] 3))) := Lib.hid ((Below.refl W13.heap.size W13).alloc (Nat.le_refl _) (.cells #[] 3))
 have HI := Lib.hid ((HAM.out.below HbA.out).more HbA.out.size)
 gi_wp2_with (first | (gi_at_builtin; refine wpListIn_append_any rfl (.tmp 89) (.tmp 90) (by rfl) elem_int rfl HE.out rfl HI.out (ints_one _) (by unfold maxLen; omega) (by omega) HbA.out.size ?_) | fail)
 rintro A3 c3 V14 hown hg hA
 have HO1 := Lib.hid (show Own V14 W13.heap.size 3 1 A3 lm.length c3 (lm.map (Value.int .i64)) from by simpa using hown)
 have HB1 : Hid (Below W13.heap.size W13 V14) := Lib.hid (HbA.out.grown hg HbA.out.size (fun k hk => by simp at hk; omega))
 have HRW : Hid (∀ k, A3.map (·.block) = some k → W13.heap.size ≤ k) := Lib.hid (fun k hk => by
  rcases hA with rfl | rfl
  ·simp at hk; omega
  ·simp at hk; omega)
 have HI2 := Lib.hid ((HAK.out.below HB1.out).more HB1.out.size)
 clear hown hg hA HE HI HbA
 gi_wp2_with (first | (gi_at_builtin; refine wpListIn_append_any rfl (.tmp 91) (.tmp 92) (by rfl) elem_int rfl HO1.out rfl HI2.out (ints_one _) (by unfold maxLen; omega) (by omega) HB1.out.size ?_) | fail)
 rintro AB cAB V15 hown2 hg2 hA2
 have hb : Below W13.heap.size W13 V15 := HB1.out.grown hg2 HB1.out.size HRW.out
 have HAB := Lib.hid (show IntsAt V15 V15.heap.size AB (lm.length + lk.length) (lm ++ lk) from ints_of_own (by simpa using hown2) (Nat.le_refl _))
 clear hown2 hg2 hA2 HO1 HB1 HRW HI2
 replace HLay := Lib.hid (HLay.out.below hb)
 replace HAM := Lib.hid ((HAM.out.below hb).more hb.size)
 replace HAK := Lib.hid ((HAK.out.below hb).more hb.size)
 clear hb
 have HWG := Lib.hid (walk_gw HG.out.fine HSTg.out.1 HSTg.out.2.1 HA1.out)
 have HWY := Lib.hid (walk_gw HG.out.fine HSTy.out.1 HSTy.out.2.1 HA2.out)
 have HWB := Lib.hid (show walkV t u (lm ++ lk) = (ya, gu + yu, gp + yp, 0) from walk_gw HG.out.fine HSUM.out (by omega) HA1.out)
 dsimp only at HWG HWY
 have x0_0 := (HLay.out.blk 0 rfl).cell 0
 have x0_1 := (HLay.out.blk 0 rfl).cell 1
 have l0_ := HLay.out.lt 0 rfl
 gi_wp2
 clear x0_0 x0_1 l0_
 refine ⟨trivial, (callsIn_wide.2 (walk_any A n c A' m d t u AM lm.length cAM (lm) V15 (by omega) (by omega) (by omega) ((HT.out.below HLay.out.bel).more HLay.out.bel.size) HAM.out (HL.out.below HLay.out.bel hl0))).mono ?_⟩
 rintro e W16 ⟨rfl, hb⟩
 replace HLay := Lib.hid (HLay.out.below hb)
 replace HAM := Lib.hid ((HAM.out.below hb).more hb.size)
 replace HAK := Lib.hid ((HAK.out.below hb).more hb.size)
 replace HAB := Lib.hid ((HAB.out.below hb).more hb.size)
 clear hb
 rw [HWG.out]
 gi_upto_region 9 with fail
 obtain ⟨V17, hV⟩ : ∃ V, (W16.alloc (.cells #[.int .i64 gu, .int .i64 gp] 34)) = V := ⟨_, rfl⟩
 rw [hV]
 have hb := fbox_bel hV
 have hnew := fbox_blk hV
 have hge := HLay.out.bel.size
 replace HLay := Lib.hid (HLay.out.below hb)
 replace HAM := Lib.hid ((HAM.out.below hb).more hb.size)
 replace HAK := Lib.hid ((HAK.out.below hb).more hb.size)
 replace HAB := Lib.hid ((HAB.out.below hb).more hb.size)
 replace HLay := Lib.hid (HLay.out.add hge hnew)
 clear hnew hge hb hV
 obtain ⟨G18, hG⟩ : ∃ g, W16.heap.size = g := ⟨_, rfl⟩
 rw [hG] at HLay ⊢
 clear hG
 have x0_0 := (HLay.out.blk 0 rfl).cell 0
 have x0_1 := (HLay.out.blk 0 rfl).cell 1
 have l0_ := HLay.out.lt 0 rfl
 gi_wp2
 clear x0_0 x0_1 l0_
 refine ⟨trivial, (callsIn_wide.2 (walk_any A n c A' m d t ga AK lk.length cAK (lk) V17 (by omega) (by omega) (by omega) ((HT.out.below HLay.out.bel).more HLay.out.bel.size) HAK.out (HL.out.below HLay.out.bel hl0))).mono ?_⟩
 rintro e W19 ⟨rfl, hb⟩
 replace HLay := Lib.hid (HLay.out.below hb)
 replace HAM := Lib.hid ((HAM.out.below hb).more hb.size)
 replace HAK := Lib.hid ((HAK.out.below hb).more hb.size)
 replace HAB := Lib.hid ((HAB.out.below hb).more hb.size)
 clear hb
 rw [HWY.out]
 gi_upto_region 10 with fail
 obtain ⟨V20, hV⟩ : ∃ V, (W19.alloc (.cells #[.int .i64 yu, .int .i64 yp] 34)) = V := ⟨_, rfl⟩
 rw [hV]
 have hb := fbox_bel hV
 have hnew := fbox_blk hV
 have hge := HLay.out.bel.size
 replace HLay := Lib.hid (HLay.out.below hb)
 replace HAM := Lib.hid ((HAM.out.below hb).more hb.size)
 replace HAK := Lib.hid ((HAK.out.below hb).more hb.size)
 replace HAB := Lib.hid ((HAB.out.below hb).more hb.size)
 replace HLay := Lib.hid (HLay.out.add hge hnew)
 clear hnew hge hb hV
 obtain ⟨G21, hG⟩ : ∃ g, W19.heap.size = g := ⟨_, rfl⟩
 rw [hG] at HLay ⊢
 clear hG
 have x0_0 := (HLay.out.blk 0 rfl).cell 0
 have x0_1 := (HLay.out.blk 0 rfl).cell 1
 have l0_ := HLay.out.lt 0 rfl
 gi_wp2
 clear x0_0 x0_1 l0_
 refine ⟨trivial, (callsIn_wide.2 (walk_any A n c A' m d t u AB (lm.length + lk.length) cAB (lm ++ lk) V20 (by omega) (by omega) (by omega) ((HT.out.below HLay.out.bel).more HLay.out.bel.size) HAB.out (HL.out.below HLay.out.bel hl0))).mono ?_⟩
 rintro e W22 ⟨rfl, hb⟩
 replace HLay := Lib.hid (HLay.out.below hb)
 replace HAM := Lib.hid ((HAM.out.below hb).more hb.size)
 replace HAK := Lib.hid ((HAK.out.below hb).more hb.size)
 replace HAB := Lib.hid ((HAB.out.below hb).more hb.size)
 clear hb
 rw [HWB.out]
 gi_upto_region 11 with fail
 obtain ⟨V23, hV⟩ : ∃ V, (W22.alloc (.cells #[.int .i64 (gu + yu), .int .i64 (gp + yp)] 34)) = V := ⟨_, rfl⟩
 rw [hV]
 have hb := fbox_bel hV
 have hnew := fbox_blk hV
 have hge := HLay.out.bel.size
 replace HLay := Lib.hid (HLay.out.below hb)
 replace HAM := Lib.hid ((HAM.out.below hb).more hb.size)
 replace HAK := Lib.hid ((HAK.out.below hb).more hb.size)
 replace HAB := Lib.hid ((HAB.out.below hb).more hb.size)
 replace HLay := Lib.hid (HLay.out.add hge hnew)
 clear hnew hge hb hV
 obtain ⟨G24, hG⟩ : ∃ g, W22.heap.size = g := ⟨_, rfl⟩
 rw [hG] at HLay ⊢
 clear hG
 have hte := eqToil_same (gu + yu) (gp + yp)
 refine wpIn_flow_old [([true, true, true, true, true, true, true, true, true, true, true, true, true, true, true, true, true, true, true, true, true, true, true, true, true, true, true, true, true, true, true, true, true, true, true, true, true, true, true], 39)] [false, false, false, false, false, false, false, false, false, false, false, false, false, false, false, false, false, false, false, false, false, false, false, false, false, false, false, false, false, false, false, false, false, false, false, false, false, false, false, false, true, true] [] (by kernel_rfl) (by kernel_rfl) (by kernel_rfl) (below_drewN (Below.refl _ _) 1) ?_
 refine wpFlow_cons (A := ?AF5) rfl ?hq5 ?_
 case hq5 =>
  rintro σ hσ of hof hcl
  have HOF := Lib.hid hof
  have HCL := Lib.hid hcl
  clear hof hcl
  have c0_ : ∀ z, (of z).cell? ⟨G9, 0, none⟩ = some (.int .i64 ga) := fun z => ((HLay.out.below (HOF.out z)).blk 3 rfl).cell 0
  have c1_ : ∀ z, (of z).cell? ⟨G9, 1, none⟩ = some (.int .i64 gu) := fun z => ((HLay.out.below (HOF.out z)).blk 3 rfl).cell 1
  have c2_ : ∀ z, (of z).cell? ⟨G9, 2, none⟩ = some (.int .i64 gp) := fun z => ((HLay.out.below (HOF.out z)).blk 3 rfl).cell 2
  have c3_ : ∀ z, (of z).cell? ⟨G9, 3, none⟩ = some (.int .i64 gp) := fun z => ((HLay.out.below (HOF.out z)).blk 3 rfl).cell 3
  have c4_ : ∀ z, (of z).cell? ⟨G9, 4, none⟩ = some (.int .i64 gu) := fun z => ((HLay.out.below (HOF.out z)).blk 3 rfl).cell 4
  have c5_ : ∀ z, (of z).cell? ⟨G9, 5, none⟩ = some (.int .i64 gs) := fun z => ((HLay.out.below (HOF.out z)).blk 3 rfl).cell 5
  have c6_ : ∀ z, (of z).cell? ⟨G9, 6, none⟩ = some (.int .i64 gl) := fun z => ((HLay.out.below (HOF.out z)).blk 3 rfl).cell 6
  have c7_ : ∀ z, (of z).cell? ⟨G8, 0, none⟩ = some (.int .i64 ya) := fun z => ((HLay.out.below (HOF.out z)).blk 4 rfl).cell 0
  have c8_ : ∀ z, (of z).cell? ⟨G8, 1, none⟩ = some (.int .i64 yu) := fun z => ((HLay.out.below (HOF.out z)).blk 4 rfl).cell 1
  have c9_ : ∀ z, (of z).cell? ⟨G8, 2, none⟩ = some (.int .i64 yp) := fun z => ((HLay.out.below (HOF.out z)).blk 4 rfl).cell 2
  have c10_ : ∀ z, (of z).cell? ⟨G8, 3, none⟩ = some (.int .i64 yp) := fun z => ((HLay.out.below (HOF.out z)).blk 4 rfl).cell 3
  have c11_ : ∀ z, (of z).cell? ⟨G8, 4, none⟩ = some (.int .i64 yu) := fun z => ((HLay.out.below (HOF.out z)).blk 4 rfl).cell 4
  have c12_ : ∀ z, (of z).cell? ⟨G8, 5, none⟩ = some (.int .i64 ys) := fun z => ((HLay.out.below (HOF.out z)).blk 4 rfl).cell 5
  have c13_ : ∀ z, (of z).cell? ⟨G8, 6, none⟩ = some (.int .i64 yl) := fun z => ((HLay.out.below (HOF.out z)).blk 4 rfl).cell 6
  have c14_ : ∀ z, (of z).cell? ⟨G18, 0, none⟩ = some (.int .i64 gu) := fun z => ((HLay.out.below (HOF.out z)).blk 5 rfl).cell 0
  have c15_ : ∀ z, (of z).cell? ⟨G18, 1, none⟩ = some (.int .i64 gp) := fun z => ((HLay.out.below (HOF.out z)).blk 5 rfl).cell 1
  have c16_ : ∀ z, (of z).cell? ⟨G21, 0, none⟩ = some (.int .i64 yu) := fun z => ((HLay.out.below (HOF.out z)).blk 6 rfl).cell 0
  have c17_ : ∀ z, (of z).cell? ⟨G21, 1, none⟩ = some (.int .i64 yp) := fun z => ((HLay.out.below (HOF.out z)).blk 6 rfl).cell 1
  have c18_ : ∀ z, (of z).cell? ⟨G24, 0, none⟩ = some (.int .i64 (gu + yu)) := fun z => ((HLay.out.below (HOF.out z)).blk 7 rfl).cell 0
  have c19_ : ∀ z, (of z).cell? ⟨G24, 1, none⟩ = some (.int .i64 (gp + yp)) := fun z => ((HLay.out.below (HOF.out z)).blk 7 rfl).cell 1
  have hfw : ∀ f, Fence.wide.fn f := fun _ => trivial
  have w1 : IntKind.i64.wrap (gu + yu) = gu + yu := IntWalk.i64_in _ (by have := HGS.out; have := HYS.out; omega)
  have w2 : IntKind.i64.wrap (gp + yp) = gp + yp := IntWalk.i64_in _ (by have := HGS.out; have := HYS.out; omega)
  simp only [pickB]
  repeat (gi_big_quiet_step (fail))
  refine wpQuietIn_nil ?_
  exact rfl
 intro W25 hW
 replace HLay := Lib.hid (HLay.out.below hW)
 replace HAM := Lib.hid ((HAM.out.below hW).more hW.size)
 replace HAK := Lib.hid ((HAK.out.below hW).more hW.size)
 replace HAB := Lib.hid ((HAB.out.below hW).more hW.size)
 clear hW
 gi_wp2
 refine ⟨trivial, (callsIn_wide.2 (ltoil_any (gu + yu) (gp + yp) W25)).mono ?_⟩
 rintro e W26 ⟨rfl, hb⟩
 replace HLay := Lib.hid (HLay.out.below hb)
 replace HAM := Lib.hid ((HAM.out.below hb).more hb.size)
 replace HAK := Lib.hid ((HAK.out.below hb).more hb.size)
 replace HAB := Lib.hid ((HAB.out.below hb).more hb.size)
 gi_wp2
 refine ⟨trivial, hb, ?_⟩
 clear hb
 refine wpFlow_nil (A := ?AF6) ?hq6 ?_
 case hq6 =>
  rintro σ hσ of hof hcl
  have HOF := Lib.hid hof
  have HCL := Lib.hid hcl
  clear hof hcl
  have c0_ : ∀ z, (of z).cell? ⟨G9, 0, none⟩ = some (.int .i64 ga) := fun z => ((HLay.out.below (HOF.out z)).blk 3 rfl).cell 0
  have c1_ : ∀ z, (of z).cell? ⟨G9, 1, none⟩ = some (.int .i64 gu) := fun z => ((HLay.out.below (HOF.out z)).blk 3 rfl).cell 1
  have c2_ : ∀ z, (of z).cell? ⟨G9, 2, none⟩ = some (.int .i64 gp) := fun z => ((HLay.out.below (HOF.out z)).blk 3 rfl).cell 2
  have c3_ : ∀ z, (of z).cell? ⟨G9, 3, none⟩ = some (.int .i64 gp) := fun z => ((HLay.out.below (HOF.out z)).blk 3 rfl).cell 3
  have c4_ : ∀ z, (of z).cell? ⟨G9, 4, none⟩ = some (.int .i64 gu) := fun z => ((HLay.out.below (HOF.out z)).blk 3 rfl).cell 4
  have c5_ : ∀ z, (of z).cell? ⟨G9, 5, none⟩ = some (.int .i64 gs) := fun z => ((HLay.out.below (HOF.out z)).blk 3 rfl).cell 5
  have c6_ : ∀ z, (of z).cell? ⟨G9, 6, none⟩ = some (.int .i64 gl) := fun z => ((HLay.out.below (HOF.out z)).blk 3 rfl).cell 6
  have c7_ : ∀ z, (of z).cell? ⟨G8, 0, none⟩ = some (.int .i64 ya) := fun z => ((HLay.out.below (HOF.out z)).blk 4 rfl).cell 0
  have c8_ : ∀ z, (of z).cell? ⟨G8, 1, none⟩ = some (.int .i64 yu) := fun z => ((HLay.out.below (HOF.out z)).blk 4 rfl).cell 1
  have c9_ : ∀ z, (of z).cell? ⟨G8, 2, none⟩ = some (.int .i64 yp) := fun z => ((HLay.out.below (HOF.out z)).blk 4 rfl).cell 2
  have c10_ : ∀ z, (of z).cell? ⟨G8, 3, none⟩ = some (.int .i64 yp) := fun z => ((HLay.out.below (HOF.out z)).blk 4 rfl).cell 3
  have c11_ : ∀ z, (of z).cell? ⟨G8, 4, none⟩ = some (.int .i64 yu) := fun z => ((HLay.out.below (HOF.out z)).blk 4 rfl).cell 4
  have c12_ : ∀ z, (of z).cell? ⟨G8, 5, none⟩ = some (.int .i64 ys) := fun z => ((HLay.out.below (HOF.out z)).blk 4 rfl).cell 5
  have c13_ : ∀ z, (of z).cell? ⟨G8, 6, none⟩ = some (.int .i64 yl) := fun z => ((HLay.out.below (HOF.out z)).blk 4 rfl).cell 6
  have c14_ : ∀ z, (of z).cell? ⟨G18, 0, none⟩ = some (.int .i64 gu) := fun z => ((HLay.out.below (HOF.out z)).blk 5 rfl).cell 0
  have c15_ : ∀ z, (of z).cell? ⟨G18, 1, none⟩ = some (.int .i64 gp) := fun z => ((HLay.out.below (HOF.out z)).blk 5 rfl).cell 1
  have c16_ : ∀ z, (of z).cell? ⟨G21, 0, none⟩ = some (.int .i64 yu) := fun z => ((HLay.out.below (HOF.out z)).blk 6 rfl).cell 0
  have c17_ : ∀ z, (of z).cell? ⟨G21, 1, none⟩ = some (.int .i64 yp) := fun z => ((HLay.out.below (HOF.out z)).blk 6 rfl).cell 1
  have c18_ : ∀ z, (of z).cell? ⟨G24, 0, none⟩ = some (.int .i64 (gu + yu)) := fun z => ((HLay.out.below (HOF.out z)).blk 7 rfl).cell 0
  have c19_ : ∀ z, (of z).cell? ⟨G24, 1, none⟩ = some (.int .i64 (gp + yp)) := fun z => ((HLay.out.below (HOF.out z)).blk 7 rfl).cell 1
  have hfw : ∀ f, Fence.wide.fn f := fun _ => trivial
  have w1 : IntKind.i64.wrap (gu + yu) = gu + yu := IntWalk.i64_in _ (by have := HGS.out; have := HYS.out; omega)
  have w2 : IntKind.i64.wrap (gp + yp) = gp + yp := IntWalk.i64_in _ (by have := HGS.out; have := HYS.out; omega)
  simp only [pickB]
  repeat (gi_big_quiet_step (fail))
  refine wpQuietIn_nil ?_
  exact rfl
 intro W27 hW
 replace HLay := Lib.hid (HLay.out.below hW)
 replace HAM := Lib.hid ((HAM.out.below hW).more hW.size)
 replace HAK := Lib.hid ((HAK.out.below hW).more hW.size)
 replace HAB := Lib.hid ((HAB.out.below hW).more hW.size)
 clear hW
 simp only [pickB]
 refine wpT_nil ?_
 clear hte
 have HSG := Lib.hid (sec_gw HG.out.fine HSTg.out.1 HSTg.out.2.1 HA1.out HGT.out)
 have HSY := Lib.hid (sec_gw HG.out.fine HSTy.out.1 HSTy.out.2.1 HA2.out HGT.out)
 have HSB := Lib.hid (sec_gw HG.out.fine HSUM.out (by omega) HA1.out HGT.out)
 dsimp only [Gone.plus] at HSG HSY HSB
 have PG0 := Lib.hid (mul_small HGS.out.1 (n := 20) ⟨by have := HGG.out.pace; omega, by have := HGG.out.pace; omega⟩ : 0 ≤ gp * gt.pace.lo ∧ gp * gt.pace.lo ≤ 80000 * 20)
 have PG1 := Lib.hid (mul_small HGS.out.1 (n := 20) ⟨by have := HGG.out.pace; omega, by have := HGG.out.pace; omega⟩ : 0 ≤ gp * gt.pace.hi ∧ gp * gt.pace.hi ≤ 80000 * 20)
 have PG2 := Lib.hid (mul_small HGS.out.2.1 (n := 20) ⟨by have := HGG.out.step; omega, by have := HGG.out.step; omega⟩ : 0 ≤ gu * gt.step.lo ∧ gu * gt.step.lo ≤ 20000 * 20)
 have PG3 := Lib.hid (mul_small HGS.out.2.1 (n := 20) ⟨by have := HGG.out.step; omega, by have := HGG.out.step; omega⟩ : 0 ≤ gu * gt.step.hi ∧ gu * gt.step.hi ≤ 20000 * 20)
 have PY0 := Lib.hid (mul_small HYS.out.1 (n := 20) ⟨by have := HGG.out.pace; omega, by have := HGG.out.pace; omega⟩ : 0 ≤ yp * gt.pace.lo ∧ yp * gt.pace.lo ≤ 80000 * 20)
 have PY1 := Lib.hid (mul_small HYS.out.1 (n := 20) ⟨by have := HGG.out.pace; omega, by have := HGG.out.pace; omega⟩ : 0 ≤ yp * gt.pace.hi ∧ yp * gt.pace.hi ≤ 80000 * 20)
 have PY2 := Lib.hid (mul_small HYS.out.2.1 (n := 20) ⟨by have := HGG.out.step; omega, by have := HGG.out.step; omega⟩ : 0 ≤ yu * gt.step.lo ∧ yu * gt.step.lo ≤ 20000 * 20)
 have PY3 := Lib.hid (mul_small HYS.out.2.1 (n := 20) ⟨by have := HGG.out.step; omega, by have := HGG.out.step; omega⟩ : 0 ≤ yu * gt.step.hi ∧ yu * gt.step.hi ≤ 20000 * 20)
 obtain ⟨lo1, hlo1⟩ : ∃ x, gp * gt.pace.lo + gu * gt.step.lo = x := ⟨_, rfl⟩
 obtain ⟨hi1, hhi1⟩ : ∃ x, gp * gt.pace.hi + gu * gt.step.hi = x := ⟨_, rfl⟩
 obtain ⟨lo2, hlo2⟩ : ∃ x, yp * gt.pace.lo + yu * gt.step.lo = x := ⟨_, rfl⟩
 obtain ⟨hi2, hhi2⟩ : ∃ x, yp * gt.pace.hi + yu * gt.step.hi = x := ⟨_, rfl⟩
 have hb1 : (0 ≤ lo1 ∧ lo1 ≤ 2000000) ∧ 0 ≤ hi1 ∧ hi1 ≤ 2000000 := by have := PG0.out; have := PG1.out; have := PG2.out; have := PG3.out; omega
 have hb2 : (0 ≤ lo2 ∧ lo2 ≤ 2000000) ∧ 0 ≤ hi2 ∧ hi2 ≤ 2000000 := by have := PY0.out; have := PY1.out; have := PY2.out; have := PY3.out; omega
 have e1 : (gp + yp) * gt.pace.lo + (gu + yu) * gt.step.lo = lo1 + lo2 := by rw [Int.add_mul, Int.add_mul]; omega
 have e2 : (gp + yp) * gt.pace.hi + (gu + yu) * gt.step.hi = hi1 + hi2 := by rw [Int.add_mul, Int.add_mul]; omega
 rw [hlo1, hhi1] at HSG
 rw [hlo2, hhi2] at HSY
 rw [e1, e2] at HSB
 clear hlo1 hhi1 hlo2 hhi2 e1 e2 PG0 PG1 PG2 PG3 PY0 PY1 PY2 PY3
 have x0_0 := (HLay.out.blk 0 rfl).cell 0
 have x0_1 := (HLay.out.blk 0 rfl).cell 1
 have l0_ := HLay.out.lt 0 rfl
 have x2_0 := (HLay.out.blk 2 rfl).cell 0
 have x2_1 := (HLay.out.blk 2 rfl).cell 1
 have x2_2 := (HLay.out.blk 2 rfl).cell 2
 have x2_3 := (HLay.out.blk 2 rfl).cell 3
 have l2_ := HLay.out.lt 2 rfl
 gi_wp2
 clear x0_0 x0_1 l0_ x2_0 x2_1 x2_2 x2_3 l2_
 refine ⟨trivial, (callsIn_wide.2 (seconds_any A n c A' m d t gt u AM lm.length cAM (lm) W27 (by omega) (by omega) (by omega) ((HT.out.below HLay.out.bel).more HLay.out.bel.size) HAM.out (HL.out.below HLay.out.bel hl0))).mono ?_⟩
 rintro e W28 ⟨rfl, hb⟩
 replace HLay := Lib.hid (HLay.out.below hb)
 replace HAM := Lib.hid ((HAM.out.below hb).more hb.size)
 replace HAK := Lib.hid ((HAK.out.below hb).more hb.size)
 replace HAB := Lib.hid ((HAB.out.below hb).more hb.size)
 clear hb
 rw [HSG.out.1, HSG.out.2]
 gi_upto_region 14 with fail
 obtain ⟨V29, hV⟩ : ∃ V, (W28.alloc (.cells #[.int .i64 lo1, .int .i64 hi1] 63)) = V := ⟨_, rfl⟩
 rw [hV]
 have hb := fbox_bel hV
 have hnew := fbox_blk hV
 have hge := HLay.out.bel.size
 replace HLay := Lib.hid (HLay.out.below hb)
 replace HAM := Lib.hid ((HAM.out.below hb).more hb.size)
 replace HAK := Lib.hid ((HAK.out.below hb).more hb.size)
 replace HAB := Lib.hid ((HAB.out.below hb).more hb.size)
 replace HLay := Lib.hid (HLay.out.add hge hnew)
 clear hnew hge hb hV
 obtain ⟨G30, hG⟩ : ∃ g, W28.heap.size = g := ⟨_, rfl⟩
 rw [hG] at HLay ⊢
 clear hG
 have x0_0 := (HLay.out.blk 0 rfl).cell 0
 have x0_1 := (HLay.out.blk 0 rfl).cell 1
 have l0_ := HLay.out.lt 0 rfl
 have x2_0 := (HLay.out.blk 2 rfl).cell 0
 have x2_1 := (HLay.out.blk 2 rfl).cell 1
 have x2_2 := (HLay.out.blk 2 rfl).cell 2
 have x2_3 := (HLay.out.blk 2 rfl).cell 3
 have l2_ := HLay.out.lt 2 rfl
 gi_wp2
 clear x0_0 x0_1 l0_ x2_0 x2_1 x2_2 x2_3 l2_
 refine ⟨trivial, (callsIn_wide.2 (seconds_any A n c A' m d t gt ga AK lk.length cAK (lk) V29 (by omega) (by omega) (by omega) ((HT.out.below HLay.out.bel).more HLay.out.bel.size) HAK.out (HL.out.below HLay.out.bel hl0))).mono ?_⟩
 rintro e W31 ⟨rfl, hb⟩
 replace HLay := Lib.hid (HLay.out.below hb)
 replace HAM := Lib.hid ((HAM.out.below hb).more hb.size)
 replace HAK := Lib.hid ((HAK.out.below hb).more hb.size)
 replace HAB := Lib.hid ((HAB.out.below hb).more hb.size)
 clear hb
 rw [HSY.out.1, HSY.out.2]
 gi_upto_region 15 with fail
 obtain ⟨V32, hV⟩ : ∃ V, (W31.alloc (.cells #[.int .i64 lo2, .int .i64 hi2] 63)) = V := ⟨_, rfl⟩
 rw [hV]
 have hb := fbox_bel hV
 have hnew := fbox_blk hV
 have hge := HLay.out.bel.size
 replace HLay := Lib.hid (HLay.out.below hb)
 replace HAM := Lib.hid ((HAM.out.below hb).more hb.size)
 replace HAK := Lib.hid ((HAK.out.below hb).more hb.size)
 replace HAB := Lib.hid ((HAB.out.below hb).more hb.size)
 replace HLay := Lib.hid (HLay.out.add hge hnew)
 clear hnew hge hb hV
 obtain ⟨G33, hG⟩ : ∃ g, W31.heap.size = g := ⟨_, rfl⟩
 rw [hG] at HLay ⊢
 clear hG
 have x0_0 := (HLay.out.blk 0 rfl).cell 0
 have x0_1 := (HLay.out.blk 0 rfl).cell 1
 have l0_ := HLay.out.lt 0 rfl
 have x2_0 := (HLay.out.blk 2 rfl).cell 0
 have x2_1 := (HLay.out.blk 2 rfl).cell 1
 have x2_2 := (HLay.out.blk 2 rfl).cell 2
 have x2_3 := (HLay.out.blk 2 rfl).cell 3
 have l2_ := HLay.out.lt 2 rfl
 gi_wp2
 clear x0_0 x0_1 l0_ x2_0 x2_1 x2_2 x2_3 l2_
 refine ⟨trivial, (callsIn_wide.2 (seconds_any A n c A' m d t gt u AB (lm.length + lk.length) cAB (lm ++ lk) V32 (by omega) (by omega) (by omega) ((HT.out.below HLay.out.bel).more HLay.out.bel.size) HAB.out (HL.out.below HLay.out.bel hl0))).mono ?_⟩
 rintro e W34 ⟨rfl, hb⟩
 replace HLay := Lib.hid (HLay.out.below hb)
 replace HAM := Lib.hid ((HAM.out.below hb).more hb.size)
 replace HAK := Lib.hid ((HAK.out.below hb).more hb.size)
 replace HAB := Lib.hid ((HAB.out.below hb).more hb.size)
 clear hb
 rw [HSB.out.1, HSB.out.2]
 gi_upto_region 16 with fail
 obtain ⟨V35, hV⟩ : ∃ V, (W34.alloc (.cells #[.int .i64 (lo1 + lo2), .int .i64 (hi1 + hi2)] 63)) = V := ⟨_, rfl⟩
 rw [hV]
 have hb := fbox_bel hV
 have hnew := fbox_blk hV
 have hge := HLay.out.bel.size
 replace HLay := Lib.hid (HLay.out.below hb)
 replace HAM := Lib.hid ((HAM.out.below hb).more hb.size)
 replace HAK := Lib.hid ((HAK.out.below hb).more hb.size)
 replace HAB := Lib.hid ((HAB.out.below hb).more hb.size)
 replace HLay := Lib.hid (HLay.out.add hge hnew)
 clear hnew hge hb hV
 obtain ⟨G36, hG⟩ : ∃ g, W34.heap.size = g := ⟨_, rfl⟩
 rw [hG] at HLay ⊢
 clear hG
 have hsq := eqSpan_same (lo1 + lo2) (hi1 + hi2)
 refine wpIn_flow_old [([true, true, true, true, true, true, true, true, true, true, true, true, true, true, true, true, true, true, true, true, true, true], 22)] [false, false, false, false, false, false, false, false, false, false, false, false, false, false, false, false, false, false, false, false, false, false, false, true, true] [] (by kernel_rfl) (by kernel_rfl) (by kernel_rfl) (below_drewN (Below.refl _ _) 1) ?_
 refine wpFlow_cons (A := ?AF7) rfl ?hq7 ?_
 case hq7 =>
  rintro σ hσ of hof hcl
  have HOF := Lib.hid hof
  have HCL := Lib.hid hcl
  clear hof hcl
  have c0_ : ∀ z, (of z).cell? ⟨G30, 0, none⟩ = some (.int .i64 lo1) := fun z => ((HLay.out.below (HOF.out z)).blk 8 rfl).cell 0
  have c1_ : ∀ z, (of z).cell? ⟨G30, 1, none⟩ = some (.int .i64 hi1) := fun z => ((HLay.out.below (HOF.out z)).blk 8 rfl).cell 1
  have c2_ : ∀ z, (of z).cell? ⟨G33, 0, none⟩ = some (.int .i64 lo2) := fun z => ((HLay.out.below (HOF.out z)).blk 9 rfl).cell 0
  have c3_ : ∀ z, (of z).cell? ⟨G33, 1, none⟩ = some (.int .i64 hi2) := fun z => ((HLay.out.below (HOF.out z)).blk 9 rfl).cell 1
  have c4_ : ∀ z, (of z).cell? ⟨G36, 0, none⟩ = some (.int .i64 (lo1 + lo2)) := fun z => ((HLay.out.below (HOF.out z)).blk 10 rfl).cell 0
  have c5_ : ∀ z, (of z).cell? ⟨G36, 1, none⟩ = some (.int .i64 (hi1 + hi2)) := fun z => ((HLay.out.below (HOF.out z)).blk 10 rfl).cell 1
  have hfw : ∀ f, Fence.wide.fn f := fun _ => trivial
  have w1 : IntKind.i64.wrap (lo1 + lo2) = lo1 + lo2 := IntWalk.i64_in _ (by omega)
  have w2 : IntKind.i64.wrap (hi1 + hi2) = hi1 + hi2 := IntWalk.i64_in _ (by omega)
  simp only [pickB]
  repeat (gi_big_quiet_step (fail))
  refine wpQuietIn_nil ?_
  exact rfl
 intro W37 hW
 replace HLay := Lib.hid (HLay.out.below hW)
 replace HAM := Lib.hid ((HAM.out.below hW).more hW.size)
 replace HAK := Lib.hid ((HAK.out.below hW).more hW.size)
 replace HAB := Lib.hid ((HAB.out.below hW).more hW.size)
 clear hW
 gi_wp2
 refine ⟨trivial, (callsIn_wide.2 (lspan_any (lo1 + lo2) (hi1 + hi2) W37)).mono ?_⟩
 rintro e W38 ⟨rfl, hb⟩
 replace HLay := Lib.hid (HLay.out.below hb)
 replace HAM := Lib.hid ((HAM.out.below hb).more hb.size)
 replace HAK := Lib.hid ((HAK.out.below hb).more hb.size)
 replace HAB := Lib.hid ((HAB.out.below hb).more hb.size)
 gi_wp2
 refine ⟨trivial, hb, ?_⟩
 clear hb
 refine wpFlow_nil (A := ?AF8) ?hq8 ?_
 case hq8 =>
  rintro σ hσ of hof hcl
  have HOF := Lib.hid hof
  have HCL := Lib.hid hcl
  clear hof hcl
  have c0_ : ∀ z, (of z).cell? ⟨G30, 0, none⟩ = some (.int .i64 lo1) := fun z => ((HLay.out.below (HOF.out z)).blk 8 rfl).cell 0
  have c1_ : ∀ z, (of z).cell? ⟨G30, 1, none⟩ = some (.int .i64 hi1) := fun z => ((HLay.out.below (HOF.out z)).blk 8 rfl).cell 1
  have c2_ : ∀ z, (of z).cell? ⟨G33, 0, none⟩ = some (.int .i64 lo2) := fun z => ((HLay.out.below (HOF.out z)).blk 9 rfl).cell 0
  have c3_ : ∀ z, (of z).cell? ⟨G33, 1, none⟩ = some (.int .i64 hi2) := fun z => ((HLay.out.below (HOF.out z)).blk 9 rfl).cell 1
  have c4_ : ∀ z, (of z).cell? ⟨G36, 0, none⟩ = some (.int .i64 (lo1 + lo2)) := fun z => ((HLay.out.below (HOF.out z)).blk 10 rfl).cell 0
  have c5_ : ∀ z, (of z).cell? ⟨G36, 1, none⟩ = some (.int .i64 (hi1 + hi2)) := fun z => ((HLay.out.below (HOF.out z)).blk 10 rfl).cell 1
  have hfw : ∀ f, Fence.wide.fn f := fun _ => trivial
  have w1 : IntKind.i64.wrap (lo1 + lo2) = lo1 + lo2 := IntWalk.i64_in _ (by omega)
  have w2 : IntKind.i64.wrap (hi1 + hi2) = hi1 + hi2 := IntWalk.i64_in _ (by omega)
  simp only [pickB]
  repeat (gi_big_quiet_step (fail))
  refine wpQuietIn_nil ?_
  exact rfl
 intro W39 hW
 replace HLay := Lib.hid (HLay.out.below hW)
 replace HAM := Lib.hid ((HAM.out.below hW).more hW.size)
 replace HAK := Lib.hid ((HAK.out.below hW).more hW.size)
 replace HAB := Lib.hid ((HAB.out.below hW).more hW.size)
 clear hW
 simp only [pickB]
 refine wpT_nil ?_
 clear hsq
 have HEG := Lib.hid (end_gw HG.out.fine HSTg.out.1 HSTg.out.2.1 HA1.out HST0.out)
 have HEB := Lib.hid (end_gw HG.out.fine HSUM.out (by omega) HA1.out HST0.out)
 dsimp only [Gone.plus] at HEG HEB
 have PG0 := Lib.hid (mul_small HGS.out.1 (n := 50) ⟨by have := HSS.out.pace; omega, by have := HSS.out.pace; omega⟩ : 0 ≤ gp * s.pace.lo ∧ gp * s.pace.lo ≤ 80000 * 50)
 have PG1 := Lib.hid (mul_small HGS.out.1 (n := 50) ⟨by have := HSS.out.pace; omega, by have := HSS.out.pace; omega⟩ : 0 ≤ gp * s.pace.hi ∧ gp * s.pace.hi ≤ 80000 * 50)
 have PG2 := Lib.hid (mul_small HGS.out.2.2 (n := 50) ⟨by have := HSS.out.step; omega, by have := HSS.out.step; omega⟩ : 0 ≤ gs * s.step.lo ∧ gs * s.step.lo ≤ 20000 * 50)
 have PG3 := Lib.hid (mul_small HGS.out.2.2 (n := 50) ⟨by have := HSS.out.step; omega, by have := HSS.out.step; omega⟩ : 0 ≤ gs * s.step.hi ∧ gs * s.step.hi ≤ 20000 * 50)
 have PGp := Lib.hid (Int.mul_le_mul_of_nonneg_left HSS.out.pace.2.2 HGS.out.1.1 : gp * s.pace.lo ≤ gp * s.pace.hi)
 have PGs := Lib.hid (Int.mul_le_mul_of_nonneg_left HSS.out.step.2.2 HGS.out.2.2.1 : gs * s.step.lo ≤ gs * s.step.hi)
 have PY0 := Lib.hid (mul_small HYS.out.1 (n := 50) ⟨by have := HSS.out.pace; omega, by have := HSS.out.pace; omega⟩ : 0 ≤ yp * s.pace.lo ∧ yp * s.pace.lo ≤ 80000 * 50)
 have PY1 := Lib.hid (mul_small HYS.out.1 (n := 50) ⟨by have := HSS.out.pace; omega, by have := HSS.out.pace; omega⟩ : 0 ≤ yp * s.pace.hi ∧ yp * s.pace.hi ≤ 80000 * 50)
 have PY2 := Lib.hid (mul_small HYS.out.2.2 (n := 50) ⟨by have := HSS.out.step; omega, by have := HSS.out.step; omega⟩ : 0 ≤ ys * s.step.lo ∧ ys * s.step.lo ≤ 20000 * 50)
 have PY3 := Lib.hid (mul_small HYS.out.2.2 (n := 50) ⟨by have := HSS.out.step; omega, by have := HSS.out.step; omega⟩ : 0 ≤ ys * s.step.hi ∧ ys * s.step.hi ≤ 20000 * 50)
 have PYp := Lib.hid (Int.mul_le_mul_of_nonneg_left HSS.out.pace.2.2 HYS.out.1.1 : yp * s.pace.lo ≤ yp * s.pace.hi)
 have PYs := Lib.hid (Int.mul_le_mul_of_nonneg_left HSS.out.step.2.2 HYS.out.2.2.1 : ys * s.step.lo ≤ ys * s.step.hi)
 have hdr := HSS.out.drops
 obtain ⟨f1, hf1⟩ : ∃ x, max 0 (s.drops - gp * s.pace.hi - gs * s.step.hi) = x := ⟨_, rfl⟩
 obtain ⟨f2, hf2⟩ : ∃ x, max 0 (s.drops - gp * s.pace.lo - gs * s.step.lo) = x := ⟨_, rfl⟩
 have hfb : 0 ≤ f1 ∧ f1 ≤ f2 ∧ f2 ≤ s.drops := by have := PG0.out; have := PG1.out; have := PG2.out; have := PG3.out; have := PGp.out; have := PGs.out; omega
 obtain ⟨q1, hq1⟩ : ∃ x, max 0 (f1 - yp * s.pace.hi - ys * s.step.hi) = x := ⟨_, rfl⟩
 obtain ⟨q2, hq2⟩ : ∃ x, max 0 (f1 - yp * s.pace.lo - ys * s.step.lo) = x := ⟨_, rfl⟩
 obtain ⟨q3, hq3⟩ : ∃ x, max 0 (f2 - yp * s.pace.hi - ys * s.step.hi) = x := ⟨_, rfl⟩
 obtain ⟨q4, hq4⟩ : ∃ x, max 0 (f2 - yp * s.pace.lo - ys * s.step.lo) = x := ⟨_, rfl⟩
 have HEL := Lib.hid (end_gw HG.out.fine HSTy.out.1 HSTy.out.2.1 HA2.out (skin_low HST0.out (d := f1) (by omega)))
 have HEH := Lib.hid (end_gw HG.out.fine HSTy.out.1 HSTy.out.2.1 HA2.out (skin_low HST0.out (d := f2) (by omega)))
 dsimp only at HEL HEH
 have e1 : max 0 (s.drops - (gp + yp) * s.pace.hi - (gs + ys) * s.step.hi) = q1 := by
  rw [Int.add_mul, Int.add_mul, ← left_on (by have := PY1.out; omega) (by have := PY3.out; omega) _ _ (by have := PG1.out; omega) (by have := PG3.out; omega), hf1, hq1]
 have e2 : max 0 (s.drops - (gp + yp) * s.pace.lo - (gs + ys) * s.step.lo) = q4 := by
  rw [Int.add_mul, Int.add_mul, ← left_on (by have := PY0.out; omega) (by have := PY2.out; omega) _ _ (by have := PG0.out; omega) (by have := PG2.out; omega), hf2, hq4]
 rw [hf1, hf2] at HEG
 rw [e1, e2] at HEB
 rw [hq1, hq2] at HEL
 rw [hq3, hq4] at HEH
 clear hf1 hf2 hq1 hq2 hq3 hq4 e1 e2 PG0 PG1 PG2 PG3 PGp PGs PY0 PY1 PY2 PY3 PYp PYs
 have x0_0 := (HLay.out.blk 0 rfl).cell 0
 have x0_1 := (HLay.out.blk 0 rfl).cell 1
 have l0_ := HLay.out.lt 0 rfl
 have x1_0 := (HLay.out.blk 1 rfl).cell 0
 have x1_1 := (HLay.out.blk 1 rfl).cell 1
 have x1_2 := (HLay.out.blk 1 rfl).cell 2
 have x1_3 := (HLay.out.blk 1 rfl).cell 3
 have x1_4 := (HLay.out.blk 1 rfl).cell 4
 have l1_ := HLay.out.lt 1 rfl
 gi_wp2
 clear x0_0 x0_1 l0_ x1_0 x1_1 x1_2 x1_3 x1_4 l1_
 refine ⟨trivial, (callsIn_wide.2 (end_any A n c A' m d t s u AM lm.length cAM (lm) W39 (by omega) (by omega) (by omega) ((HT.out.below HLay.out.bel).more HLay.out.bel.size) HAM.out (HL.out.below HLay.out.bel hl0))).mono ?_⟩
 rintro e W40 ⟨rfl, hb⟩
 replace HLay := Lib.hid (HLay.out.below hb)
 replace HAM := Lib.hid ((HAM.out.below hb).more hb.size)
 replace HAK := Lib.hid ((HAK.out.below hb).more hb.size)
 replace HAB := Lib.hid ((HAB.out.below hb).more hb.size)
 clear hb
 rw [HEG.out.1, HEG.out.2]
 gi_upto_region 19 with fail
 obtain ⟨V41, hV⟩ : ∃ V, (W40.alloc (.cells #[.int .i64 f1, .int .i64 f2] 63)) = V := ⟨_, rfl⟩
 rw [hV]
 have hb := fbox_bel hV
 have hnew := fbox_blk hV
 have hge := HLay.out.bel.size
 replace HLay := Lib.hid (HLay.out.below hb)
 replace HAM := Lib.hid ((HAM.out.below hb).more hb.size)
 replace HAK := Lib.hid ((HAK.out.below hb).more hb.size)
 replace HAB := Lib.hid ((HAB.out.below hb).more hb.size)
 replace HLay := Lib.hid (HLay.out.add hge hnew)
 clear hnew hge hb hV
 obtain ⟨G42, hG⟩ : ∃ g, W40.heap.size = g := ⟨_, rfl⟩
 rw [hG] at HLay ⊢
 clear hG
 have d1 : decide (f1 < 0) = false := by simp; omega
 have d2 : decide (f2 < f1) = false := by simp; omega
 have d3 : decide (s.drops < f2) = false := by simp; omega
 have x1_0 := (HLay.out.blk 1 rfl).cell 0
 have x1_1 := (HLay.out.blk 1 rfl).cell 1
 have x1_2 := (HLay.out.blk 1 rfl).cell 2
 have x1_3 := (HLay.out.blk 1 rfl).cell 3
 have x1_4 := (HLay.out.blk 1 rfl).cell 4
 have l1_ := HLay.out.lt 1 rfl
 have x11_0 := (HLay.out.blk 11 rfl).cell 0
 have x11_1 := (HLay.out.blk 11 rfl).cell 1
 have l11_ := HLay.out.lt 11 rfl
 gi_upto_region 21 with fail
 clear x1_0 x1_1 x1_2 x1_3 x1_4 l1_ x11_0 x11_1 l11_
 clear d1 d2 d3
 gi_cut [37, 38] from 238 (fun v37 v38 wx => ∃ g1 g2, v37 = .pointer (some ⟨g1, 0, none⟩) ∧ v38 = .pointer (some ⟨g2, 0, none⟩) ∧ g1 ≠ g2 ∧ Hid (Below V41.heap.size V41 wx ∧ V41.heap.size ≤ g1 ∧ V41.heap.size ≤ g2 ∧ Blk wx g1 65 #[.int .i64 s.drops, .int .i64 s.pace.lo, .int .i64 s.pace.hi, .int .i64 s.step.lo, .int .i64 s.step.hi] ∧ Blk wx g2 65 #[.int .i64 s.drops, .int .i64 s.pace.lo, .int .i64 s.pace.hi, .int .i64 s.step.lo, .int .i64 s.step.hi]))
 case first =>
  have HB0 := Lib.hid (Below.refl V41.heap.size V41)
  have x1_0 := (HLay.out.blk 1 rfl).cell 0
  have z1_0 := (HLay.out.blk 1 rfl).frozen 0
  have x1_1 := (HLay.out.blk 1 rfl).cell 1
  have z1_1 := (HLay.out.blk 1 rfl).frozen 1
  have x1_2 := (HLay.out.blk 1 rfl).cell 2
  have z1_2 := (HLay.out.blk 1 rfl).frozen 2
  have x1_3 := (HLay.out.blk 1 rfl).cell 3
  have z1_3 := (HLay.out.blk 1 rfl).frozen 3
  have x1_4 := (HLay.out.blk 1 rfl).cell 4
  have z1_4 := (HLay.out.blk 1 rfl).frozen 4
  have l1_ := HLay.out.lt 1 rfl
  have lz0 : w.heap.size < V41.heap.size := by omega
  have lz1 : w.heap.size + 1 < V41.heap.size + 1 := by omega
  have lz2 : w.heap.size + 1 < V41.heap.size + 1 + 1 := by omega
  have lz3 : w.heap.size < V41.heap.size + 1 := by omega
  gi_region
  all_goals gi_wp2
  all_goals gi_meet
  all_goals
   have hb1 : Below V41.heap.size V41 (V41.alloc (.cells #[.int .i64 s.drops, .int .i64 s.pace.lo, .int .i64 s.pace.hi, .int .i64 s.step.lo, .int .i64 s.step.hi] 65)) := (Below.refl V41.heap.size V41).alloc (Nat.le_refl _) (.cells #[.int .i64 s.drops, .int .i64 s.pace.lo, .int .i64 s.pace.hi, .int .i64 s.step.lo, .int .i64 s.step.hi] 65)
   have hb2 : Below V41.heap.size V41 ((V41.alloc (.cells #[.int .i64 s.drops, .int .i64 s.pace.lo, .int .i64 s.pace.hi, .int .i64 s.step.lo, .int .i64 s.step.hi] 65)).alloc (.cells #[.int .i64 s.drops, .int .i64 s.pace.lo, .int .i64 s.pace.hi, .int .i64 s.step.lo, .int .i64 s.step.hi] 65)) := hb1.alloc hb1.size (.cells #[.int .i64 s.drops, .int .i64 s.pace.lo, .int .i64 s.pace.hi, .int .i64 s.step.lo, .int .i64 s.step.hi] 65)
   have n1 := (Blk.new V41 65 #[.int .i64 s.drops, .int .i64 s.pace.lo, .int .i64 s.pace.hi, .int .i64 s.step.lo, .int .i64 s.step.hi]).alloc (.cells #[.int .i64 s.drops, .int .i64 s.pace.lo, .int .i64 s.pace.hi, .int .i64 s.step.lo, .int .i64 s.step.hi] 65)
   have n2 := Blk.new (V41.alloc (.cells #[.int .i64 s.drops, .int .i64 s.pace.lo, .int .i64 s.pace.hi, .int .i64 s.step.lo, .int .i64 s.step.hi] 65)) 65 #[.int .i64 s.drops, .int .i64 s.pace.lo, .int .i64 s.pace.hi, .int .i64 s.step.lo, .int .i64 s.step.hi]
   rw [World.size_alloc] at n2
  ·exact ⟨_, _, rfl, rfl, by omega, Lib.hid ⟨hb2.drew, Nat.le_refl _, Nat.le_succ _, n1.drew, n2.drew⟩⟩
  ·exact ⟨_, _, rfl, rfl, by omega, Lib.hid ⟨hb2.drew, Nat.le_succ _, Nat.le_refl _, n2.drew, n1.drew⟩⟩
 case rest =>
  obtain ⟨g1, g2, rfl, rfl, hne, HCB⟩ := hcut
  rename World => C1
  gi_upto_region 22 with fail
  gi_cut [] from 240 (fun wx => Hid (Below V41.heap.size V41 wx ∧ Blk wx g1 65 #[.int .i64 f1, .int .i64 s.pace.lo, .int .i64 s.pace.hi, .int .i64 s.step.lo, .int .i64 s.step.hi] ∧ Blk wx g2 65 #[.int .i64 f2, .int .i64 s.pace.lo, .int .i64 s.pace.hi, .int .i64 s.step.lo, .int .i64 s.step.hi]))
  case first =>
   have q := HLay.out.below HCB.out.1
   have e0 := (q.blk 11 rfl).cell 0
   have e1 := (q.blk 11 rfl).cell 1
   have el := q.lt 11 rfl
   have eg := HLay.out.lt 11 rfl
   have r1 := HCB.out.2.2.2.1
   have r2 := HCB.out.2.2.2.2
   have hge1 := HCB.out.2.1
   have hge2 := HCB.out.2.2.1
   have n1 : G42 ≠ g1 := by omega
   have n2 : G42 ≠ g2 := by omega
   have m1 : g1 ≠ G42 := by omega
   have m2 : g2 ≠ G42 := by omega
   have hne2 : g2 ≠ g1 := fun e => hne e.symm
   have a0 := r1.cell 0
   have a1 := r1.frozen 0
   have al := r1.lt
   have b0 := r2.cell 0
   have b1 := r2.frozen 0
   have bl := r2.lt
   gi_region
   all_goals gi_wp2
   all_goals gi_meet
   all_goals exact Lib.hid ⟨((HCB.out.1.setCell (p := ⟨g1, 0, none⟩) HCB.out.2.1 _).setCell (p := ⟨g2, 0, none⟩) HCB.out.2.2.1 _).drew, ((HCB.out.2.2.2.1.set_ 0 _).far (p := ⟨g2, 0, none⟩) hne _).drew, ((HCB.out.2.2.2.2.far (p := ⟨g1, 0, none⟩) hne2 _).set_ 0 _).drew⟩
  case rest =>
   rename World => C2
   have HCC := Lib.hid hcut.out
   have hb := HCC.out.1
   have hn1 := HCC.out.2.1
   have hn2 := HCC.out.2.2
   have hg1 := Nat.le_trans HLay.out.bel.size HCB.out.2.1
   have hg2 := Nat.le_trans HLay.out.bel.size HCB.out.2.2.1
   clear hcut HCC
   replace HLay := Lib.hid (HLay.out.below hb)
   replace HAM := Lib.hid ((HAM.out.below hb).more hb.size)
   replace HAK := Lib.hid ((HAK.out.below hb).more hb.size)
   replace HAB := Lib.hid ((HAB.out.below hb).more hb.size)
   replace HLay := Lib.hid ((HLay.out.add hg1 hn1).add hg2 hn2)
   clear hb hn1 hn2 hg1 hg2 HCB C1 hne
   have x0_0 := (HLay.out.blk 0 rfl).cell 0
   have x0_1 := (HLay.out.blk 0 rfl).cell 1
   have l0_ := HLay.out.lt 0 rfl
   have x12_0 := (HLay.out.blk 12 rfl).cell 0
   have x12_1 := (HLay.out.blk 12 rfl).cell 1
   have x12_2 := (HLay.out.blk 12 rfl).cell 2
   have x12_3 := (HLay.out.blk 12 rfl).cell 3
   have x12_4 := (HLay.out.blk 12 rfl).cell 4
   have l12_ := HLay.out.lt 12 rfl
   gi_wp2
   clear x0_0 x0_1 l0_ x12_0 x12_1 x12_2 x12_3 x12_4 l12_
   refine ⟨trivial, (callsIn_wide.2 (end_any A n c A' m d t ⟨f1, s.pace, s.step⟩ ga AK lk.length cAK (lk) C2 (by omega) (by omega) (by omega) ((HT.out.below HLay.out.bel).more HLay.out.bel.size) HAK.out (HL.out.below HLay.out.bel hl0))).mono ?_⟩
   rintro e W43 ⟨rfl, hb⟩
   replace HLay := Lib.hid (HLay.out.below hb)
   replace HAM := Lib.hid ((HAM.out.below hb).more hb.size)
   replace HAK := Lib.hid ((HAK.out.below hb).more hb.size)
   replace HAB := Lib.hid ((HAB.out.below hb).more hb.size)
   clear hb
   rw [HEL.out.1, HEL.out.2]
   gi_upto_region 24 with fail
   obtain ⟨V44, hV⟩ : ∃ V, (W43.alloc (.cells #[.int .i64 q1, .int .i64 q2] 63)) = V := ⟨_, rfl⟩
   rw [hV]
   have hb := fbox_bel hV
   have hnew := fbox_blk hV
   have hge := HLay.out.bel.size
   replace HLay := Lib.hid (HLay.out.below hb)
   replace HAM := Lib.hid ((HAM.out.below hb).more hb.size)
   replace HAK := Lib.hid ((HAK.out.below hb).more hb.size)
   replace HAB := Lib.hid ((HAB.out.below hb).more hb.size)
   replace HLay := Lib.hid (HLay.out.add hge hnew)
   clear hnew hge hb hV
   obtain ⟨G45, hG⟩ : ∃ g, W43.heap.size = g := ⟨_, rfl⟩
   rw [hG] at HLay ⊢
   clear hG
   have x0_0 := (HLay.out.blk 0 rfl).cell 0
   have x0_1 := (HLay.out.blk 0 rfl).cell 1
   have l0_ := HLay.out.lt 0 rfl
   have x13_0 := (HLay.out.blk 13 rfl).cell 0
   have x13_1 := (HLay.out.blk 13 rfl).cell 1
   have x13_2 := (HLay.out.blk 13 rfl).cell 2
   have x13_3 := (HLay.out.blk 13 rfl).cell 3
   have x13_4 := (HLay.out.blk 13 rfl).cell 4
   have l13_ := HLay.out.lt 13 rfl
   gi_wp2
   clear x0_0 x0_1 l0_ x13_0 x13_1 x13_2 x13_3 x13_4 l13_
   refine ⟨trivial, (callsIn_wide.2 (end_any A n c A' m d t ⟨f2, s.pace, s.step⟩ ga AK lk.length cAK (lk) V44 (by omega) (by omega) (by omega) ((HT.out.below HLay.out.bel).more HLay.out.bel.size) HAK.out (HL.out.below HLay.out.bel hl0))).mono ?_⟩
   rintro e W46 ⟨rfl, hb⟩
   replace HLay := Lib.hid (HLay.out.below hb)
   replace HAM := Lib.hid ((HAM.out.below hb).more hb.size)
   replace HAK := Lib.hid ((HAK.out.below hb).more hb.size)
   replace HAB := Lib.hid ((HAB.out.below hb).more hb.size)
   clear hb
   rw [HEH.out.1, HEH.out.2]
   gi_upto_region 25 with fail
   obtain ⟨V47, hV⟩ : ∃ V, (W46.alloc (.cells #[.int .i64 q3, .int .i64 q4] 63)) = V := ⟨_, rfl⟩
   rw [hV]
   have hb := fbox_bel hV
   have hnew := fbox_blk hV
   have hge := HLay.out.bel.size
   replace HLay := Lib.hid (HLay.out.below hb)
   replace HAM := Lib.hid ((HAM.out.below hb).more hb.size)
   replace HAK := Lib.hid ((HAK.out.below hb).more hb.size)
   replace HAB := Lib.hid ((HAB.out.below hb).more hb.size)
   replace HLay := Lib.hid (HLay.out.add hge hnew)
   clear hnew hge hb hV
   obtain ⟨G48, hG⟩ : ∃ g, W46.heap.size = g := ⟨_, rfl⟩
   rw [hG] at HLay ⊢
   clear hG
   have x0_0 := (HLay.out.blk 0 rfl).cell 0
   have x0_1 := (HLay.out.blk 0 rfl).cell 1
   have l0_ := HLay.out.lt 0 rfl
   have x1_0 := (HLay.out.blk 1 rfl).cell 0
   have x1_1 := (HLay.out.blk 1 rfl).cell 1
   have x1_2 := (HLay.out.blk 1 rfl).cell 2
   have x1_3 := (HLay.out.blk 1 rfl).cell 3
   have x1_4 := (HLay.out.blk 1 rfl).cell 4
   have l1_ := HLay.out.lt 1 rfl
   gi_wp2
   clear x0_0 x0_1 l0_ x1_0 x1_1 x1_2 x1_3 x1_4 l1_
   refine ⟨trivial, (callsIn_wide.2 (end_any A n c A' m d t s u AB (lm.length + lk.length) cAB (lm ++ lk) V47 (by omega) (by omega) (by omega) ((HT.out.below HLay.out.bel).more HLay.out.bel.size) HAB.out (HL.out.below HLay.out.bel hl0))).mono ?_⟩
   rintro e W49 ⟨rfl, hb⟩
   replace HLay := Lib.hid (HLay.out.below hb)
   replace HAM := Lib.hid ((HAM.out.below hb).more hb.size)
   replace HAK := Lib.hid ((HAK.out.below hb).more hb.size)
   replace HAB := Lib.hid ((HAB.out.below hb).more hb.size)
   clear hb
   rw [HEB.out.1, HEB.out.2]
   gi_upto_region 26 with fail
   obtain ⟨V50, hV⟩ : ∃ V, (W49.alloc (.cells #[.int .i64 q1, .int .i64 q4] 63)) = V := ⟨_, rfl⟩
   rw [hV]
   have hb := fbox_bel hV
   have hnew := fbox_blk hV
   have hge := HLay.out.bel.size
   replace HLay := Lib.hid (HLay.out.below hb)
   replace HAM := Lib.hid ((HAM.out.below hb).more hb.size)
   replace HAK := Lib.hid ((HAK.out.below hb).more hb.size)
   replace HAB := Lib.hid ((HAB.out.below hb).more hb.size)
   replace HLay := Lib.hid (HLay.out.add hge hnew)
   clear hnew hge hb hV
   obtain ⟨G51, hG⟩ : ∃ g, W49.heap.size = g := ⟨_, rfl⟩
   rw [hG] at HLay ⊢
   clear hG
   have hsq := eqSpan_same q1 q4
   refine wpIn_flow_old [([true, true, true, true, true, true, true, true, true, true, true, true, true, true, true, true, true, true, true], 19)] [false, false, false, false, false, false, false, false, false, false, false, false, false, false, false, false, false, false, false, false, true, true, true] [] (by kernel_rfl) (by kernel_rfl) (by kernel_rfl) (below_drewN (Below.refl _ _) 1) ?_
   refine wpFlow_cons (A := ?AF9) rfl ?hq9 ?_
   case hq9 =>
    rintro σ hσ of hof hcl
    have HOF := Lib.hid hof
    have HCL := Lib.hid hcl
    clear hof hcl
    have c0_ : ∀ z, (of z).cell? ⟨G45, 0, none⟩ = some (.int .i64 q1) := fun z => ((HLay.out.below (HOF.out z)).blk 14 rfl).cell 0
    have c1_ : ∀ z, (of z).cell? ⟨G45, 1, none⟩ = some (.int .i64 q2) := fun z => ((HLay.out.below (HOF.out z)).blk 14 rfl).cell 1
    have c2_ : ∀ z, (of z).cell? ⟨G48, 0, none⟩ = some (.int .i64 q3) := fun z => ((HLay.out.below (HOF.out z)).blk 15 rfl).cell 0
    have c3_ : ∀ z, (of z).cell? ⟨G48, 1, none⟩ = some (.int .i64 q4) := fun z => ((HLay.out.below (HOF.out z)).blk 15 rfl).cell 1
    have c4_ : ∀ z, (of z).cell? ⟨G51, 0, none⟩ = some (.int .i64 q1) := fun z => ((HLay.out.below (HOF.out z)).blk 16 rfl).cell 0
    have c5_ : ∀ z, (of z).cell? ⟨G51, 1, none⟩ = some (.int .i64 q4) := fun z => ((HLay.out.below (HOF.out z)).blk 16 rfl).cell 1
    have hfw : ∀ f, Fence.wide.fn f := fun _ => trivial
    simp only [pickB]
    repeat (gi_big_quiet_step (fail))
    refine wpQuietIn_nil ?_
    exact rfl
   intro W52 hW
   replace HLay := Lib.hid (HLay.out.below hW)
   replace HAM := Lib.hid ((HAM.out.below hW).more hW.size)
   replace HAK := Lib.hid ((HAK.out.below hW).more hW.size)
   replace HAB := Lib.hid ((HAB.out.below hW).more hW.size)
   clear hW
   gi_wp2
   refine ⟨trivial, (callsIn_wide.2 (lspan_any q1 q4 W52)).mono ?_⟩
   rintro e W53 ⟨rfl, hb⟩
   replace HLay := Lib.hid (HLay.out.below hb)
   replace HAM := Lib.hid ((HAM.out.below hb).more hb.size)
   replace HAK := Lib.hid ((HAK.out.below hb).more hb.size)
   replace HAB := Lib.hid ((HAB.out.below hb).more hb.size)
   gi_wp2
   refine ⟨trivial, hb, ?_⟩
   clear hb
   refine wpFlow_nil (A := ?AF10) ?hq10 ?_
   case hq10 =>
    rintro σ hσ of hof hcl
    have HOF := Lib.hid hof
    have HCL := Lib.hid hcl
    clear hof hcl
    have c0_ : ∀ z, (of z).cell? ⟨G45, 0, none⟩ = some (.int .i64 q1) := fun z => ((HLay.out.below (HOF.out z)).blk 14 rfl).cell 0
    have c1_ : ∀ z, (of z).cell? ⟨G45, 1, none⟩ = some (.int .i64 q2) := fun z => ((HLay.out.below (HOF.out z)).blk 14 rfl).cell 1
    have c2_ : ∀ z, (of z).cell? ⟨G48, 0, none⟩ = some (.int .i64 q3) := fun z => ((HLay.out.below (HOF.out z)).blk 15 rfl).cell 0
    have c3_ : ∀ z, (of z).cell? ⟨G48, 1, none⟩ = some (.int .i64 q4) := fun z => ((HLay.out.below (HOF.out z)).blk 15 rfl).cell 1
    have c4_ : ∀ z, (of z).cell? ⟨G51, 0, none⟩ = some (.int .i64 q1) := fun z => ((HLay.out.below (HOF.out z)).blk 16 rfl).cell 0
    have c5_ : ∀ z, (of z).cell? ⟨G51, 1, none⟩ = some (.int .i64 q4) := fun z => ((HLay.out.below (HOF.out z)).blk 16 rfl).cell 1
    have hfw : ∀ f, Fence.wide.fn f := fun _ => trivial
    simp only [pickB]
    repeat (gi_big_quiet_step (fail))
    refine wpQuietIn_nil ?_
    exact rfl
   intro W54 hW
   replace HLay := Lib.hid (HLay.out.below hW)
   replace HAM := Lib.hid ((HAM.out.below hW).more hW.size)
   replace HAK := Lib.hid ((HAK.out.below hW).more hW.size)
   replace HAB := Lib.hid ((HAB.out.below hW).more hW.size)
   clear hW
   simp only [pickB]
   refine wpT_nil ?_
   clear hsq
   gi_wp2
   exact bodyPost_ret (v := .bool true) (by simp [results, Tryz.results9, go_sem]) rfl ⟨rfl, HLay.out.bel⟩
theorem zsums_walk (A : Option Addr) (n c : Nat) (A' : Option Addr) (m d : Nat) (t : Town) (fr : Nat) (by_A : Option Addr) (by_n by_c : Nat) (by_ : List Nat) (th_A : Option Addr) (th_n th_c : Nat) (th_ : List Nat) (s : Skin) (gt : Gait) (w : World) (hn : n ≤ maxLen) (hm : m ≤ maxLen) (hfr : fr ≤ 255) (hby_ : by_n ≤ maxLen) (hcby_ : by_n ≤ by_c) (hth_ : th_n ≤ maxLen) (hcth_ : th_n ≤ th_c) (ht : TownAt w w.heap.size A n A' m t) (rby_ : BytesAt w w.heap.size by_A by_n by_) (rth_ : BytesAt w w.heap.size th_A th_n th_) (hL : Laid w) :
  Calls Tryz.prog 9 #[.agg #[.slice A n c, .slice A' m d], .int .u8 fr, .slice by_A by_n by_c, .slice th_A th_n th_c, .agg #[.int .i64 s.drops, .int .i64 s.pace.lo, .int .i64 s.pace.hi, .int .i64 s.step.lo, .int .i64 s.step.hi], .agg #[.int .i64 gt.pace.lo, .int .i64 gt.pace.hi, .int .i64 gt.step.lo, .int .i64 gt.step.hi]] w fun e w' => e = .returned (.bool true) ∧ Below w.heap.size w w' :=
 callsIn_wide.1 (zsums_walk_in A n c A' m d t fr by_A by_n by_c by_ th_A th_n th_c th_ s gt w hn hm hfr hby_ hcby_ hth_ hcth_ ht rby_ rth_ hL)
end Go.Proofs.YtahkjagjcogeiaaGreatDoor
/- The table of checks as the row lists it: its three cells. The door's own heap meets the condition. -/
namespace Go.Proofs.YtahkjagjcogeiaaGreatDoor
open Go.ChangeShapes Go.WideShapes Go.ChangeAt Go.RowKit
set_option maxRecDepth 100000

def laidL : List (String × DataW Unit) := [("aguador/climb.checks", Rows.laid_aguador_climb_checks)]
theorem gChecks : Tryz.prog.globalNamed "aguador/climb.checks" = some 0 := by kernel_rfl
theorem tChecks : (Tryz.prog.globals[0]?).map (·.type) = some 163 := by kernel_rfl
theorem cellsCheck : Tryz.prog.cellsOf 162 = 1 := by kernel_rfl
theorem cellsFuncB : Tryz.prog.cellsOf 28 = 1 := by kernel_rfl
theorem checkUnd : ∃ f, Tryz.prog.underlying 162 = some (.struct #[f]) ∧ f.type = 28 ∧ f.offset = 0 := ⟨_, Tryz.underlying162, rfl, rfl⟩

/-- The door's own heap meets the condition. -/
theorem door_met (os : Os) (args : Array Value) : laidMetH Tryz.prog laidL ((World.doorLaid Tryz.prog 800 os).forCall (fun _ _ => 0) ⟨#[], args, []⟩).memory :=
 laidMetH_of_parts3 (fuel := 8) (laidMet_of_run' 8 (by kernel_rfl) (by kernel_rfl)) (by kernel_rfl) (by kernel_rfl)

theorem check_cell {W : World} {fuel : Nat} {cs : List Value} {b : UInt8} {r : List UInt8} {q : List MemPlace} {f0 : FuncId} (h : DataW.trod (funcToken Tryz.prog) Tryz.prog W 0 (fun _ => true) true fuel 162 cs = some (.agg [.held (b :: r)], q))
  (hone : ((List.range Tryz.prog.funcs.size).filter fun f => (Tryz.prog.funcs[f]?).any (·.name.toUTF8.data.toList == b :: r)) = [f0]) : cs = [.func (.func f0) #[] #[]] := by
 obtain ⟨f, hu, ht, ho⟩ := checkUnd
 obtain ⟨y0, n, hx, hl, h0⟩ := trod_struct1 hu h
 rw [cellsCheck] at hl
 match cs, hl with
 | [c], _ =>
  have h1 : DataW.trod (funcToken Tryz.prog) Tryz.prog W 0 (fun _ => true) true n 28 [c] = some y0 := by simpa [ht, ho, cellsFuncB] using h0
  simp only [Prod.mk.injEq, DataW.agg.injEq, List.cons.injEq, and_true] at hx
  obtain ⟨z, p⟩ := y0
  obtain ⟨e1, e2⟩ := hx
  simp only at e1
  subst e1
  rw [func_of_trod Tryz.underlying28 hone h1]

theorem of_laid {W : World} (h : laidMetH Tryz.prog laidL W) : Laid W := by
 obtain ⟨g, t, cs, fuel, p, hg, ht, hv, hd⟩ := h.funcs (List.mem_singleton.2 rfl)
 obtain rfl := Option.some.inj (gChecks.symm.trans hg)
 obtain rfl := Option.some.inj (tChecks.symm.trans ht)
 obtain ⟨xs, m, _, hx, hlen, hn, hel⟩ := DataW.trod_array Tryz.underlying163 hd
 rw [cellsCheck] at hel
 match xs, hn with
 | [x0, x1, x2], _ =>
  have h0 := hel 0 (by decide)
  have h1 := hel 1 (by decide)
  have h2 := hel 2 (by decide)
  simp only [Prod.mk.injEq] at hx
  have hx1 := hx.1
  simp only [DataW.funcsOut, DataW.funcsOutAll, List.map_cons, List.map_nil, DataW.agg.injEq, List.cons.injEq, and_true] at hx1
  obtain ⟨e0, e1, e2⟩ := hx1
  obtain ⟨x0, p0⟩ := x0
  obtain ⟨x1, p1⟩ := x1
  obtain ⟨x2, p2⟩ := x2
  simp only at e0 e1 e2
  subst e0 e1 e2
  have k0 := check_cell (f0 := 174) h0 (by kernel_rfl)
  have k1 := check_cell (f0 := 175) h1 (by kernel_rfl)
  have k2 := check_cell (f0 := 176) h2 (by kernel_rfl)
  have at_ : ∀ i, W.cell? ⟨0, i, none⟩ = cs[i]? := fun i => by simpa using World.var?_cell hg hv i
  obtain ⟨l⟩ := cs
  have c0 : W.cell? ⟨0, 0, none⟩ = some (.func (.func 174) #[] #[]) := by
   rw [at_]
   have := congrArg (·[0]?) k0
   simpa [List.getElem?_take, List.getElem?_drop] using this
  have c1 : W.cell? ⟨0, 1, none⟩ = some (.func (.func 175) #[] #[]) := by
   rw [at_]
   have := congrArg (·[0]?) k1
   simpa [List.getElem?_take, List.getElem?_drop] using this
  have c2 : W.cell? ⟨0, 2, none⟩ = some (.func (.func 176) #[] #[]) := by
   rw [at_]
   have := congrArg (·[0]?) k2
   simpa [List.getElem?_take, List.getElem?_drop] using this
  exact ⟨c0, c1, c2, World.block_lt_of_cell? W _ c0⟩

end Go.Proofs.YtahkjagjcogeiaaGreatDoor
/- The laws' arguments, opened: lists of whole numbers, lists of links, towns, a link; the table of checks. -/
namespace Go.Proofs.YtahkjagjcogeiaaGreatDoor
open Go.ChangeShapes Go.WideShapes Go.RowKit Go.Deep Go.Joins
set_option maxRecDepth 100000

section
variable {H : Type} {enc : TypeId × Value → H} {P : Program} {w : World} {base : Nat} {spare : Nat → Bool} {held : Bool}
end

section
variable {H : Type} {enc : TypeId × Value → H} {w : World}

theorem linkUnd : ∃ f0 f1 f2 f3 f4, Tryz.prog.underlying 52 = some (.struct #[f0, f1, f2, f3, f4]) ∧ oneCellFields Tryz.prog #[f0, f1, f2, f3, f4] = true ∧ f0.type = 3 ∧ f1.type = 3 ∧ f2.type = 3 ∧ f3.type = 3 ∧ f4.type = 3 ∧ f0.offset = 0 ∧ f1.offset = 1 ∧ f2.offset = 2 ∧ f3.offset = 3 ∧ f4.offset = 4 :=
 ⟨_, _, _, _, _, Tryz.underlying52, by kernel_rfl, rfl, rfl, rfl, rfl, rfl, rfl, rfl, rfl, rfl, rfl⟩
theorem cellsLink : Tryz.prog.cellsOf 52 = 5 := by kernel_rfl
theorem cellsInt1 : Tryz.prog.cellsOf 3 = 1 := by kernel_rfl
theorem cellsTown2 : Tryz.prog.cellsOf 25 = 2 := by kernel_rfl

/-- A list of whole numbers. -/
theorem ints_open {v : Value} {fuel : Nat} {x : DataW H × List MemPlace} (h : DataW.trod enc Tryz.prog w 0 (fun _ => true) true fuel 22 [v] = some x) :
  ∃ A n c l, v = .slice A n c ∧ n ≤ c ∧ n ≤ maxLen ∧ c ≤ maxLen ∧ IntsAt w w.heap.size A n l := by
 rcases open_slice1 Tryz.underlying22 cellsInt1 h with ⟨e, _⟩ | ⟨a, len, cap, m, k, V, D, Pl, e, _, hl, hm, hmm, _, hx⟩
 ·simp only [List.cons.injEq, and_true] at e
  exact ⟨none, 0, 0, [], e, Nat.le_refl _, Nat.zero_le _, Nat.zero_le _, Reads.none_⟩
 ·simp only [List.cons.injEq, and_true] at e
  have hmc : m = cap := by simpa using hmm
  subst hmc
  have hn : ∀ i, i < m → ∃ z : Int, V i = .int .i64 z := fun i hi => by
   obtain ⟨z, f0, _, _⟩ := DataW.trod_int Tryz.underlying3 (hx i hi).2
   simp only [List.cons.injEq, and_true] at f0
   exact ⟨z, f0⟩
  obtain ⟨Z, hZ⟩ := choose_lt hn
  refine ⟨some a, len, m, (List.range len).map Z, e, hl, by omega, hm, by simp, fun h0 => ⟨a, rfl, ?_, fun j u hu => ?_⟩⟩
  ·have := World.block_lt_of_cell? w _ (hx 0 (by omega)).1
   rwa [block_of_add] at this
  ·simp only [List.getElem?_map, Option.map_map] at hu
   have hj : j < len := by
    rcases Nat.lt_or_ge j len with h' | h'
    ·exact h'
    ·rw [List.getElem?_eq_none (by simpa using h')] at hu; cases hu
   rw [List.getElem?_range hj] at hu
   simp only [Option.map_some, Option.some.injEq, Function.comp] at hu
   rw [(hx j (by omega)).1, hZ j (by omega), ← hu]

/-- A link's five cells. -/
theorem link_cells {fuel : Nat} {cs : List Value} {x : DataW H × List MemPlace} (h : DataW.trod enc Tryz.prog w 0 (fun _ => true) true fuel 52 cs = some x) (hl : cs.length = 5) : ∃ l : Link, cs = l.vals := by
 obtain ⟨f0, f1, f2, f3, f4, hu, hone, t0, t1, t2, t3, t4, z0, z1, z2, z3, z4⟩ := linkUnd
 obtain ⟨xs, n, _, _, _, hlen, hg⟩ := DataW.trod_struct hu h
 match cs, hl, xs, hlen with
 | [c0, c1, c2, c3, c4], _, [y0, y1, y2, y3, y4], _ =>
  have h0 : DataW.trod enc Tryz.prog w 0 (fun _ => true) true n 3 [c0] = some y0 := by simpa [t0, z0, cellsInt1] using hg 0 f0 rfl
  have h1 : DataW.trod enc Tryz.prog w 0 (fun _ => true) true n 3 [c1] = some y1 := by simpa [t1, z1, cellsInt1] using hg 1 f1 rfl
  have h2 : DataW.trod enc Tryz.prog w 0 (fun _ => true) true n 3 [c2] = some y2 := by simpa [t2, z2, cellsInt1] using hg 2 f2 rfl
  have h3 : DataW.trod enc Tryz.prog w 0 (fun _ => true) true n 3 [c3] = some y3 := by simpa [t3, z3, cellsInt1] using hg 3 f3 rfl
  have h4 : DataW.trod enc Tryz.prog w 0 (fun _ => true) true n 3 [c4] = some y4 := by simpa [t4, z4, cellsInt1] using hg 4 f4 rfl
  obtain ⟨n0, e0, _, _⟩ := DataW.trod_int Tryz.underlying3 h0
  obtain ⟨n1, e1, _, _⟩ := DataW.trod_int Tryz.underlying3 h1
  obtain ⟨n2, e2, _, _⟩ := DataW.trod_int Tryz.underlying3 h2
  obtain ⟨n3, e3, _, _⟩ := DataW.trod_int Tryz.underlying3 h3
  obtain ⟨n4, e4, _, _⟩ := DataW.trod_int Tryz.underlying3 h4
  simp only [List.cons.injEq, and_true] at e0 e1 e2 e3 e4
  subst e0 e1 e2 e3 e4
  exact ⟨⟨n0, n1, n2, n3, n4⟩, rfl⟩

/-- A list of links. -/
theorem links_open {v : Value} {fuel : Nat} {x : DataW H × List MemPlace} (h : DataW.trod enc Tryz.prog w 0 (fun _ => true) true fuel 23 [v] = some x) :
  ∃ A n c l, v = .slice A n c ∧ n ≤ c ∧ n ≤ maxLen ∧ c ≤ maxLen ∧ LinksAt w w.heap.size A n l := by
 rcases open_slice Tryz.underlying23 h with ⟨e, _⟩ | ⟨a, len, cap, m, k, D, Pl, e, _, hl, hm, hmm, _, hx⟩
 ·simp only [List.cons.injEq, and_true] at e
  exact ⟨none, 0, 0, [], e, Nat.le_refl _, Nat.zero_le _, Nat.zero_le _, Reads.none_⟩
 ·simp only [List.cons.injEq, and_true] at e
  have hmc : m = cap := by simpa using hmm
  subst hmc
  have hn : ∀ i, i < m → ∃ z : Link, ∀ j, j < 5 → w.cell? (a.add (i * 5 + j)) = z.vals[j]? := fun i hi => by
   obtain ⟨cs', h1, h2⟩ := hx i hi
   rw [cellsLink] at h1
   obtain ⟨_, hcl, hat⟩ := World.cells?_some h1
   obtain ⟨z, rfl⟩ := link_cells h2 hcl
   exact ⟨z, fun j hj => by rw [← Go.Deep.add_add, hat j hj]⟩
  letI : Inhabited Link := ⟨⟨0, 0, 0, 0, 0⟩⟩
  obtain ⟨Z, hZ⟩ := choose_lt hn
  refine ⟨some a, len, m, (List.range len).map Z, e, hl, by omega, hm, by rw [flat_len]; simp, fun h0 => ⟨a, rfl, ?_, fun j u hu => ?_⟩⟩
  ·have := World.block_lt_of_cell? w _ (hZ 0 (by omega) 0 (by omega))
   rwa [block_of_add] at this
  ·have hj : j < len * 5 := by
    rcases Nat.lt_or_ge j (len * 5) with h' | h'
    ·exact h'
    ·rw [List.getElem?_eq_none (by rw [flat_len]; simpa using h')] at hu; cases hu
   have hz := hZ (j / 5) (by omega) (j % 5) (by omega)
   have ha : ((List.range len).map Z)[j / 5]? = some (Z (j / 5)) := by rw [List.getElem?_map, List.getElem?_range (by omega)]; rfl
   have hf := flat_at ha (show j % 5 < 5 by omega)
   rw [show j / 5 * 5 + j % 5 = j by omega] at hf hz
   rw [hz, ← hf, hu]

/-- A town, by value. -/
theorem town_open {r : Reach} {b0 : Nat} {v : Value} {d : DataW H} {p : List MemPlace} (hv : Value.okWide Tryz.prog w r b0 25 v) (h : DataW.Trod enc Tryz.prog w 0 (fun _ => true) true 25 v d p) :
  ∃ A n c A' m d' t, v = .agg #[.slice A n c, .slice A' m d'] ∧ n ≤ maxLen ∧ m ≤ maxLen ∧ n ≤ c ∧ m ≤ d' ∧ TownAt w w.heap.size A n A' m t := by
 obtain ⟨v0, v1, y0, y1, k, rfl, _, _, h0, h1⟩ := open_agg2 Tryz.underlying25 (by kernel_rfl) cellsTown2 hv h
 obtain ⟨A, n, c, l, rfl, hn, hx, _, hr⟩ := ints_open h0
 obtain ⟨A', m, d', l', rfl, hm, hx', _, hr'⟩ := links_open h1
 exact ⟨A, n, c, A', m, d', ⟨l, l'⟩, rfl, hx, hx', hn, hm, ⟨hr, hr'⟩⟩
end

end Go.Proofs.YtahkjagjcogeiaaGreatDoor
/- The laws' arguments, opened: skins and gaits. What every row's proof wants. -/
namespace Go.Proofs.YtahkjagjcogeiaaGreatDoor
open Go.ChangeShapes Go.WideShapes Go.RowKit Go.Deep Go.Joins
set_option maxRecDepth 100000
theorem ownT' : ownKnob Tryz.prog.godebug = none := by kernel_rfl
theorem laidOutT' : laidOutB Tryz.prog = true := by kernel_rfl
section
variable {H : Type} {enc : TypeId × Value → H} {w : World}
theorem spanUnd : ∃ f0 f1, Tryz.prog.underlying 63 = some (.struct #[f0, f1]) ∧ f0.type = 3 ∧ f1.type = 3 ∧ f0.offset = 0 ∧ f1.offset = 1 := ⟨_, _, Tryz.underlying63, rfl, rfl, rfl, rfl⟩
theorem skinUnd : ∃ f0 f1 f2, Tryz.prog.underlying 65 = some (.struct #[f0, f1, f2]) ∧ f0.type = 3 ∧ f1.type = 63 ∧ f2.type = 63 ∧ f0.offset = 0 ∧ f1.offset = 1 ∧ f2.offset = 3 := ⟨_, _, _, Tryz.underlying65, rfl, rfl, rfl, rfl, rfl, rfl⟩
theorem gaitUnd : ∃ f0 f1, Tryz.prog.underlying 73 = some (.struct #[f0, f1]) ∧ f0.type = 63 ∧ f1.type = 63 ∧ f0.offset = 0 ∧ f1.offset = 2 := ⟨_, _, Tryz.underlying73, rfl, rfl, rfl, rfl⟩
theorem cellsSpan : Tryz.prog.cellsOf 63 = 2 := by kernel_rfl
theorem cellsSkin : Tryz.prog.cellsOf 65 = 5 := by kernel_rfl
theorem cellsGait : Tryz.prog.cellsOf 73 = 4 := by kernel_rfl
theorem span_cells {fuel : Nat} {cs : List Value} {x : DataW H × List MemPlace} (h : DataW.trod enc Tryz.prog w 0 (fun _ => true) true fuel 63 cs = some x) (hl : cs.length = 2) : ∃ s : Span, cs = s.vals := by
 obtain ⟨f0, f1, hu, t0, t1, z0, z1⟩ := spanUnd
 obtain ⟨xs, n, _, _, _, hlen, hg⟩ := DataW.trod_struct hu h
 match cs, hl, xs, hlen with
 | [c0, c1], _, [y0, y1], _ =>
  have h0 : DataW.trod enc Tryz.prog w 0 (fun _ => true) true n 3 [c0] = some y0 := by simpa [t0, z0, cellsInt1] using hg 0 f0 rfl
  have h1 : DataW.trod enc Tryz.prog w 0 (fun _ => true) true n 3 [c1] = some y1 := by simpa [t1, z1, cellsInt1] using hg 1 f1 rfl
  obtain ⟨n0, e0, _, _⟩ := DataW.trod_int Tryz.underlying3 h0
  obtain ⟨n1, e1, _, _⟩ := DataW.trod_int Tryz.underlying3 h1
  simp only [List.cons.injEq, and_true] at e0 e1
  subst e0 e1
  exact ⟨⟨n0, n1⟩, rfl⟩
theorem skinArg_open {r : Reach} {b0 : Nat} {v : Value} {d : DataW H} {p : List MemPlace} (hv : Value.okWide Tryz.prog w r b0 65 v) (h : DataW.Trod enc Tryz.prog w 0 (fun _ => true) true 65 v d p) :
  ∃ s : Skin, v = .agg #[.int .i64 s.drops, .int .i64 s.pace.lo, .int .i64 s.pace.hi, .int .i64 s.step.lo, .int .i64 s.step.hi] := by
 obtain ⟨f0, f1, f2, hu, t0, t1, t2, z0, z1, z2⟩ := skinUnd
 obtain ⟨cs, rfl, hsz⟩ := okWide_struct hu hv
 obtain ⟨fuel, hf⟩ := h
 obtain ⟨l⟩ := cs
 obtain ⟨xs, n, _, _, _, hlen, hg⟩ := DataW.trod_struct hu hf
 rw [cellsSkin] at hsz
 match l, hsz, xs, hlen with
 | [c0, c1, c2, c3, c4], _, [y0, y1, y2], _ =>
  have h0 : DataW.trod enc Tryz.prog w 0 (fun _ => true) true n 3 [c0] = some y0 := by simpa [t0, z0, cellsInt1, Value.cells] using hg 0 f0 rfl
  have h1 : DataW.trod enc Tryz.prog w 0 (fun _ => true) true n 63 [c1, c2] = some y1 := by simpa [t1, z1, cellsSpan, Value.cells] using hg 1 f1 rfl
  have h2 : DataW.trod enc Tryz.prog w 0 (fun _ => true) true n 63 [c3, c4] = some y2 := by simpa [t2, z2, cellsSpan, Value.cells] using hg 2 f2 rfl
  obtain ⟨n0, e0, _, _⟩ := DataW.trod_int Tryz.underlying3 h0
  obtain ⟨s1, e1⟩ := span_cells h1 rfl
  obtain ⟨s2, e2⟩ := span_cells h2 rfl
  simp only [Span.vals, List.cons.injEq, and_true] at e0 e1 e2
  obtain ⟨rfl, rfl⟩ := e1
  obtain ⟨rfl, rfl⟩ := e2
  subst e0
  exact ⟨⟨n0, s1, s2⟩, rfl⟩
theorem gaitArg_open {r : Reach} {b0 : Nat} {v : Value} {d : DataW H} {p : List MemPlace} (hv : Value.okWide Tryz.prog w r b0 73 v) (h : DataW.Trod enc Tryz.prog w 0 (fun _ => true) true 73 v d p) :
  ∃ s : Gait, v = .agg #[.int .i64 s.pace.lo, .int .i64 s.pace.hi, .int .i64 s.step.lo, .int .i64 s.step.hi] := by
 obtain ⟨f0, f1, hu, t0, t1, z0, z1⟩ := gaitUnd
 obtain ⟨cs, rfl, hsz⟩ := okWide_struct hu hv
 obtain ⟨fuel, hf⟩ := h
 obtain ⟨l⟩ := cs
 obtain ⟨xs, n, _, _, _, hlen, hg⟩ := DataW.trod_struct hu hf
 rw [cellsGait] at hsz
 match l, hsz, xs, hlen with
 | [c1, c2, c3, c4], _, [y1, y2], _ =>
  have h1 : DataW.trod enc Tryz.prog w 0 (fun _ => true) true n 63 [c1, c2] = some y1 := by simpa [t0, z0, cellsSpan, Value.cells] using hg 0 f0 rfl
  have h2 : DataW.trod enc Tryz.prog w 0 (fun _ => true) true n 63 [c3, c4] = some y2 := by simpa [t1, z1, cellsSpan, Value.cells] using hg 1 f1 rfl
  obtain ⟨s1, e1⟩ := span_cells h1 rfl
  obtain ⟨s2, e2⟩ := span_cells h2 rfl
  simp only [Span.vals, List.cons.injEq, and_true] at e1 e2
  obtain ⟨rfl, rfl⟩ := e1
  obtain ⟨rfl, rfl⟩ := e2
  exact ⟨⟨s1, s2⟩, rfl⟩
end
end Go.Proofs.YtahkjagjcogeiaaGreatDoor
/- A law's arguments opened: bytes, and lists of bytes. -/
namespace Go.Proofs.YtahkjagjcogeiaaGreatDoor
open Go.ChangeShapes Go.WideShapes Go.RowKit Go.Deep Go.Joins
set_option maxRecDepth 100000
section
variable {H : Type} {enc : TypeId × Value → H} {w : World}
theorem u8_wf {z : Int} (h : (Lit.int .u8 z).wf = true) : 0 ≤ z ∧ z ≤ 255 := by
 simp [Lit.wf] at h
 have h1 : IntKind.u8.min = 0 := rfl
 have h2 : IntKind.u8.max = 255 := rfl
 omega
theorem u8_open {v : Value} {d : DataW H} {p : List MemPlace} (h : DataW.Trod enc Tryz.prog w 0 (fun _ => true) true 5 v d p) (hv : ∃ z : Int, v = .int .u8 z) : ∃ x : Nat, v = .int .u8 (x : Nat) ∧ x ≤ 255 := by
 obtain ⟨z, rfl⟩ := hv
 obtain ⟨fuel, hf⟩ := h
 obtain ⟨n, e, _, hw⟩ := DataW.trod_int Tryz.underlying5 hf
 have e' : n = z := by simpa [Value.cells] using e.symm
 subst e'
 have hb := u8_wf hw
 obtain ⟨k, rfl⟩ := Int.eq_ofNat_of_zero_le hb.1
 exact ⟨k, rfl, by omega⟩
theorem cellsU81 : Tryz.prog.cellsOf 5 = 1 := by kernel_rfl
theorem bytes_open {v : Value} {fuel : Nat} {x : DataW H × List MemPlace} (h : DataW.trod enc Tryz.prog w 0 (fun _ => true) true fuel 26 [v] = some x) :
  ∃ A n c l, v = .slice A n c ∧ n ≤ c ∧ n ≤ maxLen ∧ c ≤ maxLen ∧ BytesAt w w.heap.size A n l := by
 rcases open_slice1 Tryz.underlying26 cellsU81 h with ⟨e, _⟩ | ⟨a, len, cap, m, k, V, D, Pl, e, _, hl, hm, hmm, _, hx⟩
 ·simp only [List.cons.injEq, and_true] at e
  exact ⟨none, 0, 0, [], e, Nat.le_refl _, Nat.zero_le _, Nat.zero_le _, Reads.none_, by simp⟩
 ·simp only [List.cons.injEq, and_true] at e
  have hmc : m = cap := by simpa using hmm
  subst hmc
  have hn : ∀ i, i < m → ∃ z : Nat, V i = .int .u8 (z : Nat) ∧ z ≤ 255 := fun i hi => by
   obtain ⟨z, f0, _, hw⟩ := DataW.trod_int Tryz.underlying5 (hx i hi).2
   simp only [List.cons.injEq, and_true] at f0
   have hb := u8_wf hw
   obtain ⟨k, rfl⟩ := Int.eq_ofNat_of_zero_le hb.1
   exact ⟨k, f0, by omega⟩
  obtain ⟨Z, hZ⟩ := choose_lt hn
  refine ⟨some a, len, m, (List.range len).map Z, e, hl, by omega, hm, ⟨by simp, fun h0 => ⟨a, rfl, ?_, fun j u hu => ?_⟩⟩, fun b hb => ?_⟩
  ·have := World.block_lt_of_cell? w _ (hx 0 (by omega)).1
   rwa [block_of_add] at this
  ·simp only [List.getElem?_map, Option.map_map] at hu
   have hj : j < len := by
    rcases Nat.lt_or_ge j len with h' | h'
    ·exact h'
    ·rw [List.getElem?_eq_none (by simpa using h')] at hu; cases hu
   rw [List.getElem?_range hj] at hu
   simp only [Option.map_some, Option.some.injEq, Function.comp] at hu
   rw [(hx j (by omega)).1, (hZ j (by omega)).1, ← hu]
  ·obtain ⟨j, hj, rfl⟩ := List.mem_map.1 hb
   exact (hZ j (by have := List.mem_range.1 hj; omega)).2
end
end Go.Proofs.YtahkjagjcogeiaaGreatDoor
/- ClimbSums: whatever the arguments, the law answers true. The row, and the card. -/
namespace Go.Proofs.YtahkjagjcogeiaaGreatDoor
open Go.ChangeShapes Go.WideShapes Go.ChangeAt Go.RowKit Go.Joins

set_option maxRecDepth 100000 in
theorem zsums_lifted (os : Os) (started : os.Started) (H : Type) (enc : TypeId × Value → H) :
  ReturnsInHanded {} Tryz.checked os 9 .any (fun w args => (Rows.climbSumsSpec.pre enc Tryz.prog Tryz.f9 [] false w args ∧ laidMetH Tryz.prog laidL w) ∧ sizedMet enc Tryz.prog Tryz.f9 (OpenSpec.ofChange Rows.climbSumsSpec) false w args)
   (Rows.climbSumsSpec.post enc Tryz.prog Tryz.f9 false true false false) := by
 refine returnsInHanded_of_change_and (C := Tryz.checked) (X := fun w _ => laidMetH Tryz.prog laidL w) (fun _ _ _ hh h => h.of_heap hh) ownT' started (by kernel_rfl) Tryz.func9
  (ChangeSpec.witness_shaped (enc := enc) (C := Tryz.checked) (os := os) (X := fun w _ => laidMetH Tryz.prog laidL w) false (World.doorLaid Tryz.prog 800 os) #[.agg #[.slice none 0 0, .slice none 0 0], .int .u8 0, .slice none 0 0, .slice none 0 0, .agg #[.int .i64 0, .int .i64 0, .int .i64 0, .int .i64 0, .int .i64 0], .agg #[.int .i64 0, .int .i64 0, .int .i64 0, .int .i64 0]] 8 rfl (World.shaped_of_RefB (by kernel_rfl) (by kernel_rfl)) (by kernel_rfl) (by kernel_rfl) (by kernel_rfl) (door_met os _)) ?_
 intro W base args ds gs before hval0 hW _ _ hL _
 have hval : ∀ (j : Nat) t v, Tryz.f9.params[j]? = some t → args[j]? = some v → Value.okWide Tryz.prog W .any base t v := hval0
 have hW' := hW
 obtain ⟨p, q, hA0, hV, rfl, hfz, hnd⟩ := hW
 have hA : DataW.TrodAll enc Tryz.prog W 0 (fun _ => true) true Tryz.f9.params.toList args.toList ds p := hA0
 rw [Tryz.params9] at hA hval
 obtain ⟨v0, vs0, d0, ds0, p0, q0, hargs, rfl, rfl, h0, r0⟩ := trodAll_cons hA
 obtain ⟨v1, vs1, d1, ds1, p1, q1, rfl, rfl, rfl, h1, r1⟩ := trodAll_cons r0
 obtain ⟨v2, vs2, d2, ds2, p2, q2, rfl, rfl, rfl, h2, r2⟩ := trodAll_cons r1
 obtain ⟨v3, vs3, d3, ds3, p3, q3, rfl, rfl, rfl, h3, r3⟩ := trodAll_cons r2
 obtain ⟨v4, vs4, d4, ds4, p4, q4, rfl, rfl, rfl, h4, r4⟩ := trodAll_cons r3
 obtain ⟨v5, vs5, d5, ds5, p5, q5, rfl, rfl, rfl, h5, r5⟩ := trodAll_cons r4
 obtain ⟨rfl, rfl, rfl⟩ := trodAll_nil r5
 obtain rfl : args = #[v0, v1, v2, v3, v4, v5] := by cases args; simp_all
 obtain ⟨rfl, rfl⟩ := trodVars_none hV
 have lt0 : ∀ x ∈ p0, x.block < W.heap.size := by obtain ⟨m, hm⟩ := h0; exact DataW.trod_lt m _ _ _ hm
 have lt1 : ∀ x ∈ p1, x.block < W.heap.size := by obtain ⟨m, hm⟩ := h1; exact DataW.trod_lt m _ _ _ hm
 have lt2 : ∀ x ∈ p2, x.block < W.heap.size := by obtain ⟨m, hm⟩ := h2; exact DataW.trod_lt m _ _ _ hm
 have lt3 : ∀ x ∈ p3, x.block < W.heap.size := by obtain ⟨m, hm⟩ := h3; exact DataW.trod_lt m _ _ _ hm
 have lt4 : ∀ x ∈ p4, x.block < W.heap.size := by obtain ⟨m, hm⟩ := h4; exact DataW.trod_lt m _ _ _ hm
 have lt5 : ∀ x ∈ p5, x.block < W.heap.size := by obtain ⟨m, hm⟩ := h5; exact DataW.trod_lt m _ _ _ hm
 have hl := of_laid hL
 obtain ⟨A, n, c, A', m, d, t, e0, hn, hm, hnc, hmd, ht⟩ := town_open (hval 0 25 v0 rfl rfl) h0
 obtain ⟨s1, e1, hb1⟩ := u8_open h1 (okWide_int Tryz.underlying5 (hval 1 5 v1 rfl rfl))
 obtain ⟨A2x2, k2x2, c2x2, e2⟩ := okWide_slice Tryz.underlying26 (hval 2 26 v2 rfl rfl)
 have hh2 := h2
 obtain ⟨fu2, hf2⟩ := hh2
 rw [e2, show (Value.slice A2x2 k2x2 c2x2).cells = #[.slice A2x2 k2x2 c2x2] from rfl] at hf2
 obtain ⟨B2, j2, b2, l2, e2', hcc2, hk2, _, hr2⟩ := bytes_open hf2
 rw [← e2] at e2'
 clear e2 hf2
 obtain ⟨A2x3, k2x3, c2x3, e3⟩ := okWide_slice Tryz.underlying26 (hval 3 26 v3 rfl rfl)
 have hh3 := h3
 obtain ⟨fu3, hf3⟩ := hh3
 rw [e3, show (Value.slice A2x3 k2x3 c2x3).cells = #[.slice A2x3 k2x3 c2x3] from rfl] at hf3
 obtain ⟨B3, j3, b3, l3, e3', hcc3, hk3, _, hr3⟩ := bytes_open hf3
 rw [← e3] at e3'
 clear e3 hf3
 obtain ⟨s4, e4⟩ := skinArg_open (hval 4 65 v4 rfl rfl) h4
 obtain ⟨s5, e5⟩ := gaitArg_open (hval 5 73 v5 rfl rfl) h5
 clear hA0 hval0 hval
 subst e0 e1 e2' e3' e4 e5
 refine (zsums_walk A n c A' m d t s1 B2 j2 b2 l2 B3 j3 b3 l3 s4 s5 W hn hm hb1 hk2 hcc2 hk3 hcc3 ht hr2 hr3 hl).mono fun e W' ⟨he, bel⟩ => ?_
 subst he
 exact ⟨_, rfl, _, _, _, [], _, [], hW', trodAll_mk1 (shut_bool Tryz.underlying4 _), (trodAll_cons_mk (Below.trod laidOutT' (by kernel_rfl) (of_decide_eq_true (by kernel_rfl)) h0 bel lt0) (trodAll_cons_mk (Below.trod laidOutT' (by kernel_rfl) (of_decide_eq_true (by kernel_rfl)) h1 bel lt1) (trodAll_cons_mk (Below.trod laidOutT' (by kernel_rfl) (of_decide_eq_true (by kernel_rfl)) h2 bel lt2) (trodAll_cons_mk (Below.trod laidOutT' (by kernel_rfl) (of_decide_eq_true (by kernel_rfl)) h3 bel lt3) (trodAll_cons_mk (Below.trod laidOutT' (by kernel_rfl) (of_decide_eq_true (by kernel_rfl)) h4 bel lt4) (trodAll_cons_mk (Below.trod laidOutT' (by kernel_rfl) (of_decide_eq_true (by kernel_rfl)) h5 bel lt5) trodAll_mk0)))))), rfl, bel.frame _, fun h => by cases h⟩

theorem zsums_holds : Rows.ClimbSumsSaid :=
 OpenClaim.holds_of_wide 9 Tryz.f9 rfl rfl rfl rfl rfl rfl rfl ⟨rfl, rfl, rfl, rfl, rfl⟩ rfl rfl rfl rfl rfl (by kernel_rfl) Tryz.func9 (by kernel_rfl)
  (of_decide_eq_true (by kernel_rfl)) (by unfold Func.isWrapper; first | (rw [if_pos (by decide +kernel)]; kernel_rfl) | (rw [if_neg (by decide +kernel)]; exact ⟨rfl, rfl⟩))
  (fun os started H enc _ => zsums_lifted os started H enc)

theorem zsums_card : Rows.ClimbSumsCardSaid :=
 Claim7.holds_tied_plain_at .later [] [.funcs] true (true, "67de833af213194507c31c05b7184ea255bc0890cd487a2a5aea99d39e4477e7") false
  zsums_holds (fun _ h => by cases h) (by kernel_rfl) (fun _ h => by cases h) climbSums_row_tie rfl ⟨rfl, rfl⟩ (by kernel_rfl) rfl
  (fun f fn hf hfn => by
   obtain rfl : f = 9 := Option.some.inj ((show Tryz.prog.funcNamed "aguador/aguadorlaw03.ClimbSums" = some 9 by kernel_rfl).symm.trans hf) |>.symm
   obtain rfl : fn = Tryz.f9 := (Option.some.inj (Tryz.func9.symm.trans hfn)).symm
   exact ⟨by kernel_rfl, fun j t ht => by
    rw [Tryz.params9] at ht
    have hm : t ∈ [25, 5, 26, 26, 65, 73] := by simpa using Array.mem_of_getElem? ht
    have hall : ([25, 5, 26, 26, 65, 73].all fun u => !Tryz.prog.wantsStandIn u) = true := by kernel_rfl
    exact (show Tryz.prog.wantsStandIn t = false by simpa using List.all_eq_true.1 hall t hm)⟩)
  (by kernel_rfl)
#print axioms zsums_card
end Go.Proofs.YtahkjagjcogeiaaGreatDoor
