/- Part 11 of the texts of this claim, joined. -/
import Derived.Deep.RegionHeld3
import Derived.Sort.CutIn
import Derived.Deep.Cut
import Derived.Laws.MakeOwn
import Derived.Test.YtahkjagjcogeiaaGreatDoorZxNeed10
set_option linter.unusedVariables false
/- The law's stroll: by links, by numbers. -/
namespace Go.Proofs.YtahkjagjcogeiaaGreatDoor
section
open Go.RowKit
theorem step_append_any {P : Program} {w : World} {ops : Array Oper} {o : Oper} {a : Act} {K : Act → World → Prop} {Q : Exit → Act → World → Prop} {E : Prop} (hgd : o.guard = none) (s x : Operand) {t e : TypeId}
  (ho : o.op = .call { callee := .builtin .append, args := #[s, x], argTypes := #[t, t] })
  {z : Value} {size bytes : Nat} (EE : ElemAt P t e z size bytes) {base : Nat} {A : Option Addr} {n cap : Nat} {xs : List Value} (hs : a.eval s = .slice A n cap) (hown : Own w base e size A n cap xs)
  {A2 : Option Addr} {m c B : Nat} {news : List Value} (hx : a.eval x = .slice A2 m c) (hR : Reads w B size A2 m news) (h1 : ∀ u ∈ news, u.oneCell' = true) (h63 : n + m ≤ maxLen) (hbytes : (n + m) * bytes ≤ 140737488355328) (hbase : base ≤ w.heap.size)
  (h : ∀ A' cap' w', Own w' base e size A' (n + m) cap' (xs ++ news) → w.grownBy w' (A.map (·.block)) → K (a.put o.dst (.slice A' (n + m) cap')) w') :
  if Region.wanted o (yielded ops a.tmps) = true then Oper.wp P o a w K Q else E := by
 have hw : Region.wanted o (yielded ops a.tmps) = true := by simp [Region.wanted, hgd]
 rw [if_pos hw]
 obtain ⟨A', cap', w', hr, h2, h3, h4⟩ := run_append_any (P := P) w o.type EE hown hR (c := c) h1 h63 hbytes hbase
 unfold Oper.wp execOp
 simp only [ho, resolve, invoke, builtin, Sem.run_bind, Sem.run_pure, Result.andThen_ok, List.map_toArray, List.map_cons, List.map_nil, hs, hx, hr]
 exact h A' cap' w' h2 h3
theorem own_set7 {w : World} {base size n cap g : Nat} {e : TypeId} {A : Option Addr} {xs : List Value} (h : Own w base e size A n cap xs) (hg : g < base) (v0 v1 v2 v3 v4 v5 v6 : Value) :
  Own (((((((w.setCell ⟨g, 0, none⟩ v0).setCell ⟨g, 1, none⟩ v1).setCell ⟨g, 2, none⟩ v2).setCell ⟨g, 3, none⟩ v3).setCell ⟨g, 4, none⟩ v4).setCell ⟨g, 5, none⟩ v5).setCell ⟨g, 6, none⟩ v6) base e size A n cap xs :=
 h.grown (grown_setCell (grown_setCell (grown_setCell (grown_setCell (grown_setCell (grown_setCell (grown_setCell (grown_refl w (some g)) (p := ⟨g, 0, none⟩) (.inl rfl) v0) (p := ⟨g, 1, none⟩) (.inl rfl) v1) (p := ⟨g, 2, none⟩) (.inl rfl) v2) (p := ⟨g, 3, none⟩) (.inl rfl) v3) (p := ⟨g, 4, none⟩) (.inl rfl) v4) (p := ⟨g, 5, none⟩) (.inl rfl) v5) (p := ⟨g, 6, none⟩) (.inl rfl) v6)
  (fun a ha e => by have := (h.lt ha).1; have := Option.some.inj e; omega)
theorem Lay.grown_own {w W W' : World} {B : Nat} {row : Option Nat} {t0 t1 t2 : TypeId} {c0 c1 c2 : Array Value} (h : Lay w W [(w.heap.size, t0, c0), (w.heap.size + 1, t1, c1), (w.heap.size + 1 + 1, t2, c2)]) (hg : W.grownBy W' row) (hr : ∀ j, row = some j → B ≤ j) (hB : w.heap.size + 1 + 1 < B) : Lay w W' [(w.heap.size, t0, c0), (w.heap.size + 1, t1, c1), (w.heap.size + 1 + 1, t2, c2)] :=
 lay3 (h.1.grown hg h.1.size (fun j hj => by have := hr j hj; omega)) (Nat.le_refl _) ((h.blk 0 rfl).grown hg (fun e => by have := hr _ e.symm; omega)) ((h.blk 1 rfl).grown hg (fun e => by have := hr _ e.symm; omega)) ((h.blk 2 rfl).grown hg (fun e => by have := hr _ e.symm; omega))
def StrollOut (w : World) (t : Town) (dk : Bool) (u : Int) (n : Nat) (e : Ending) (w' : World) : Prop :=
 ∃ (g : Gone) (l : List Int) (B : Option Addr) (q : Nat), e = .returned (.tuple #[g.val, .slice B l.length q]) ∧ Strolled t dk u n g l ∧ IntsAt w' w'.heap.size B l.length l ∧ Below w.heap.size w w' ∧ l.length ≤ q
set_option maxRecDepth 100000 in
set_option maxHeartbeats 8000000 in
theorem stroll_any (A : Option Addr) (n c : Nat) (A' : Option Addr) (m d : Nat) (t : Town) (u v : Int) (dk : Bool) (A2 : Option Addr) (n2 c2 : Nat) (l : List Nat) (w : World) (hm : m ≤ 20) (hk : n2 ≤ maxLen) (ht : LinksAt w w.heap.size A' m t.links) (hf : Fine t) (hr : BytesAt w w.heap.size A2 n2 l) :
  Calls Tryz.prog 19 #[.agg #[.slice A n c, .slice A' m d], .int .i64 u, .int .i64 v, .bool dk, .slice A2 n2 c2] w (StrollOut w t dk u n2) := by
 unfold maxLen at hk
 have HT := lh ht
 have HR := lh hr
 have HF := lh hf
 have HLm := lh ht.len
 clear ht hr hf
 have Ly := lh (Lay.three w 25 #[.slice A n c, .slice A' m d] 39 #[.int .i64 0, .int .i64 0, .int .i64 0, .int .i64 0, .int .i64 0, .int .i64 0, .int .i64 0] 39 #[.int .i64 u, .int .i64 0, .int .i64 0, .int .i64 0, .int .i64 0, .int .i64 0, .int .i64 0])
 go_enter Tryz.func19, Tryz.ntmps19
 go_upto_region 3 with fail
 generalize (((w.alloc (.cells #[.slice A n c, .slice A' m d] 25)).alloc (.cells #[.int .i64 0, .int .i64 0, .int .i64 0, .int .i64 0, .int .i64 0, .int .i64 0, .int .i64 0] 39)).alloc (.cells #[.int .i64 u, .int .i64 0, .int .i64 0, .int .i64 0, .int .i64 0, .int .i64 0, .int .i64 0] 39)) = w0 at *
 have HW0 : Hid (w.heap.size + 1 + 1 < w0.heap.size) := lh (Ly.out.lt 2 rfl)
 go_wp2_with fail
 go_loopw [13, 24] (fun v13 v24 wr => ∃ (k q : Nat) (B : Option Addr) (g : Gone) (ls : List Int), k ≤ n2 ∧ v24 = .int .i64 k ∧ v13 = .slice B ls.length q ∧ ls.length ≤ 40 ∧ Hid (Lay w wr [(w.heap.size, 25, #[.slice A n c, .slice A' m d]), (w.heap.size + 1, 39, #[.int .i64 0, .int .i64 0, .int .i64 0, .int .i64 0, .int .i64 0, .int .i64 0, .int .i64 0]), (w.heap.size + 1 + 1, 39, g.vals)] ∧ Own wr w0.heap.size 3 1 B ls.length q (ls.map (Value.int .i64)) ∧ w0.heap.size ≤ wr.heap.size ∧ GW t dk (startG u) ls g ∧ ls.length ≤ k))
  (fun _ vi _ => n2 - (intOf vi).toNat)
 case atStart => exact ⟨0, 0, none, startG u, [], by omega, rfl, rfl, by simp, lh ⟨Ly.out, Own.none_ _ _ _ _, Nat.le_refl _, .nil _, by simp⟩⟩
 case round =>
  obtain ⟨k, q, B, g, ls, hkk, rfl, rfl, h40, HS⟩ := hrel
  by_cases hlt : k < n2
  ·obtain ⟨b1, o1, x, rfl, hb1, hx, cx, hx255⟩ := (HR.out.below HS.out.1.1).cell hlt
   have y0 := (HS.out.1.blk 0 rfl).cell 0
   have y1 := (HS.out.1.blk 0 rfl).cell 1
   have ly := HS.out.1.lt 0 rfl
   have g0 := (HS.out.1.blk 2 rfl).cell 0
   have lg := HS.out.1.lt 2 rfl
   clear hx hb1
   by_cases hstop : g.at_ = v ∨ m = 0 ∨ ls.length = 40
   ·have hst3 : (((g.at_ == v) = true) ∨ ((g.at_ == v) = false ∧ ((((m : Nat) : Int) == 0) = true ∨ ((((m : Nat) : Int) == 0) = false ∧ (((ls.length : Nat) : Int) == 40) = true)))) := by
     by_cases e1 : g.at_ = v
     ·exact .inl (by simpa using e1)
     ·refine .inr ⟨by simpa using e1, ?_⟩
      by_cases e2 : m = 0
      ·exact .inl (by simp; omega)
      ·refine .inr ⟨by simp; omega, ?_⟩
       rcases hstop with h | h | h
       ·exact absurd h e1
       ·exact absurd h e2
       ·simp; omega
    clear hstop g0 lg
    rcases hst3 with e1 | ⟨e1, e2 | ⟨e2, e3⟩⟩
    all_goals
     have ga0 := (HS.out.1.blk 2 rfl).cell 0
     have ga1 := (HS.out.1.blk 2 rfl).cell 1
     have ga2 := (HS.out.1.blk 2 rfl).cell 2
     have ga3 := (HS.out.1.blk 2 rfl).cell 3
     have ga4 := (HS.out.1.blk 2 rfl).cell 4
     have ga5 := (HS.out.1.blk 2 rfl).cell 5
     have ga6 := (HS.out.1.blk 2 rfl).cell 6
     have oa0 := (HS.out.1.blk 1 rfl).cell 0
     have oz0 := (HS.out.1.blk 1 rfl).frozen 0
     have oa1 := (HS.out.1.blk 1 rfl).cell 1
     have oz1 := (HS.out.1.blk 1 rfl).frozen 1
     have oa2 := (HS.out.1.blk 1 rfl).cell 2
     have oz2 := (HS.out.1.blk 1 rfl).frozen 2
     have oa3 := (HS.out.1.blk 1 rfl).cell 3
     have oz3 := (HS.out.1.blk 1 rfl).frozen 3
     have oa4 := (HS.out.1.blk 1 rfl).cell 4
     have oz4 := (HS.out.1.blk 1 rfl).frozen 4
     have oa5 := (HS.out.1.blk 1 rfl).cell 5
     have oz5 := (HS.out.1.blk 1 rfl).frozen 5
     have oa6 := (HS.out.1.blk 1 rfl).cell 6
     have oz6 := (HS.out.1.blk 1 rfl).frozen 6
     have gal := HS.out.1.lt 2 rfl
     have oal := HS.out.1.lt 1 rfl
     go_wp2_with fail
     have R1 := ret7 (HS.out.1.blk 1 rfl) HS.out.1.1 (by omega) (.int .i64 g.at_) (.int .i64 g.up) (.int .i64 g.paces) (.int .i64 g.paces) (.int .i64 g.up) (.int .i64 g.steps) (.int .i64 g.longer)
     have HO9 := lh (own_set7 HS.out.2.1 (show w.heap.size + 1 < w0.heap.size by have := HW0.out; omega) (.int .i64 g.at_) (.int .i64 g.up) (.int .i64 g.paces) (.int .i64 g.paces) (.int .i64 g.up) (.int .i64 g.steps) (.int .i64 g.longer))
     have r0 := R1.1.cell 0
     have r1 := R1.1.cell 1
     have r2 := R1.1.cell 2
     have r3 := R1.1.cell 3
     have r4 := R1.1.cell 4
     have r5 := R1.1.cell 5
     have r6 := R1.1.cell 6
     refine bodyPost_ret (v := .tuple #[g.val, .slice B ls.length q]) (by simp [results, Tryz.results19, go_sem, r0, r1, r2, r3, r4, r5, r6]) rfl ⟨g, ls, B, q, rfl, ⟨HS.out.2.2.2.1, h40, by have := HS.out.2.2.2.2; omega⟩, ints_of_own HO9.out (Nat.le_refl _), R1.2, HO9.out.cap_le.1⟩
   ·simp only [not_or] at hstop
    obtain ⟨hs1, hs2, hs3⟩ := hstop
    have hs1' : (g.at_ == v) = false := by simpa using hs1
    have hs2' : (((m : Nat) : Int) == 0) = false := by simp; omega
    have hs3' : (((ls.length : Nat) : Int) == 40) = false := by simp; omega
    have hm0 : 0 < m := by omega
    have h39 : ls.length ≤ 39 := by omega
    clear hs1 hs2 hs3
    go_wp2_with fail
    clear y0 y1 ly g0 lg cx hs1' hs2' hs3'
    go_loopw [13, 46] (fun v13 v46 wr2 => ∃ (j : Nat), j ≤ m ∧ v46 = .int .i64 j ∧ v13 = .slice B ls.length q ∧ Hid (Lay w wr2 [(w.heap.size, 25, #[.slice A n c, .slice A' m d]), (w.heap.size + 1, 39, #[.int .i64 0, .int .i64 0, .int .i64 0, .int .i64 0, .int .i64 0, .int .i64 0, .int .i64 0]), (w.heap.size + 1 + 1, 39, g.vals)] ∧ Own wr2 w0.heap.size 3 1 B ls.length q (ls.map (Value.int .i64)) ∧ w0.heap.size ≤ wr2.heap.size))
     (fun _ vj _ => m - (intOf vj).toNat)
    case atStart => exact ⟨0, by omega, rfl, rfl, lh ⟨HS.out.1, HS.out.2.1, HS.out.2.2.1⟩⟩
    case round =>
     rename World => wr2
     obtain ⟨j, hj, rfl, rfl, HJ⟩ := hrel
     by_cases hjm : j < m
     ·have hrm : (x + j) % m < m := Nat.mod_lt _ hm0
      have HM : Hid (Int.tmod ((x : Int) + (j : Int)) (m : Int) = (((x + j) % m : Nat) : Int)) := lh (by rw [Int.tmod_eq_emod_of_nonneg (by omega)]; push_cast; rfl)
      obtain ⟨r, hrq⟩ : ∃ r, (x + j) % m = r := ⟨_, rfl⟩
      rw [hrq] at HM hrm
      obtain ⟨b2, off2, y, rfl, hb2, hy, h0, h1, h2, h3, h4⟩ := (HT.out.below HJ.out.1.1).cell hrm
      have HY := lh hy
      have hbl2 : b2 < wr2.heap.size := Nat.lt_of_lt_of_le hb2 HJ.out.1.1.size
      clear hy hrq
      have K0 : wr2.drew.cell? ⟨w.heap.size, 1, none⟩ = some (.slice (some ⟨b2, off2, none⟩) m d) ∧ wr2.drew.cell? ⟨b2, off2 + r * 5, none⟩ = some (.int .i64 y.id) ∧ wr2.drew.cell? ⟨b2, off2 + r * 5 + 1, none⟩ = some (.int .i64 y.fr) ∧ wr2.drew.cell? ⟨b2, off2 + r * 5 + 2, none⟩ = some (.int .i64 y.to) ∧ wr2.drew.cell? ⟨b2, off2 + r * 5 + 3, none⟩ = some (.int .i64 y.steps) ∧ wr2.drew.cell? ⟨b2, off2 + r * 5 + 4, none⟩ = some (.int .i64 y.paces) := ⟨(HJ.out.1.blk 0 rfl).cell 1, h0, h1, h2, h3, h4⟩
      have lyt := HJ.out.1.lt 0 rfl
      have KK := lh (fun (W' : World) (hb : Below wr2.heap.size wr2 W') => (show W'.cell? ⟨w.heap.size, 1, none⟩ = some (.slice (some ⟨b2, off2, none⟩) m d) ∧ W'.cell? ⟨b2, off2 + r * 5, none⟩ = some (.int .i64 y.id) ∧ W'.cell? ⟨b2, off2 + r * 5 + 1, none⟩ = some (.int .i64 y.fr) ∧ W'.cell? ⟨b2, off2 + r * 5 + 2, none⟩ = some (.int .i64 y.to) ∧ W'.cell? ⟨b2, off2 + r * 5 + 3, none⟩ = some (.int .i64 y.steps) ∧ W'.cell? ⟨b2, off2 + r * 5 + 4, none⟩ = some (.int .i64 y.paces) from ⟨(hb.cell (p := ⟨w.heap.size, 1, none⟩) (HJ.out.1.lt 0 rfl)).trans ((HJ.out.1.blk 0 rfl).cell 1), (hb.cell (p := ⟨b2, off2 + r * 5, none⟩) hbl2).trans h0, (hb.cell (p := ⟨b2, off2 + r * 5 + 1, none⟩) hbl2).trans h1, (hb.cell (p := ⟨b2, off2 + r * 5 + 2, none⟩) hbl2).trans h2, (hb.cell (p := ⟨b2, off2 + r * 5 + 3, none⟩) hbl2).trans h3, (hb.cell (p := ⟨b2, off2 + r * 5 + 4, none⟩) hbl2).trans h4⟩))
      have r0 : (0 : Int) ≤ (r : Int) := by omega
      have rm : (r : Int) < (m : Int) := by omega
      have wxj : IntKind.i64.wrap ((x : Int) + (j : Int)) = (x : Int) + (j : Int) := IntWalk.i64_in _ (by omega)
      have hm1 : ((m : Nat) : Int) ≠ 0 := by omega
      have htm := HM.out
      have hmn : ¬ m = 0 := by omega
      have hmn2 : (m == 0) = false := by simp; omega
      have wx : IntKind.i64.wrap (x : Int) = (x : Int) := IntWalk.i64_in _ (by omega)
      have hmz : (((m : Nat) : Int) == 0) = false := by simp; omega
      have wrr : IntKind.i64.wrap (r : Int) = (r : Int) := IntWalk.i64_in _ (by omega)
      go_wp2_with fail
      go_region_held3 (fun w' => w'.cell? ⟨w.heap.size, 1, none⟩ = some (.slice (some ⟨b2, off2, none⟩) m d) ∧ w'.cell? ⟨b2, off2 + r * 5, none⟩ = some (.int .i64 y.id) ∧ w'.cell? ⟨b2, off2 + r * 5 + 1, none⟩ = some (.int .i64 y.fr) ∧ w'.cell? ⟨b2, off2 + r * 5 + 2, none⟩ = some (.int .i64 y.to) ∧ w'.cell? ⟨b2, off2 + r * 5 + 3, none⟩ = some (.int .i64 y.steps) ∧ w'.cell? ⟨b2, off2 + r * 5 + 4, none⟩ = some (.int .i64 y.paces))
       (first | with_reducible assumption | exact KK.out _ (below_drewN ((Below.refl wr2.heap.size wr2).alloc (Nat.le_refl _) _) 1) | exact KK.out _ (below_drewN ((((((Below.refl wr2.heap.size wr2).alloc (Nat.le_refl _) _).setCell (Nat.le_refl _) _).setCell (Nat.le_refl _) _).setCell (Nat.le_refl _) _).setCell (Nat.le_refl _) _) 1) | go_keep) (fail)
      have X1 := lh ((Blk.new wr2 52 #[.int .i64 y.id, .int .i64 y.fr, .int .i64 y.to, .int .i64 y.steps, .int .i64 y.paces]).drewN 1)
      have HB3 : Below wr2.heap.size wr2 (wr2.alloc (.cells #[.int .i64 y.id, .int .i64 y.fr, .int .i64 y.to, .int .i64 y.steps, .int .i64 y.paces] 52)).drew := below_drewN ((Below.refl wr2.heap.size wr2).alloc (Nat.le_refl _) _) 1
      have HL3 := lh (HJ.out.1.below HB3)
      have HO3 := lh (HJ.out.2.1.below HB3 (Nat.le_refl _))
      have HZ3 := lh (Nat.le_trans HJ.out.2.2 HB3.size)
      clear HB3 K0 KK h0 h1 h2 h3 h4 wxj wx wrr htm hmn hmn2 hmz hm1 lyt rm r0 hbl2 hb2
      replace X1 := lh (show Blk (wr2.alloc (.cells #[.int .i64 y.id, .int .i64 y.fr, .int .i64 y.to, .int .i64 y.steps, .int .i64 y.paces] 52)).drew wr2.heap.size 52 #[.int .i64 y.id, .int .i64 y.fr, .int .i64 y.to, .int .i64 y.steps, .int .i64 y.paces] from X1.out)
      generalize (wr2.alloc (.cells #[.int .i64 y.id, .int .i64 y.fr, .int .i64 y.to, .int .i64 y.steps, .int .i64 y.paces] 52)).drew = w3 at *
      have HXM := lh (List.mem_of_getElem? HY.out)
      have HIN := lh (show g.In ls.length from by have := HS.out.2.2.2.1.in_ HF.out (startG_in u); rwa [Nat.zero_add] at this)
      have p0 := (HL3.out.blk 2 rfl).cell 0
      have p1 := (HL3.out.blk 2 rfl).cell 1
      have p2 := (HL3.out.blk 2 rfl).cell 2
      have p3 := (HL3.out.blk 2 rfl).cell 3
      have p4 := (HL3.out.blk 2 rfl).cell 4
      have p5 := (HL3.out.blk 2 rfl).cell 5
      have p6 := (HL3.out.blk 2 rfl).cell 6
      have pl := HL3.out.lt 2 rfl
      have x0 := X1.out.cell 0
      have x1 := X1.out.cell 1
      have x2 := X1.out.cell 2
      have x3 := X1.out.cell 3
      have x4 := X1.out.cell 4
      have xl := X1.out.lt
      go_wp2_with fail
      refine (goes_any g y dk ls.length w3 HIN.out (by omega) (HF.out.steps y HXM.out) (HF.out.paces y HXM.out)).mono ?_
      rintro e w4 ⟨rfl, hb4⟩
      have HL4 := lh (HL3.out.below hb4)
      have HO4 := lh (HO3.out.below hb4 (Nat.le_refl _))
      have HZ4 := lh (Nat.le_trans HZ3.out hb4.size)
      have X4 := lh (X1.out.below hb4 X1.out.lt)
      clear hb4 X1 HL3 HO3 HZ3 x0 x1 x2 x3 x4 xl p0 p1 p2 p3 p4 p5 p6 pl
      cases hgo : goesF dk y g with
      | none =>
       have HG0 := lh hgo
       have hgp : goesP dk y g = (g, false) := by unfold goesP; rw [hgo]
       rw [hgp]
       clear hgo hgp
       have HB5 : Below w4.heap.size w4 (w4.alloc (.cells #[.int .i64 g.at_, .int .i64 g.up, .int .i64 g.paces, .int .i64 g.paces, .int .i64 g.up, .int .i64 g.steps, .int .i64 g.longer] 39)) := (Below.refl w4.heap.size w4).alloc (Nat.le_refl _) _
       have HL5 := lh (HL4.out.below HB5)
       have HO5 := lh (HO4.out.below HB5 (Nat.le_refl _))
       have HZ5 := lh (Nat.le_trans HZ4.out HB5.size)
       clear HB5
       go_wp2_with fail
       go_roundw
       case rel => exact ⟨j + 1, by omega, by go_num, rfl, lh ⟨HL5.out, HO5.out, HZ5.out⟩⟩
       case measure => simp [intOf]; omega
      | some g' =>
       have HG0 := lh hgo
       have hgp : goesP dk y g = (g', true) := by unfold goesP; rw [hgo]
       rw [hgp]
       clear hgo hgp
       have HB5 : Below w4.heap.size w4 (w4.alloc (.cells #[.int .i64 g'.at_, .int .i64 g'.up, .int .i64 g'.paces, .int .i64 g'.paces, .int .i64 g'.up, .int .i64 g'.steps, .int .i64 g'.longer] 39)) := (Below.refl w4.heap.size w4).alloc (Nat.le_refl _) _
       have HL5 := lh (HL4.out.below HB5)
       have HO5 := lh (HO4.out.below HB5 (Nat.le_refl _))
       have HZ5 := lh (Nat.le_trans HZ4.out HB5.size)
       have X5 := lh (X4.out.below HB5 X4.out.lt)
       have Y5 := lh (Blk.new w4 39 #[.int .i64 g'.at_, .int .i64 g'.up, .int .i64 g'.paces, .int .i64 g'.paces, .int .i64 g'.up, .int .i64 g'.steps, .int .i64 g'.longer])
       have HO18 := lh HZ4.out
       have HO19 := lh X4.out.lt
       clear HB5 X4 HL4 HO4 HZ4
       go_upto_region 13 with fail
       obtain ⟨G18, hG⟩ : ∃ G, w4.heap.size = G := ⟨_, rfl⟩
       rw [hG] at Y5 HO18 HO19 ⊢
       clear hG
       generalize (w4.alloc (.cells #[.int .i64 g'.at_, .int .i64 g'.up, .int .i64 g'.paces, .int .i64 g'.paces, .int .i64 g'.up, .int .i64 g'.steps, .int .i64 g'.longer] 39)) = w5 at *
       have K0 : w5.drew.cell? ⟨wr2.heap.size, 0, none⟩ = some (.int .i64 y.id) ∧ w5.drew.cell? ⟨G18, 0, none⟩ = some (.int .i64 g'.at_) ∧ w5.drew.cell? ⟨G18, 1, none⟩ = some (.int .i64 g'.up) ∧ w5.drew.cell? ⟨G18, 2, none⟩ = some (.int .i64 g'.paces) ∧ w5.drew.cell? ⟨G18, 3, none⟩ = some (.int .i64 g'.paces) ∧ w5.drew.cell? ⟨G18, 4, none⟩ = some (.int .i64 g'.up) ∧ w5.drew.cell? ⟨G18, 5, none⟩ = some (.int .i64 g'.steps) ∧ w5.drew.cell? ⟨G18, 6, none⟩ = some (.int .i64 g'.longer) := ⟨X5.out.cell 0, Y5.out.cell 0, Y5.out.cell 1, Y5.out.cell 2, Y5.out.cell 3, Y5.out.cell 4, Y5.out.cell 5, Y5.out.cell 6⟩
       have hl2 := HL5.out.lt 2 rfl
       have hlx := X5.out.lt
       have hly := Y5.out.lt
       have hne8 : G18 ≠ w.heap.size + 1 + 1 := by have := HO18.out; have := HW0.out; omega
       have hnx8 : wr2.heap.size ≠ w.heap.size + 1 + 1 := by have := HJ.out.2.2; have := HW0.out; omega
       have HR8 : Hid (∀ j, B.map (·.block) = some j → j < wr2.heap.size) := lh (fun j hj => by
        cases B with
        | none => cases hj
        | some a => have := (HJ.out.2.1.lt rfl).2; simp at hj; omega)
       have HOB : Hid (Blk (w5.alloc (.cells #[.int .i64 y.id] 3)).drew w5.heap.size 3 #[.int .i64 y.id]) := lh ((Blk.new _ _ _).drewN 1)
       have HOW := lh ((HO5.out.alloc (.cells #[.int .i64 y.id] 3)).drewN 1)
       have HB6 : Below w5.heap.size w5 (w5.alloc (.cells #[.int .i64 y.id] 3)).drew := below_drewN ((Below.refl w5.heap.size w5).alloc (Nat.le_refl _) _) 1
       have HL6 := lh (HL5.out.below HB6)
       have HZ6 := lh (Nat.le_trans HZ5.out HB6.size)
       have X6 := lh (X5.out.below HB6 X5.out.lt)
       have Y6 := lh (Y5.out.below HB6 Y5.out.lt)
       have K1 : (w5.alloc (.cells #[.int .i64 y.id] 3)).drew.cell? ⟨wr2.heap.size, 0, none⟩ = some (.int .i64 y.id) ∧ (w5.alloc (.cells #[.int .i64 y.id] 3)).drew.cell? ⟨G18, 0, none⟩ = some (.int .i64 g'.at_) ∧ (w5.alloc (.cells #[.int .i64 y.id] 3)).drew.cell? ⟨G18, 1, none⟩ = some (.int .i64 g'.up) ∧ (w5.alloc (.cells #[.int .i64 y.id] 3)).drew.cell? ⟨G18, 2, none⟩ = some (.int .i64 g'.paces) ∧ (w5.alloc (.cells #[.int .i64 y.id] 3)).drew.cell? ⟨G18, 3, none⟩ = some (.int .i64 g'.paces) ∧ (w5.alloc (.cells #[.int .i64 y.id] 3)).drew.cell? ⟨G18, 4, none⟩ = some (.int .i64 g'.up) ∧ (w5.alloc (.cells #[.int .i64 y.id] 3)).drew.cell? ⟨G18, 5, none⟩ = some (.int .i64 g'.steps) ∧ (w5.alloc (.cells #[.int .i64 y.id] 3)).drew.cell? ⟨G18, 6, none⟩ = some (.int .i64 g'.longer) := ⟨X6.out.cell 0, Y6.out.cell 0, Y6.out.cell 1, Y6.out.cell 2, Y6.out.cell 3, Y6.out.cell 4, Y6.out.cell 5, Y6.out.cell 6⟩
       have hls : ls.length + 1 ≤ maxLen := by unfold maxLen; omega
       go_region_held3 (fun w' => w'.cell? ⟨wr2.heap.size, 0, none⟩ = some (.int .i64 y.id) ∧ w'.cell? ⟨G18, 0, none⟩ = some (.int .i64 g'.at_) ∧ w'.cell? ⟨G18, 1, none⟩ = some (.int .i64 g'.up) ∧ w'.cell? ⟨G18, 2, none⟩ = some (.int .i64 g'.paces) ∧ w'.cell? ⟨G18, 3, none⟩ = some (.int .i64 g'.paces) ∧ w'.cell? ⟨G18, 4, none⟩ = some (.int .i64 g'.up) ∧ w'.cell? ⟨G18, 5, none⟩ = some (.int .i64 g'.steps) ∧ w'.cell? ⟨G18, 6, none⟩ = some (.int .i64 g'.longer))
        (first | with_reducible assumption | exact ⟨(set7_far X8.out hnx8 (.int .i64 g'.at_) (.int .i64 g'.up) (.int .i64 g'.paces) (.int .i64 g'.paces) (.int .i64 g'.up) (.int .i64 g'.steps) (.int .i64 g'.longer)).cell 0, (set7_far Y8.out hne8 (.int .i64 g'.at_) (.int .i64 g'.up) (.int .i64 g'.paces) (.int .i64 g'.paces) (.int .i64 g'.up) (.int .i64 g'.steps) (.int .i64 g'.longer)).cell 0, (set7_far Y8.out hne8 (.int .i64 g'.at_) (.int .i64 g'.up) (.int .i64 g'.paces) (.int .i64 g'.paces) (.int .i64 g'.up) (.int .i64 g'.steps) (.int .i64 g'.longer)).cell 1, (set7_far Y8.out hne8 (.int .i64 g'.at_) (.int .i64 g'.up) (.int .i64 g'.paces) (.int .i64 g'.paces) (.int .i64 g'.up) (.int .i64 g'.steps) (.int .i64 g'.longer)).cell 2, (set7_far Y8.out hne8 (.int .i64 g'.at_) (.int .i64 g'.up) (.int .i64 g'.paces) (.int .i64 g'.paces) (.int .i64 g'.up) (.int .i64 g'.steps) (.int .i64 g'.longer)).cell 3, (set7_far Y8.out hne8 (.int .i64 g'.at_) (.int .i64 g'.up) (.int .i64 g'.paces) (.int .i64 g'.paces) (.int .i64 g'.up) (.int .i64 g'.steps) (.int .i64 g'.longer)).cell 4, (set7_far Y8.out hne8 (.int .i64 g'.at_) (.int .i64 g'.up) (.int .i64 g'.paces) (.int .i64 g'.paces) (.int .i64 g'.up) (.int .i64 g'.steps) (.int .i64 g'.longer)).cell 5, (set7_far Y8.out hne8 (.int .i64 g'.at_) (.int .i64 g'.up) (.int .i64 g'.paces) (.int .i64 g'.paces) (.int .i64 g'.up) (.int .i64 g'.steps) (.int .i64 g'.longer)).cell 6⟩)
        (first | ((refine step_append_any (by rfl) (.tmp 70) (.tmp 73) (by rfl) elem_int (by rfl) HOW.out (by rfl) (one_int (x := y.id) HOB.out.lt (HOB.out.cell 0)) (ints_one _) hls (by omega) HZ6.out ?_); rintro A8 c8 w8 hown hgr; (have HO8 : Hid (Own w8 w0.heap.size 3 1 A8 (ls.length + 1) c8 ((ls ++ [y.id]).map (Value.int .i64))) := lh (by rw [List.map_append]; exact hown));  (have X8 := lh (X6.out.grown hgr (fun e => by have := HR8.out _ e.symm; have := HO19.out; omega))); (have Y8 := lh (Y6.out.grown hgr (fun e => by have := HR8.out _ e.symm; have := HO19.out; omega))); (have HL8 := lh (HL6.out.grown_own hgr (fun j hj => own_row HOW.out hj) HW0.out)); (have HZ8 := lh (Nat.le_trans HZ6.out hgr.size)); (have L8 := lh ((HL6.out.blk 2 rfl).grown hgr (fun e => by have := own_row HOW.out e.symm; have := HW0.out; omega))); (have q0 := L8.out.cell 0); (have qz0 := L8.out.frozen 0); (have q1 := L8.out.cell 1); (have qz1 := L8.out.frozen 1); (have q2 := L8.out.cell 2); (have qz2 := L8.out.frozen 2); (have q3 := L8.out.cell 3); (have qz3 := L8.out.frozen 3); (have q4 := L8.out.cell 4); (have qz4 := L8.out.frozen 4); (have q5 := L8.out.cell 5); (have qz5 := L8.out.frozen 5); (have q6 := L8.out.cell 6); (have qz6 := L8.out.frozen 6); (have ql := L8.out.lt); (have K8 : w8.cell? ⟨wr2.heap.size, 0, none⟩ = some (.int .i64 y.id) ∧ w8.cell? ⟨G18, 0, none⟩ = some (.int .i64 g'.at_) ∧ w8.cell? ⟨G18, 1, none⟩ = some (.int .i64 g'.up) ∧ w8.cell? ⟨G18, 2, none⟩ = some (.int .i64 g'.paces) ∧ w8.cell? ⟨G18, 3, none⟩ = some (.int .i64 g'.paces) ∧ w8.cell? ⟨G18, 4, none⟩ = some (.int .i64 g'.up) ∧ w8.cell? ⟨G18, 5, none⟩ = some (.int .i64 g'.steps) ∧ w8.cell? ⟨G18, 6, none⟩ = some (.int .i64 g'.longer) := ⟨X8.out.cell 0, Y8.out.cell 0, Y8.out.cell 1, Y8.out.cell 2, Y8.out.cell 3, Y8.out.cell 4, Y8.out.cell 5, Y8.out.cell 6⟩)) | fail)
       have HL9 : Hid (Lay w (((((((w8.setCell ⟨w.heap.size + 1 + 1, 0, none⟩ (.int .i64 g'.at_)).setCell ⟨w.heap.size + 1 + 1, 1, none⟩ (.int .i64 g'.up)).setCell ⟨w.heap.size + 1 + 1, 2, none⟩ (.int .i64 g'.paces)).setCell ⟨w.heap.size + 1 + 1, 3, none⟩ (.int .i64 g'.paces)).setCell ⟨w.heap.size + 1 + 1, 4, none⟩ (.int .i64 g'.up)).setCell ⟨w.heap.size + 1 + 1, 5, none⟩ (.int .i64 g'.steps)).setCell ⟨w.heap.size + 1 + 1, 6, none⟩ (.int .i64 g'.longer)) [(w.heap.size, 25, #[.slice A n c, .slice (some ⟨b2, off2, none⟩) m d]), (w.heap.size + 1, 39, #[.int .i64 0, .int .i64 0, .int .i64 0, .int .i64 0, .int .i64 0, .int .i64 0, .int .i64 0]), (w.heap.size + 1 + 1, 39, g'.vals)]) := lh (by
        have R7 := ret7 (HL8.out.blk 2 rfl) HL8.out.1 (by omega) (.int .i64 g'.at_) (.int .i64 g'.up) (.int .i64 g'.paces) (.int .i64 g'.paces) (.int .i64 g'.up) (.int .i64 g'.steps) (.int .i64 g'.longer)
        exact lay3 R7.2 (Nat.le_refl _) (set7_far (HL8.out.blk 0 rfl) (show w.heap.size ≠ w.heap.size + 1 + 1 by omega) (.int .i64 g'.at_) (.int .i64 g'.up) (.int .i64 g'.paces) (.int .i64 g'.paces) (.int .i64 g'.up) (.int .i64 g'.steps) (.int .i64 g'.longer)) (set7_far (HL8.out.blk 1 rfl) (show w.heap.size + 1 ≠ w.heap.size + 1 + 1 by omega) (.int .i64 g'.at_) (.int .i64 g'.up) (.int .i64 g'.paces) (.int .i64 g'.paces) (.int .i64 g'.up) (.int .i64 g'.steps) (.int .i64 g'.longer)) R7.1)
       have HO9 : Hid (Own (((((((w8.setCell ⟨w.heap.size + 1 + 1, 0, none⟩ (.int .i64 g'.at_)).setCell ⟨w.heap.size + 1 + 1, 1, none⟩ (.int .i64 g'.up)).setCell ⟨w.heap.size + 1 + 1, 2, none⟩ (.int .i64 g'.paces)).setCell ⟨w.heap.size + 1 + 1, 3, none⟩ (.int .i64 g'.paces)).setCell ⟨w.heap.size + 1 + 1, 4, none⟩ (.int .i64 g'.up)).setCell ⟨w.heap.size + 1 + 1, 5, none⟩ (.int .i64 g'.steps)).setCell ⟨w.heap.size + 1 + 1, 6, none⟩ (.int .i64 g'.longer)) w0.heap.size 3 1 A8 (ls.length + 1) c8 ((ls ++ [y.id]).map (Value.int .i64))) := lh (own_set7 HO8.out HW0.out (.int .i64 g'.at_) (.int .i64 g'.up) (.int .i64 g'.paces) (.int .i64 g'.paces) (.int .i64 g'.up) (.int .i64 g'.steps) (.int .i64 g'.longer))
       have HG9 : Hid (GW t dk (startG u) (ls ++ [y.id]) g') := lh (HS.out.2.2.2.1.snoc HXM.out HG0.out)
       go_wp2_with fail
       go_roundw
       case rel => exact ⟨k + 1, c8, A8, g', ls ++ [y.id], by omega, by go_num, by simp, by simp; omega, lh ⟨HL9.out, by simpa using HO9.out, by simpa using HZ8.out, HG9.out, by have := HS.out.2.2.2.2; simp; omega⟩⟩
       case measure => simp [intOf]; omega
     ·obtain rfl : j = m := by omega
      go_wp2_with fail
      go_roundw
      case rel => exact ⟨k + 1, q, B, g, ls, by omega, by go_num, rfl, h40, lh ⟨HJ.out.1, HJ.out.2.1, HJ.out.2.2, HS.out.2.2.2.1, by have := HS.out.2.2.2.2; omega⟩⟩
      case measure => simp [intOf]; omega
  ·obtain rfl : k = n2 := by omega
   have ga0 := (HS.out.1.blk 2 rfl).cell 0
   have ga1 := (HS.out.1.blk 2 rfl).cell 1
   have ga2 := (HS.out.1.blk 2 rfl).cell 2
   have ga3 := (HS.out.1.blk 2 rfl).cell 3
   have ga4 := (HS.out.1.blk 2 rfl).cell 4
   have ga5 := (HS.out.1.blk 2 rfl).cell 5
   have ga6 := (HS.out.1.blk 2 rfl).cell 6
   have oa0 := (HS.out.1.blk 1 rfl).cell 0
   have oz0 := (HS.out.1.blk 1 rfl).frozen 0
   have oa1 := (HS.out.1.blk 1 rfl).cell 1
   have oz1 := (HS.out.1.blk 1 rfl).frozen 1
   have oa2 := (HS.out.1.blk 1 rfl).cell 2
   have oz2 := (HS.out.1.blk 1 rfl).frozen 2
   have oa3 := (HS.out.1.blk 1 rfl).cell 3
   have oz3 := (HS.out.1.blk 1 rfl).frozen 3
   have oa4 := (HS.out.1.blk 1 rfl).cell 4
   have oz4 := (HS.out.1.blk 1 rfl).frozen 4
   have oa5 := (HS.out.1.blk 1 rfl).cell 5
   have oz5 := (HS.out.1.blk 1 rfl).frozen 5
   have oa6 := (HS.out.1.blk 1 rfl).cell 6
   have oz6 := (HS.out.1.blk 1 rfl).frozen 6
   have gal := HS.out.1.lt 2 rfl
   have oal := HS.out.1.lt 1 rfl
   go_wp2_with fail
   have R1 := ret7 (HS.out.1.blk 1 rfl) HS.out.1.1 (by omega) (.int .i64 g.at_) (.int .i64 g.up) (.int .i64 g.paces) (.int .i64 g.paces) (.int .i64 g.up) (.int .i64 g.steps) (.int .i64 g.longer)
   have HO9 := lh (own_set7 HS.out.2.1 (show w.heap.size + 1 < w0.heap.size by have := HW0.out; omega) (.int .i64 g.at_) (.int .i64 g.up) (.int .i64 g.paces) (.int .i64 g.paces) (.int .i64 g.up) (.int .i64 g.steps) (.int .i64 g.longer))
   have r0 := R1.1.cell 0
   have r1 := R1.1.cell 1
   have r2 := R1.1.cell 2
   have r3 := R1.1.cell 3
   have r4 := R1.1.cell 4
   have r5 := R1.1.cell 5
   have r6 := R1.1.cell 6
   refine bodyPost_ret (v := .tuple #[g.val, .slice B ls.length q]) (by simp [results, Tryz.results19, go_sem, r0, r1, r2, r3, r4, r5, r6]) rfl ⟨g, ls, B, q, rfl, ⟨HS.out.2.2.2.1, h40, by have := HS.out.2.2.2.2; omega⟩, ints_of_own HO9.out (Nat.le_refl _), R1.2, HO9.out.cap_le.1⟩
end
section
open Go.RowKit
theorem fold_succ {dk : Bool} {id : Int} {ls : List Link} {s : Gone × Bool} {j : Nat} {x : Link} (hx : ls[j]? = some x) : (ls.take (j + 1)).foldl (stepFo dk id) s = stepFo dk id ((ls.take j).foldl (stepFo dk id) s) x := by
 obtain ⟨hk, rfl⟩ := List.getElem?_eq_some_iff.1 hx
 rw [List.take_succ_eq_append_getElem hk, List.foldl_append]
 rfl
theorem goesP_in {t : Town} {dk : Bool} {g : Gone} {x : Link} {k : Nat} (h : g.In k) (ht : Fine t) (hx : x ∈ t.links) : ∃ q, q ≤ k + 1 ∧ (goesP dk x g).1.In q := by
 unfold goesP
 cases hg : goesF dk x g with
 | none => exact ⟨k, by omega, h⟩
 | some g' => exact ⟨k + 1, Nat.le_refl _, goes_in h ht hx hg⟩
theorem stepFo_goes {dk : Bool} {id : Int} {s : Gone × Bool} {x : Link} (h : x.id = id) : stepFo dk id s x = goesP dk x s.1 := by
 unfold stepFo goesP
 rw [if_pos h]
 try (cases goesF dk x s.1 <;> rfl)
theorem stepFo_not {dk : Bool} {id : Int} {s : Gone × Bool} {x : Link} (h : ¬ x.id = id) : stepFo dk id s x = s := by
 unfold stepFo
 rw [if_neg h]
set_option maxRecDepth 100000 in
set_option maxHeartbeats 8000000 in
theorem follow_any (A : Option Addr) (n c : Nat) (A' : Option Addr) (m d : Nat) (t : Town) (u : Int) (A2 : Option Addr) (k2 c2 : Nat) (l : List Int) (dk : Bool) (w : World) (hm : m ≤ 20) (hk : k2 ≤ 40) (ht : LinksAt w w.heap.size A' m t.links) (hf : Fine t) (hr : IntsAt w w.heap.size A2 k2 l) :
  Calls Tryz.prog 20 #[.agg #[.slice A n c, .slice A' m d], .int .i64 u, .slice A2 k2 c2, .bool dk] w (GoesOut w (followF t dk (startG u) l)) := by
 have HT := lh ht
 have HR := lh hr
 have HF := lh hf
 have HLm := lh ht.len
 have HLl := lh hr.len
 clear ht hr hf
 have Ly := lh (Lay.three w 25 #[.slice A n c, .slice A' m d] 39 #[.int .i64 0, .int .i64 0, .int .i64 0, .int .i64 0, .int .i64 0, .int .i64 0, .int .i64 0] 39 #[.int .i64 u, .int .i64 0, .int .i64 0, .int .i64 0, .int .i64 0, .int .i64 0, .int .i64 0])
 go_enter Tryz.func20, Tryz.ntmps20
 go_upto_region 2 with fail
 generalize (((w.alloc (.cells #[.slice A n c, .slice A' m d] 25)).alloc (.cells #[.int .i64 0, .int .i64 0, .int .i64 0, .int .i64 0, .int .i64 0, .int .i64 0, .int .i64 0] 39)).alloc (.cells #[.int .i64 u, .int .i64 0, .int .i64 0, .int .i64 0, .int .i64 0, .int .i64 0, .int .i64 0] 39)) = w0 at *
 go_wp2_with fail
 go_loopw [20] (fun vi wr => ∃ (i q : Nat) (g : Gone), i ≤ k2 ∧ vi = .int .i64 i ∧ Hid (Lay w wr [(w.heap.size, 25, #[.slice A n c, .slice A' m d]), (w.heap.size + 1, 39, #[.int .i64 0, .int .i64 0, .int .i64 0, .int .i64 0, .int .i64 0, .int .i64 0, .int .i64 0]), (w.heap.size + 1 + 1, 39, g.vals)] ∧ followF t dk (startG u) l = followF t dk g (l.drop i) ∧ g.In q ∧ q ≤ i * 20))
  (fun vi _ => k2 - (intOf vi).toNat)
 case atStart => exact ⟨0, 0, startG u, by omega, rfl, lh ⟨Ly.out, rfl, startG_in u, by omega⟩⟩
 case round =>
  obtain ⟨i, q, g, hi, rfl, HS⟩ := hrel
  by_cases hlt : i < k2
  ·obtain ⟨b, off, id, rfl, hbB, hid, hc⟩ := ((HR.out.below HS.out.1.1)).cell hlt
   have HID := lh hid
   clear hid
   have y0 := (HS.out.1.blk 0 rfl).cell 0
   have y1 := (HS.out.1.blk 0 rfl).cell 1
   have ly := HS.out.1.lt 0 rfl
   go_wp2_with fail
   go_loopw [13, 27] (fun vf vj wr2 => ∃ (j q2 : Nat) (g2 : Gone) (f2 : Bool), j ≤ m ∧ vj = .int .i64 j ∧ vf = .bool f2 ∧ Hid (Lay w wr2 [(w.heap.size, 25, #[.slice A n c, .slice A' m d]), (w.heap.size + 1, 39, #[.int .i64 0, .int .i64 0, .int .i64 0, .int .i64 0, .int .i64 0, .int .i64 0, .int .i64 0]), (w.heap.size + 1 + 1, 39, g2.vals)] ∧ (t.links.take j).foldl (stepFo dk id) (g, false) = (g2, f2) ∧ g2.In q2 ∧ q2 ≤ i * 20 + j))
    (fun _ vj _ => m - (intOf vj).toNat)
   case atStart => exact ⟨0, q, g, false, by omega, rfl, rfl, lh ⟨HS.out.1, rfl, HS.out.2.2.1, HS.out.2.2.2⟩⟩
   case round =>
    rename World => wr2
    obtain ⟨j, q2, g2, f2, hj, rfl, rfl, HJ⟩ := hrel
    by_cases hjm : j < m
    ·obtain ⟨b2, off2, x, rfl, hb2, hx, h0, h1, h2, h3, h4⟩ := (HT.out.below HJ.out.1.1).cell hjm
     have HX := lh hx
     have HXM := lh (List.mem_of_getElem? hx)
     have hbl2 : b2 < wr2.heap.size := Nat.lt_of_lt_of_le hb2 HJ.out.1.1.size
     have y0 := (HJ.out.1.blk 0 rfl).cell 0
     have y1 := (HJ.out.1.blk 0 rfl).cell 1
     have ly := HJ.out.1.lt 0 rfl
     clear hx hc hb2
     go_upto_region 9 with fail
     have X1 := Blk.new wr2 52 #[.int .i64 x.id, .int .i64 x.fr, .int .i64 x.to, .int .i64 x.steps, .int .i64 x.paces]
     have HL3 := lh (HJ.out.1.below ((Below.refl wr2.heap.size wr2).alloc (Nat.le_refl _) (.cells #[.int .i64 x.id, .int .i64 x.fr, .int .i64 x.to, .int .i64 x.steps, .int .i64 x.paces] 52)))
     clear y0 y1 ly h0 h1 h2 h3 h4 hbl2
     generalize (wr2.alloc (.cells #[.int .i64 x.id, .int .i64 x.fr, .int .i64 x.to, .int .i64 x.steps, .int .i64 x.paces] 52)) = w3 at *
     have x0 := X1.cell 0
     have x1 := X1.cell 1
     have x2 := X1.cell 2
     have x3 := X1.cell 3
     have x4 := X1.cell 4
     have hxl := X1.lt
     by_cases hxi : x.id = id
     ·have HXI := lh hxi
      have HDJ : Hid ((t.links.take (j + 1)).foldl (stepFo dk id) (g, false) = goesP dk x g2) := lh (by rw [fold_succ HX.out, HJ.out.2.1, stepFo_goes hxi])
      have hxb : (x.id == id) = true := by simpa using hxi
      clear hxi
      have ga0 := (HL3.out.blk 2 rfl).cell 0
      have gz0 := (HL3.out.blk 2 rfl).frozen 0
      have ga1 := (HL3.out.blk 2 rfl).cell 1
      have gz1 := (HL3.out.blk 2 rfl).frozen 1
      have ga2 := (HL3.out.blk 2 rfl).cell 2
      have gz2 := (HL3.out.blk 2 rfl).frozen 2
      have ga3 := (HL3.out.blk 2 rfl).cell 3
      have gz3 := (HL3.out.blk 2 rfl).frozen 3
      have ga4 := (HL3.out.blk 2 rfl).cell 4
      have gz4 := (HL3.out.blk 2 rfl).frozen 4
      have ga5 := (HL3.out.blk 2 rfl).cell 5
      have gz5 := (HL3.out.blk 2 rfl).frozen 5
      have ga6 := (HL3.out.blk 2 rfl).cell 6
      have gz6 := (HL3.out.blk 2 rfl).frozen 6
      have gl := HL3.out.lt 2 rfl
      go_wp2_with fail
      refine (goes_any g2 x dk q2 w3 HJ.out.2.2.1 (by have := HJ.out.2.2.2; omega) (HF.out.steps x HXM.out) (HF.out.paces x HXM.out)).mono ?_
      rintro e w4 ⟨rfl, hb4⟩
      obtain ⟨q3, hq3, hin3⟩ := goesP_in (dk := dk) HJ.out.2.2.1 HF.out HXM.out
      have HI3 := lh hin3
      obtain ⟨⟨g3, f3⟩, hg3⟩ : ∃ r, goesP dk x g2 = r := ⟨_, rfl⟩
      rw [hg3] at HDJ HI3
      rw [hg3]
      have HL4 := lh (HL3.out.below hb4)
      clear hb4 hin3 hg3 ga0 gz0 ga1 gz1 ga2 gz2 ga3 gz3 ga4 gz4 ga5 gz5 ga6 gz6 gl x0 x1 x2 x3 x4 hxl X1
      have ga0 := (HL4.out.blk 2 rfl).cell 0
      have gz0 := (HL4.out.blk 2 rfl).frozen 0
      have ga1 := (HL4.out.blk 2 rfl).cell 1
      have gz1 := (HL4.out.blk 2 rfl).frozen 1
      have ga2 := (HL4.out.blk 2 rfl).cell 2
      have gz2 := (HL4.out.blk 2 rfl).frozen 2
      have ga3 := (HL4.out.blk 2 rfl).cell 3
      have gz3 := (HL4.out.blk 2 rfl).frozen 3
      have ga4 := (HL4.out.blk 2 rfl).cell 4
      have gz4 := (HL4.out.blk 2 rfl).frozen 4
      have ga5 := (HL4.out.blk 2 rfl).cell 5
      have gz5 := (HL4.out.blk 2 rfl).frozen 5
      have ga6 := (HL4.out.blk 2 rfl).cell 6
      have gz6 := (HL4.out.blk 2 rfl).frozen 6
      have gl := HL4.out.lt 2 rfl
      go_wp2_with fail
      have R7 := ret7 (HL4.out.blk 2 rfl) HL4.out.1 (by omega) (.int .i64 g3.at_) (.int .i64 g3.up) (.int .i64 g3.paces) (.int .i64 g3.paces) (.int .i64 g3.up) (.int .i64 g3.steps) (.int .i64 g3.longer)
      have R0 := lh (set7_far (HL4.out.blk 0 rfl) (show w.heap.size ≠ w.heap.size + 1 + 1 by omega) (.int .i64 g3.at_) (.int .i64 g3.up) (.int .i64 g3.paces) (.int .i64 g3.paces) (.int .i64 g3.up) (.int .i64 g3.steps) (.int .i64 g3.longer))
      have R1 := lh (set7_far (HL4.out.blk 1 rfl) (show w.heap.size + 1 ≠ w.heap.size + 1 + 1 by omega) (.int .i64 g3.at_) (.int .i64 g3.up) (.int .i64 g3.paces) (.int .i64 g3.paces) (.int .i64 g3.up) (.int .i64 g3.steps) (.int .i64 g3.longer))
      have HR7 := lh R7
      clear R7 ga0 gz0 ga1 gz1 ga2 gz2 ga3 gz3 ga4 gz4 ga5 gz5 ga6 gz6 gl
      go_roundw
      case rel => exact ⟨j + 1, q3, g3, f3, by omega, by go_num, rfl, lh ⟨lay3 HR7.out.2 (Nat.le_refl _) R0.out R1.out HR7.out.1, HDJ.out, HI3.out, by have := HJ.out.2.2.2; omega⟩⟩
      case measure => simp [intOf]; omega
     ·have HDJ : Hid ((t.links.take (j + 1)).foldl (stepFo dk id) (g, false) = (g2, f2)) := lh (by rw [fold_succ HX.out, HJ.out.2.1, stepFo_not hxi])
      have hxb : (x.id == id) = false := by simpa using hxi
      clear hxi
      go_wp2_with fail
      go_roundw
      case rel => exact ⟨j + 1, q2, g2, f2, by omega, by go_num, rfl, lh ⟨HL3.out, HDJ.out, HJ.out.2.2.1, by have := HJ.out.2.2.2; omega⟩⟩
      case measure => simp [intOf]; omega
    ·obtain rfl : j = m := by omega
     have HD : Hid (t.links.foldl (stepFo dk id) (g, false) = (g2, f2)) := lh (by
      have h := HJ.out.2.1
      rwa [List.take_of_length_le (by rw [HLm.out]; exact Nat.le_refl _)] at h)
     have HE : Hid (followF t dk (startG u) l = if f2 = true then followF t dk g2 (l.drop (i + 1)) else (g2, false)) := lh (by
      rw [HS.out.2.1, drop_atF HID.out, followF, HD.out]
      cases f2 <;> rfl)
     clear hc y0 y1 ly
     cases f2 with
     | true =>
      go_wp2_with fail
      go_roundw
      case rel => exact ⟨i + 1, q2, g2, by omega, by go_num, lh ⟨HJ.out.1, by rw [HE.out]; rfl, HJ.out.2.2.1, by have := HJ.out.2.2.2; omega⟩⟩
      case measure => simp [intOf]; omega
     | false =>
      have ga0 := (HJ.out.1.blk 2 rfl).cell 0
      have gz0 := (HJ.out.1.blk 2 rfl).frozen 0
      have ga1 := (HJ.out.1.blk 2 rfl).cell 1
      have gz1 := (HJ.out.1.blk 2 rfl).frozen 1
      have ga2 := (HJ.out.1.blk 2 rfl).cell 2
      have gz2 := (HJ.out.1.blk 2 rfl).frozen 2
      have ga3 := (HJ.out.1.blk 2 rfl).cell 3
      have gz3 := (HJ.out.1.blk 2 rfl).frozen 3
      have ga4 := (HJ.out.1.blk 2 rfl).cell 4
      have gz4 := (HJ.out.1.blk 2 rfl).frozen 4
      have ga5 := (HJ.out.1.blk 2 rfl).cell 5
      have gz5 := (HJ.out.1.blk 2 rfl).frozen 5
      have ga6 := (HJ.out.1.blk 2 rfl).cell 6
      have gz6 := (HJ.out.1.blk 2 rfl).frozen 6
      have gl := HJ.out.1.lt 2 rfl
      have o0 := (HJ.out.1.blk 1 rfl).cell 0
      have oz0 := (HJ.out.1.blk 1 rfl).frozen 0
      have o1 := (HJ.out.1.blk 1 rfl).cell 1
      have oz1 := (HJ.out.1.blk 1 rfl).frozen 1
      have o2 := (HJ.out.1.blk 1 rfl).cell 2
      have oz2 := (HJ.out.1.blk 1 rfl).frozen 2
      have o3 := (HJ.out.1.blk 1 rfl).cell 3
      have oz3 := (HJ.out.1.blk 1 rfl).frozen 3
      have o4 := (HJ.out.1.blk 1 rfl).cell 4
      have oz4 := (HJ.out.1.blk 1 rfl).frozen 4
      have o5 := (HJ.out.1.blk 1 rfl).cell 5
      have oz5 := (HJ.out.1.blk 1 rfl).frozen 5
      have o6 := (HJ.out.1.blk 1 rfl).cell 6
      have oz6 := (HJ.out.1.blk 1 rfl).frozen 6
      have ol := HJ.out.1.lt 1 rfl
      go_wp2_with fail
      have R1 := ret7 (HJ.out.1.blk 1 rfl) HJ.out.1.1 (by omega) (.int .i64 g2.at_) (.int .i64 g2.up) (.int .i64 g2.paces) (.int .i64 g2.paces) (.int .i64 g2.up) (.int .i64 g2.steps) (.int .i64 g2.longer)
      have r0 := R1.1.cell 0
      have r1 := R1.1.cell 1
      have r2 := R1.1.cell 2
      have r3 := R1.1.cell 3
      have r4 := R1.1.cell 4
      have r5 := R1.1.cell 5
      have r6 := R1.1.cell 6
      refine bodyPost_ret (v := .tuple #[g2.val, .bool false]) (by simp [results, Tryz.results20, go_sem, r0, r1, r2, r3, r4, r5, r6]) rfl ⟨?_, R1.2⟩
      rw [HE.out]
      rfl
  ·obtain rfl : i = k2 := by omega
   have HE : Hid (followF t dk (startG u) l = (g, true)) := lh (by
    rw [HS.out.2.1, List.drop_of_length_le (by rw [HLl.out]; exact Nat.le_refl _)]
    rfl)
   have ga0 := (HS.out.1.blk 2 rfl).cell 0
   have gz0 := (HS.out.1.blk 2 rfl).frozen 0
   have ga1 := (HS.out.1.blk 2 rfl).cell 1
   have gz1 := (HS.out.1.blk 2 rfl).frozen 1
   have ga2 := (HS.out.1.blk 2 rfl).cell 2
   have gz2 := (HS.out.1.blk 2 rfl).frozen 2
   have ga3 := (HS.out.1.blk 2 rfl).cell 3
   have gz3 := (HS.out.1.blk 2 rfl).frozen 3
   have ga4 := (HS.out.1.blk 2 rfl).cell 4
   have gz4 := (HS.out.1.blk 2 rfl).frozen 4
   have ga5 := (HS.out.1.blk 2 rfl).cell 5
   have gz5 := (HS.out.1.blk 2 rfl).frozen 5
   have ga6 := (HS.out.1.blk 2 rfl).cell 6
   have gz6 := (HS.out.1.blk 2 rfl).frozen 6
   have gl := HS.out.1.lt 2 rfl
   have o0 := (HS.out.1.blk 1 rfl).cell 0
   have oz0 := (HS.out.1.blk 1 rfl).frozen 0
   have o1 := (HS.out.1.blk 1 rfl).cell 1
   have oz1 := (HS.out.1.blk 1 rfl).frozen 1
   have o2 := (HS.out.1.blk 1 rfl).cell 2
   have oz2 := (HS.out.1.blk 1 rfl).frozen 2
   have o3 := (HS.out.1.blk 1 rfl).cell 3
   have oz3 := (HS.out.1.blk 1 rfl).frozen 3
   have o4 := (HS.out.1.blk 1 rfl).cell 4
   have oz4 := (HS.out.1.blk 1 rfl).frozen 4
   have o5 := (HS.out.1.blk 1 rfl).cell 5
   have oz5 := (HS.out.1.blk 1 rfl).frozen 5
   have o6 := (HS.out.1.blk 1 rfl).cell 6
   have oz6 := (HS.out.1.blk 1 rfl).frozen 6
   have ol := HS.out.1.lt 1 rfl
   go_wp2_with fail
   have R1 := ret7 (HS.out.1.blk 1 rfl) HS.out.1.1 (by omega) (.int .i64 g.at_) (.int .i64 g.up) (.int .i64 g.paces) (.int .i64 g.paces) (.int .i64 g.up) (.int .i64 g.steps) (.int .i64 g.longer)
   have r0 := R1.1.cell 0
   have r1 := R1.1.cell 1
   have r2 := R1.1.cell 2
   have r3 := R1.1.cell 3
   have r4 := R1.1.cell 4
   have r5 := R1.1.cell 5
   have r6 := R1.1.cell 6
   refine bodyPost_ret (v := .tuple #[g.val, .bool true]) (by simp [results, Tryz.results20, go_sem, r0, r1, r2, r3, r4, r5, r6]) rfl ⟨?_, R1.2⟩
   rw [HE.out]
end
section
section
variable {t : Town} {dk : Bool} {p q : Price} {u v m : Int} {c d c1 c2 : Cost} {l k l1 l2 : List Int} {g g' : Gone}
theorem walk_some (ht : Fine t) (hp : Fair p) (h : Walk t dk p u v c l) : ∃ d k, best t dk p u v = some (d, k) ∧ cmpL (key d k) (key c l) ≤ 0 := by
 have hf := best_first ht hp dk u v
 cases hb : best t dk p u v with
 | none => rw [hb] at hf; exact absurd h (hf c l)
 | some r =>
  obtain ⟨d, k⟩ := r
  rw [hb] at hf
  exact ⟨d, k, rfl, hf.2 _ _ h⟩
theorem First.pieces (ht : Fine t) (hp : Fair p) (h : First t dk p u v (some (c, l1 ++ l2))) (h1 : Walk t dk p u m c1 l1) (h2 : Walk t dk p m v c2 l2) (hc : c = addC c1 c2) : First t dk p u m (some (c1, l1)) ∧ First t dk p m v (some (c2, l2)) := by
 subst hc
 refine ⟨⟨h1, fun c' l' hw => ?_⟩, ⟨h2, fun c' l' hw => ?_⟩⟩
 ·have := h.2 _ _ (hw.append h2)
  rw [cmp_key, cmpC_add] at this
  rw [cmp_key]
  split at this
  ·rename_i h0
   rw [if_pos h0]
   have he := list_eq h0
   have hl : l1.length = l'.length := by
    have b1 := (h1.bound ht hp).2.2.2.2.2.2
    have b2 := (hw.bound ht hp).2.2.2.2.2.2
    rw [he] at b1
    omega
   rw [cmpL_append _ _ hl] at this
   split at this
   ·rename_i h3; omega
   ·exact this
  ·rename_i h0
   rw [if_neg h0]
   exact this
 ·have := h.2 _ _ (h1.append hw)
  rw [cmp_key, cmpC_add', cmpL_pre] at this
  rw [cmp_key]
  exact this
end
section
variable {t : Town} {dk : Bool} {p : Price} {u v : Int} {c : Cost} {l k : List Int} {g g' : Gone}
theorem askE_two {t : Town} {u v : Int} (hb : townB t = true) (hu : u ∈ t.places) (hv : v ∈ t.places) : askE t [u, v] = 0 := by
 unfold askE hasB
 rw [if_pos hb, if_pos (by simp [memI_iff.2 hu, memI_iff.2 hv])]
end
end
section
open Go.RowKit Go.Shelf
theorem townB_one {t : Town} (h : townB t = true) : 1 ≤ t.places.length := by
 unfold townB sizeB at h
 simp only [Bool.and_eq_true, decide_eq_true_eq] at h
 have := inB1_spec h.1.1.1
 omega
theorem any_take_mem {l : List Int} {v : Int} {j : Nat} (h : l.length ≤ j) : ((l.take j).any fun y => y == v) = decide (v ∈ l) := by
 rw [List.take_of_length_le h, Bool.eq_iff_iff]
 simp
theorem undef_ne {b : Bool} {C : Prop} (h : some undef = some (Value.bool b)) : C := by cases h
theorem ints_take {w : World} {B n r : Nat} {A : Option Addr} {l : List Int} (h : IntsAt w B A n l) (hr : r ≤ n) : IntsAt w B A r (l.take r) := by
 have hl := h.len
 refine ⟨by simp; omega, fun h0 => ?_⟩
 obtain ⟨ad, e, hb, hc⟩ := h.2 (by omega)
 refine ⟨ad, e, hb, fun j u hu => hc j u ?_⟩
 rw [List.getElem?_map, List.getElem?_take] at hu
 split at hu
 ·rw [List.getElem?_map]; exact hu
 ·cases hu
theorem ret7' {w W : World} {B g : Nat} {t : TypeId} {z0 z1 z2 z3 z4 z5 z6 : Value} (R : Blk W g t #[z0, z1, z2, z3, z4, z5, z6]) (L : Below B w W) (hg : B ≤ g) (v0 v1 v2 v3 v4 v5 v6 : Value) :
  Blk (((((((W.setCell ⟨g, 0, none⟩ v0).setCell ⟨g, 1, none⟩ v1).setCell ⟨g, 2, none⟩ v2).setCell ⟨g, 3, none⟩ v3).setCell ⟨g, 4, none⟩ v4).setCell ⟨g, 5, none⟩ v5).setCell ⟨g, 6, none⟩ v6) g t #[v0, v1, v2, v3, v4, v5, v6] ∧
  Below B w (((((((W.setCell ⟨g, 0, none⟩ v0).setCell ⟨g, 1, none⟩ v1).setCell ⟨g, 2, none⟩ v2).setCell ⟨g, 3, none⟩ v3).setCell ⟨g, 4, none⟩ v4).setCell ⟨g, 5, none⟩ v5).setCell ⟨g, 6, none⟩ v6) ∧
  W.grownBy (((((((W.setCell ⟨g, 0, none⟩ v0).setCell ⟨g, 1, none⟩ v1).setCell ⟨g, 2, none⟩ v2).setCell ⟨g, 3, none⟩ v3).setCell ⟨g, 4, none⟩ v4).setCell ⟨g, 5, none⟩ v5).setCell ⟨g, 6, none⟩ v6) (some g) := by
 have h := ret7 R L hg v0 v1 v2 v3 v4 v5 v6
 refine ⟨h.1, h.2, ?_⟩
 exact grown_setCell (grown_setCell (grown_setCell (grown_setCell (grown_setCell (grown_setCell (grown_setCell (grown_refl W (some g)) (p := ⟨g, 0, none⟩) (.inl rfl) v0) (p := ⟨g, 1, none⟩) (.inl rfl) v1) (p := ⟨g, 2, none⟩) (.inl rfl) v2) (p := ⟨g, 3, none⟩) (.inl rfl) v3) (p := ⟨g, 4, none⟩) (.inl rfl) v4) (p := ⟨g, 5, none⟩) (.inl rfl) v5) (p := ⟨g, 6, none⟩) (.inl rfl) v6
end
section
open Go.RowKit
theorem lit_add (g o k : Nat) : ((⟨g, o, none⟩ : Addr).add k) = ⟨g, o + k, none⟩ := by
 unfold Addr.add
 by_cases hk : k = 0
 ·simp [hk]
 ·simp [hk]
theorem one_link {w : World} {vb : Nat} {tv : TypeId} {x : Link} (h : Blk w vb tv #[.int .i64 x.id, .int .i64 x.fr, .int .i64 x.to, .int .i64 x.steps, .int .i64 x.paces]) {B : Nat} (hB : vb < B) : Reads w B 5 (some ⟨vb, 0, none⟩) 1 x.vals :=
 ⟨rfl, fun _ => ⟨_, rfl, hB, fun j u hu => by
  rw [lit_add, Nat.zero_add, h.cell, ← hu]
  simp [Link.vals]⟩⟩
theorem vals_one (x : Link) : ∀ u ∈ x.vals, u.oneCell' = true := by
 intro u hu
 simp only [Link.vals, List.mem_cons, List.not_mem_nil, or_false] at hu
 rcases hu with rfl | rfl | rfl | rfl | rfl <;> rfl
end
section
section
variable {t t' : Town} {u v : Int} {dk dk' : Bool} {l k : List Int} {g g' : Gone} {p : Price} {c d : Cost}
theorem mem_ids {x : Link} (hx : x ∈ t.links) : memI (idsOf t.links) x.id = true := by
 rw [memI_iff]
 unfold idsOf
 exact List.mem_map.2 ⟨x, hx, rfl⟩
theorem close_one {x : Link} (hb : townB t = true) (hx : x ∈ t.links) : closeE t [x.id] = 0 ∧ closeT t [x.id] = lessT t (fun y => memI [x.id] y.id) := by
 have h1 : closeB t 0 [x.id] = true := by
  unfold closeB
  have h2 : 0 < x.id := by
   have h3 := hb
   unfold townB at h3
   simp only [Bool.and_eq_true] at h3
   exact ((linksB_spec h3.2).1 x hx).1
  rw [mem_ids hx]
  simp [h2, closeB]
 unfold closeE closeT
 rw [hb, h1]
 exact ⟨rfl, rfl⟩
end
end
section
section
variable {t : Town} {u v : Int} {dk : Bool} {l k : List Int} {g g' : Gone} {id : Int}
theorem gw_need (h : GW t dk g l g') (hn : id ∉ l) : GW (lessT t (ofOnly id)) dk g l g' := by
 induction h with
 | nil g => exact .nil g
 | @cons g m g' x l hx hg _ ih =>
  simp only [List.mem_cons, not_or] at hn
  refine .cons ?_ hg (ih hn.2)
  unfold lessT
  exact List.mem_filter.2 ⟨hx, by simp [ofOnly]; exact fun e => hn.1 e.symm⟩
theorem gone_no {q : Link → Bool} (hb : townB t = true) (h : goneB t u v dk q = true) {c : Cost} : ¬ Walk (lessT t q) dk freeP u v c l := fun hw => by
 obtain ⟨d, k, h1, _⟩ := walk_some (goodT (townB_less hb)).fine freeP_fair hw
 unfold goneB at h
 rw [h1] at h
 cases h
theorem need_inZ (hb : townB t = true) (h : GW t dk (startG u) l g) (hv : g.at_ = v) (hgone : goneB t u v dk (ofOnly id) = true) : id ∈ l := by
 by_cases hi : id ∈ l
 ·exact hi
 ·have := (gw_need h hi).walk0 freeP
  rw [hv] at this
  exact absurd this (gone_no hb hgone)
theorem gw_gate (h : GW t dk g l g') : (∀ k, k < l.length → ∀ m, GW t dk g (l.take k) m → m.at_ ≠ id) → g'.at_ ≠ id → GW (lessT t (ofGate id)) dk g l g' := by
 induction h with
 | nil g => intro _ _; exact .nil g
 | @cons g m g' x l hx hg hw ih =>
  intro hk hv
  have h0 : g.at_ ≠ id := hk 0 (by simp) g (.nil g)
  have h1 : m.at_ ≠ id := by
   cases l with
   | nil => cases hw; exact hv
   | cons y l' => exact hk 1 (by simp) m (.cons hx hg (.nil m))
  refine .cons ?_ hg (ih (fun k hlt m' hm => hk (k + 1) (by simp; omega) m' (.cons hx hg hm)) hv)
  unfold lessT
  refine List.mem_filter.2 ⟨hx, ?_⟩
  have h2 : (x.fr = g.at_ ∧ m.at_ = x.to) ∨ (x.to = g.at_ ∧ m.at_ = x.fr) := by
   unfold goesF at hg
   split at hg
   ·cases hg
   ·split at hg
    ·rename_i e; cases hg; exact .inl ⟨e, rfl⟩
    ·split at hg
     ·rename_i e; cases hg; exact .inr ⟨e, rfl⟩
     ·cases hg
  unfold ofGate
  rcases h2 with ⟨a, b⟩ | ⟨a, b⟩
  ·rw [b] at h1
   simp [a, h0, h1]
  ·rw [b] at h1
   simp [a, h0, h1]
def atP (t : Town) (dk : Bool) (u : Int) (l : List Int) (k : Nat) : Int := (followF t dk (startG u) (l.take k)).1.at_
def atAny (t : Town) (dk : Bool) (u : Int) (l : List Int) (id : Int) (j : Nat) : Bool := (List.range j).any fun k => atP t dk u l k == id
theorem atAny_succ (t : Town) (dk : Bool) (u : Int) (l : List Int) (id : Int) (j : Nat) : atAny t dk u l id (j + 1) = (atAny t dk u l id j || (atP t dk u l j == id)) := by
 unfold atAny
 rw [List.range_succ, List.any_append]
 simp
theorem gate_at (hb : townB t = true) (h : GW t dk (startG u) l g) (hv : g.at_ = v) (hne : id ≠ v) (hgone : goneB t u v dk (ofGate id) = true) : atAny t dk u l id l.length = true := by
 cases hA : atAny t dk u l id l.length with
 | true => rfl
 | false =>
  exfalso
  unfold atAny at hA
  rw [List.any_eq_false] at hA
  have := (gw_gate (id := id) h (fun k hk m hm e => by
   have h1 := hA k (List.mem_range.2 hk)
   unfold atP at h1
   rw [follow_gw (goodT hb).fine.ids hm] at h1
   exact h1 (by simpa using e)) (by rw [hv]; exact fun e => hne e.symm)).walk0 freeP
  rw [hv] at this
  exact gone_no hb hgone this
theorem mem_need (hx : id ∈ neededL t u v dk (idsOf t.links) ofOnly) : goneB t u v dk (ofOnly id) = true := (List.mem_filter.1 hx).2
theorem mem_gate (hx : id ∈ neededL t u v dk (othersL t u v) ofGate) : goneB t u v dk (ofGate id) = true ∧ id ≠ u ∧ id ≠ v := by
 obtain ⟨h1, h2⟩ := List.mem_filter.1 hx
 have h3 := (List.mem_filter.1 h1).2
 simp [inUV] at h3
 exact ⟨h2, h3.1, h3.2⟩
theorem gate_dec {p : Int} (hp : p ∈ t.places) (h1 : p ≠ u) (h2 : p ≠ v) : decide (p ∈ neededL t u v dk (othersL t u v) ofGate) = goneB t u v dk (ofGate p) := by
 rw [Bool.eq_iff_iff, decide_eq_true_iff]
 constructor
 ·exact fun h => (mem_gate h).1
 ·exact fun h => List.mem_filter.2 ⟨List.mem_filter.2 ⟨hp, by simp [inUV, h1, h2]⟩, h⟩
theorem gate_not {p : Int} (h : p = u ∨ p = v) : decide (p ∈ neededL t u v dk (othersL t u v) ofGate) = false := by
 rw [decide_eq_false_iff_not]
 intro hx
 have := mem_gate hx
 rcases h with h | h
 ·exact this.2.1 h
 ·exact this.2.2 h
theorem need_dec {x : Link} (hx : x ∈ t.links) : decide (x.id ∈ neededL t u v dk (idsOf t.links) ofOnly) = goneB t u v dk (ofOnly x.id) := by
 rw [Bool.eq_iff_iff, decide_eq_true_iff]
 constructor
 ·exact fun h => mem_need h
 ·exact fun h => List.mem_filter.2 ⟨List.mem_map.2 ⟨x, hx, rfl⟩, h⟩
end
end
section
open Go.RowKit
structure TwinGh where
 g0 : Nat
 A1 : Option Addr
 c1 : Nat
 g4 : Nat
 A2 : Option Addr
 c2 : Nat
set_option maxRecDepth 100000 in
set_option maxHeartbeats 8000000 in
theorem twin_any (A : Option Addr) (n c : Nat) (A' : Option Addr) (m d : Nat) (t : Town) (w : World) (hn : n ≤ 1000) (hm : m ≤ 1000) (ht : TownAt w w.heap.size A n A' m t) :
  Calls Tryz.prog 71 #[.agg #[.slice A n c, .slice A' m d]] w fun e w' => TownOut w e w' t := by
 have HT := lh ht
 have HLn := lh ht.places.len
 have HLm := lh ht.links.len
 have hn1 : n ≤ maxLen := by unfold maxLen; omega
 have hm1 : m ≤ maxLen := by unfold maxLen; omega
 have hn2 : n * 8 ≤ 140737488355328 := by omega
 have hm2 : m * 40 ≤ 140737488355328 := by omega
 clear ht
 go_enter Tryz.func71, Tryz.ntmps71
 go_wp2_with fail
 have X0 := (Blk.new w 25 #[.slice A n c, .slice A' m d]).alloc (.cells #[.slice none 0 0, .slice none 0 0] 25)
 have Z0 := Blk.new (w.alloc (.cells #[.slice A n c, .slice A' m d] 25)) 25 #[.slice none 0 0, .slice none 0 0]
 have B0 : Below w.heap.size w ((w.alloc (.cells #[.slice A n c, .slice A' m d] 25)).alloc (.cells #[.slice none 0 0, .slice none 0 0] 25)) := ((Below.refl _ _).alloc (Nat.le_refl _) _).alloc (by simp) _
 rw [World.size_alloc] at Z0
 generalize ((w.alloc (.cells #[.slice A n c, .slice A' m d] 25)).alloc (.cells #[.slice none 0 0, .slice none 0 0] 25)) = w0 at *
 refine wp_region_steps (by kernel_rfl) (by kernel_rfl) (fun σ : TwinGh × (Nat → Value) => { tmps := #[.agg #[.slice A n c, .slice A' m d], .pointer (some ⟨w.heap.size, 0, none⟩), .pointer (some ⟨w.heap.size + 1, 0, none⟩), σ.2 3, σ.2 4, σ.2 5, σ.2 6, σ.2 7, σ.2 8, σ.2 9, σ.2 10, σ.2 11], defers := [] })
  (fun L σ W => (Below w.heap.size w W) ∧ (Blk W w.heap.size 25 #[.slice A n c, .slice A' m d]) ∧ (L 9 = false → Blk W (w.heap.size + 1) 25 #[.slice none 0 0, .slice none 0 0]) ∧ (L 9 = true → Blk W (w.heap.size + 1) 25 #[.slice σ.1.A1 n σ.1.c1, .slice σ.1.A2 m σ.1.c2]) ∧ (L 0 = true → L 3 = false → Blk W σ.1.g0 3 #[] ∧ w.heap.size + 1 < σ.1.g0) ∧ (L 4 = true → L 7 = false → Blk W σ.1.g4 52 #[] ∧ w.heap.size + 1 < σ.1.g4) ∧ (L 3 = true → Own W w.heap.size 3 1 σ.1.A1 n σ.1.c1 (t.places.map (Value.int .i64)) ∧ Above (w.heap.size + 1) σ.1.A1) ∧ (L 7 = true → Own W w.heap.size 52 5 σ.1.A2 m σ.1.c2 (t.links.flatMap Link.vals) ∧ Above (w.heap.size + 1) σ.1.A2) ∧ (L 3 = true → L 7 = true → Apart σ.1.A1 σ.1.A2) ∧ (L 3 = true → L 4 = true → L 7 = false → ∀ a, σ.1.A1 = some a → a.block ≠ σ.1.g4) ∧ (L 0 = true → L 7 = true → L 3 = false → ∀ a, σ.1.A2 = some a → a.block ≠ σ.1.g0) ∧ (L 0 = true → L 4 = true → L 3 = false → L 7 = false → σ.1.g0 ≠ σ.1.g4) ∧ (L 0 = true → σ.2 3 = .slice (some ⟨σ.1.g0, 0, none⟩) 0 0) ∧ (L 1 = true → σ.2 4 = .pointer (some ⟨w.heap.size, 0, none⟩)) ∧ (L 2 = true → σ.2 5 = .slice A n c) ∧ (L 3 = true → σ.2 6 = .slice σ.1.A1 n σ.1.c1) ∧ (L 4 = true → σ.2 7 = .slice (some ⟨σ.1.g4, 0, none⟩) 0 0) ∧ (L 5 = true → σ.2 8 = .pointer (some ⟨w.heap.size, 1, none⟩)) ∧ (L 6 = true → σ.2 9 = .slice A' m d) ∧ (L 7 = true → σ.2 10 = .slice σ.1.A2 m σ.1.c2) ∧ (L 8 = true → σ.2 11 = .agg #[.slice σ.1.A1 n σ.1.c1, .slice σ.1.A2 m σ.1.c2]))
  (⟨0, none, 0, 0, none, 0⟩, fun k => undef) rfl ?_ ?_ ?_
 ·exact ⟨B0.drew, X0.drew, fun _ => Z0.drew, (fun h => by cases h), (fun h => by cases h), (fun h => by cases h), (fun h => by cases h), (fun h => by cases h), (fun h => by cases h), (fun h => by cases h), (fun h => by cases h), (fun h => by cases h), (fun h => by cases h), (fun h => by cases h), (fun h => by cases h), (fun h => by cases h), (fun h => by cases h), (fun h => by cases h), (fun h => by cases h), (fun h => by cases h), (fun h => by cases h)⟩
 ·refine ⟨?_, ?_, ?_, ?_, ?_, ?_, ?_, ?_, ?_, ?_, trivial⟩
  ·rintro L ⟨gh, s⟩ W hu hd hdn ⟨g1, g2, gZ, gR, gE, gF, g3, g7, d37, d34, d07, d04, f0, f1, f2, f3, f4, f5, f6, f7, f8⟩ K Q hK
   try dsimp only at g1 g2 gZ gR gE gF g3 g7 d37 d34 d07 d04 f0 f1 f2 f3 f4 f5 f6 f7 f8 ⊢
   have h9 : L 9 = false := by
    cases hc : L 9 with
    | false => rfl
    | true => exact hdn.no 9 0 hc rfl hu
   have hW := (gZ h9).lt
   have HF := lh (ai g1 (ai g2 (ai gZ (ai gR (ai gE (ai gF (ai g3 (ai g7 (ai d37 (ai d34 (ai d07 (ai d04 (ai f0 (ai f1 (ai f2 (ai f3 (ai f4 (ai f5 (ai f6 (ai f7 f8))))))))))))))))))))
   clear f8 f7 f6 f5 f4 f3 f2 f1 f0 d04 d07 d34 d37 g7 g3 gF gE gR gZ g2 g1 hd
   try simp only
   go_wp2_with fail
   obtain ⟨g1, g2, gZ, gR, gE, gF, g3, g7, d37, d34, d07, d04, f0, f1, f2, f3, f4, f5, f6, f7, f8⟩ := HF.out
   have hb : Below W.heap.size W (W.alloc (.cells #[] 3)) := (Below.refl _ _).alloc (Nat.le_refl _) _
   exact hK ({ gh with g0 := W.heap.size }, (upd s 3 (.slice (some ⟨W.heap.size, 0, none⟩) 0 0))) _ ⟨(g1.trans (hb.mono g1.size)), (g2.below hb g2.lt), (fun h => (gZ h).below hb (gZ h).lt), (fun h => (gR h).below hb (gR h).lt), (fun _ _ => ⟨Blk.new W _ _, hW⟩), (fun h h3 => ⟨(gF h h3).1.below hb (gF h h3).1.lt, (gF h h3).2⟩), (fun h => ⟨(g3 h).1.below hb (Nat.le_refl _), (g3 h).2⟩), (fun h => ⟨(g7 h).1.below hb (Nat.le_refl _), (g7 h).2⟩), d37, d34, (fun _ h7 _ a ha => fun (e : a.block = W.heap.size) => by have := ((g7 h7).1.lt ha).2; omega), (fun _ h4 _ h7 => fun (e : W.heap.size = gh.g4) => by have := (gF h4 h7).1.lt; omega), (fun _ => rfl), f1, f2, f3, f4, f5, f6, f7, f8⟩
  ·rintro L ⟨gh, s⟩ W hu hd hdn ⟨g1, g2, gZ, gR, gE, gF, g3, g7, d37, d34, d07, d04, f0, f1, f2, f3, f4, f5, f6, f7, f8⟩ K Q hK
   try dsimp only at g1 g2 gZ gR gE gF g3 g7 d37 d34 d07 d04 f0 f1 f2 f3 f4 f5 f6 f7 f8 ⊢
   have HF := lh (ai g1 (ai g2 (ai gZ (ai gR (ai gE (ai gF (ai g3 (ai g7 (ai d37 (ai d34 (ai d07 (ai d04 (ai f0 (ai f1 (ai f2 (ai f3 (ai f4 (ai f5 (ai f6 (ai f7 f8))))))))))))))))))))
   clear f8 f7 f6 f5 f4 f3 f2 f1 f0 d04 d07 d34 d37 g7 g3 gF gE gR gZ g2 g1 hd
   try simp only
   go_wp2_with fail
   obtain ⟨g1, g2, gZ, gR, gE, gF, g3, g7, d37, d34, d07, d04, f0, f1, f2, f3, f4, f5, f6, f7, f8⟩ := HF.out
   exact hK (gh, (upd s 4 (.pointer (some ⟨w.heap.size, 0, none⟩)))) _ ⟨g1, g2, gZ, gR, gE, gF, g3, g7, d37, d34, d07, d04, f0, (fun _ => rfl), f2, f3, f4, f5, f6, f7, f8⟩
  ·rintro L ⟨gh, s⟩ W hu hd hdn ⟨g1, g2, gZ, gR, gE, gF, g3, g7, d37, d34, d07, d04, f0, f1, f2, f3, f4, f5, f6, f7, f8⟩ K Q hK
   try dsimp only at g1 g2 gZ gR gE gF g3 g7 d37 d34 d07 d04 f0 f1 f2 f3 f4 f5 f6 f7 f8 ⊢
   have e1 := f1 (hd.at_ 1 rfl)
   have c0 : W.cell? ⟨w.heap.size, 0, none⟩ = some (.slice A n c) := g2.cell 0
   have HF := lh (ai g1 (ai g2 (ai gZ (ai gR (ai gE (ai gF (ai g3 (ai g7 (ai d37 (ai d34 (ai d07 (ai d04 (ai f0 (ai f1 (ai f2 (ai f3 (ai f4 (ai f5 (ai f6 (ai f7 f8))))))))))))))))))))
   clear f8 f7 f6 f5 f4 f3 f2 f1 f0 d04 d07 d34 d37 g7 g3 gF gE gR gZ g2 g1 hd
   try simp only at e1 ⊢
   go_wp2_with fail
   obtain ⟨g1, g2, gZ, gR, gE, gF, g3, g7, d37, d34, d07, d04, f0, f1, f2, f3, f4, f5, f6, f7, f8⟩ := HF.out
   exact hK (gh, (upd (upd s 4 (.pointer (some ⟨w.heap.size, 0, none⟩))) 5 (.slice A n c))) _ ⟨g1, g2, gZ, gR, gE, gF, g3, g7, d37, d34, d07, d04, f0, (fun _ => rfl), (fun _ => rfl), f3, f4, f5, f6, f7, f8⟩
  ·rintro L ⟨gh, s⟩ W hu hd hdn ⟨g1, g2, gZ, gR, gE, gF, g3, g7, d37, d34, d07, d04, f0, f1, f2, f3, f4, f5, f6, f7, f8⟩ K Q hK
   try dsimp only at g1 g2 gZ gR gE gF g3 g7 d37 d34 d07 d04 f0 f1 f2 f3 f4 f5 f6 f7 f8 ⊢
   have e0 := f0 (hd.at_ 0 rfl)
   have e2 := f2 (hd.at_ 2 rfl)
   have h9 : L 9 = false := by
    cases hc : L 9 with
    | false => rfl
    | true => exact hdn.no 9 3 hc rfl hu
   have HE := lh (gE (hd.at_ 0 rfl) hu)
   have HI := lh ((HT.out.places.below g1).more g1.size)
   have HO : Hid (Own W w.heap.size 3 1 (some ⟨gh.g0, 0, none⟩) 0 0 []) := Own.mk_ (by have := HE.out.2; omega) HE.out.1 (Nat.le_refl _) (Nat.zero_le _) rfl rfl (fun k hk => by omega)
   have HG1 := lh g1
   have h0 : L 0 = true := hd.at_ 0 rfl
   have hW := (gZ h9).lt
   have HF := lh (ai g1 (ai g2 (ai gZ (ai gR (ai gE (ai gF (ai g3 (ai g7 (ai d37 (ai d34 (ai d07 (ai d04 (ai f0 (ai f1 (ai f2 (ai f3 (ai f4 (ai f5 (ai f6 (ai f7 f8))))))))))))))))))))
   clear f8 f7 f6 f5 f4 f3 f2 f1 f0 d04 d07 d34 d37 g7 g3 gF gE gR gZ g2 g1 hd
   try simp only at e0 e2 ⊢
   go_wp2_with (at_builtin; refine wpList_append_any _ rfl _ _ rfl elem_int e0 HO.out e2 HI.out (ints_one _) (by simpa using hn1) (by simpa using hn2) HG1.out.size ?_)
   rintro A1 c1 W1 hown hg hA
   have hg : W.grownBy W1 (some gh.g0) := hg
   go_wp2_with fail
   obtain ⟨g1, g2, gZ, gR, gE, gF, g3, g7, d37, d34, d07, d04, f0, f1, f2, f3, f4, f5, f6, f7, f8⟩ := HF.out
   have hg0 := HE.out.2
   have hA1 : Above (w.heap.size + 1) A1 := fun a ha => by
    rcases hA with h | h
    ·rw [h] at ha; cases ha; exact hg0
    ·rw [h] at ha; cases ha; exact hW
   exact hK ({ gh with A1 := A1, c1 := c1 }, (upd (upd (upd s 3 (.slice (some ⟨gh.g0, 0, none⟩) 0 0)) 5 (.slice A n c)) 6 (.slice A1 n c1))) _ ⟨(g1.grown hg g1.size (fun k hk => by cases hk; omega)), (g2.grown hg (by intro e; have := Option.some.inj e; omega)), (fun h => (gZ h).grown hg (by intro e; have := Option.some.inj e; omega)), (fun h => hdn.no 9 3 h rfl hu), (fun _ h => by cases h), (fun h h7 => ⟨(gF h h7).1.grown hg (by intro e; have := Option.some.inj e; exact d04 h0 h hu h7 this.symm), (gF h h7).2⟩), (fun _ => ⟨hown, hA1⟩), (fun h => ⟨(g7 h).1.grown hg (fun a ha => by intro e; exact d07 h0 h hu a ha (Option.some.inj e)), (g7 h).2⟩), (fun _ h7 => fun a b ha hb => by
         rcases hA with h | h
         ·rw [h] at ha; cases ha; exact (d07 h0 h7 hu b hb).symm
         ·rw [h] at ha; cases ha; exact fun e => by have := ((g7 h7).1.lt hb).2; simp at e; omega), (fun _ h4 h7 a ha => by
         rcases hA with h | h
         ·rw [h] at ha; cases ha; exact d04 h0 h4 hu h7
         ·rw [h] at ha; cases ha; exact fun e => by have := (gF h4 h7).1.lt; simp at e; omega), (fun _ _ h => by cases h), (fun _ _ h => by cases h), (fun _ => rfl), f1, (fun _ => rfl), (fun _ => rfl), f4, f5, f6, f7, (fun h => hdn.no 8 3 h rfl hu)⟩
  ·rintro L ⟨gh, s⟩ W hu hd hdn ⟨g1, g2, gZ, gR, gE, gF, g3, g7, d37, d34, d07, d04, f0, f1, f2, f3, f4, f5, f6, f7, f8⟩ K Q hK
   try dsimp only at g1 g2 gZ gR gE gF g3 g7 d37 d34 d07 d04 f0 f1 f2 f3 f4 f5 f6 f7 f8 ⊢
   have h9 : L 9 = false := by
    cases hc : L 9 with
    | false => rfl
    | true => exact hdn.no 9 4 hc rfl hu
   have hW := (gZ h9).lt
   have HF := lh (ai g1 (ai g2 (ai gZ (ai gR (ai gE (ai gF (ai g3 (ai g7 (ai d37 (ai d34 (ai d07 (ai d04 (ai f0 (ai f1 (ai f2 (ai f3 (ai f4 (ai f5 (ai f6 (ai f7 f8))))))))))))))))))))
   clear f8 f7 f6 f5 f4 f3 f2 f1 f0 d04 d07 d34 d37 g7 g3 gF gE gR gZ g2 g1 hd
   try simp only
   go_wp2_with fail
   obtain ⟨g1, g2, gZ, gR, gE, gF, g3, g7, d37, d34, d07, d04, f0, f1, f2, f3, f4, f5, f6, f7, f8⟩ := HF.out
   have hb : Below W.heap.size W (W.alloc (.cells #[] 52)) := (Below.refl _ _).alloc (Nat.le_refl _) _
   exact hK ({ gh with g4 := W.heap.size }, (upd s 7 (.slice (some ⟨W.heap.size, 0, none⟩) 0 0))) _ ⟨(g1.trans (hb.mono g1.size)), (g2.below hb g2.lt), (fun h => (gZ h).below hb (gZ h).lt), (fun h => (gR h).below hb (gR h).lt), (fun h h3 => ⟨(gE h h3).1.below hb (gE h h3).1.lt, (gE h h3).2⟩), (fun _ _ => ⟨Blk.new W _ _, hW⟩), (fun h => ⟨(g3 h).1.below hb (Nat.le_refl _), (g3 h).2⟩), (fun h => ⟨(g7 h).1.below hb (Nat.le_refl _), (g7 h).2⟩), d37, (fun h3 _ _ a ha => fun (e : a.block = W.heap.size) => by have := ((g3 h3).1.lt ha).2; omega), d07, (fun h0 _ h3 _ => fun (e : gh.g0 = W.heap.size) => by have := (gE h0 h3).1.lt; omega), f0, f1, f2, f3, (fun _ => rfl), f5, f6, f7, f8⟩
  ·rintro L ⟨gh, s⟩ W hu hd hdn ⟨g1, g2, gZ, gR, gE, gF, g3, g7, d37, d34, d07, d04, f0, f1, f2, f3, f4, f5, f6, f7, f8⟩ K Q hK
   try dsimp only at g1 g2 gZ gR gE gF g3 g7 d37 d34 d07 d04 f0 f1 f2 f3 f4 f5 f6 f7 f8 ⊢
   have HF := lh (ai g1 (ai g2 (ai gZ (ai gR (ai gE (ai gF (ai g3 (ai g7 (ai d37 (ai d34 (ai d07 (ai d04 (ai f0 (ai f1 (ai f2 (ai f3 (ai f4 (ai f5 (ai f6 (ai f7 f8))))))))))))))))))))
   clear f8 f7 f6 f5 f4 f3 f2 f1 f0 d04 d07 d34 d37 g7 g3 gF gE gR gZ g2 g1 hd
   try simp only
   go_wp2_with fail
   obtain ⟨g1, g2, gZ, gR, gE, gF, g3, g7, d37, d34, d07, d04, f0, f1, f2, f3, f4, f5, f6, f7, f8⟩ := HF.out
   exact hK (gh, (upd s 8 (.pointer (some ⟨w.heap.size, 1, none⟩)))) _ ⟨g1, g2, gZ, gR, gE, gF, g3, g7, d37, d34, d07, d04, f0, f1, f2, f3, f4, (fun _ => rfl), f6, f7, f8⟩
  ·rintro L ⟨gh, s⟩ W hu hd hdn ⟨g1, g2, gZ, gR, gE, gF, g3, g7, d37, d34, d07, d04, f0, f1, f2, f3, f4, f5, f6, f7, f8⟩ K Q hK
   try dsimp only at g1 g2 gZ gR gE gF g3 g7 d37 d34 d07 d04 f0 f1 f2 f3 f4 f5 f6 f7 f8 ⊢
   have e5 := f5 (hd.at_ 5 rfl)
   have c0 : W.cell? ⟨w.heap.size, 1, none⟩ = some (.slice A' m d) := g2.cell 1
   have HF := lh (ai g1 (ai g2 (ai gZ (ai gR (ai gE (ai gF (ai g3 (ai g7 (ai d37 (ai d34 (ai d07 (ai d04 (ai f0 (ai f1 (ai f2 (ai f3 (ai f4 (ai f5 (ai f6 (ai f7 f8))))))))))))))))))))
   clear f8 f7 f6 f5 f4 f3 f2 f1 f0 d04 d07 d34 d37 g7 g3 gF gE gR gZ g2 g1 hd
   try simp only at e5 ⊢
   go_wp2_with fail
   obtain ⟨g1, g2, gZ, gR, gE, gF, g3, g7, d37, d34, d07, d04, f0, f1, f2, f3, f4, f5, f6, f7, f8⟩ := HF.out
   exact hK (gh, (upd (upd s 8 (.pointer (some ⟨w.heap.size, 1, none⟩))) 9 (.slice A' m d))) _ ⟨g1, g2, gZ, gR, gE, gF, g3, g7, d37, d34, d07, d04, f0, f1, f2, f3, f4, (fun _ => rfl), (fun _ => rfl), f7, f8⟩
  ·rintro L ⟨gh, s⟩ W hu hd hdn ⟨g1, g2, gZ, gR, gE, gF, g3, g7, d37, d34, d07, d04, f0, f1, f2, f3, f4, f5, f6, f7, f8⟩ K Q hK
   try dsimp only at g1 g2 gZ gR gE gF g3 g7 d37 d34 d07 d04 f0 f1 f2 f3 f4 f5 f6 f7 f8 ⊢
   have e4 := f4 (hd.at_ 4 rfl)
   have e6 := f6 (hd.at_ 6 rfl)
   have h9 : L 9 = false := by
    cases hc : L 9 with
    | false => rfl
    | true => exact hdn.no 9 7 hc rfl hu
   have HE := lh (gF (hd.at_ 4 rfl) hu)
   have HI := lh ((HT.out.links.below g1).more g1.size)
   have HO : Hid (Own W w.heap.size 52 5 (some ⟨gh.g4, 0, none⟩) 0 0 []) := Own.mk_ (by have := HE.out.2; omega) HE.out.1 (Nat.le_refl _) (Nat.zero_le _) rfl rfl (fun k hk => by omega)
   have HG1 := lh g1
   have h4 : L 4 = true := hd.at_ 4 rfl
   have hW := (gZ h9).lt
   have HF := lh (ai g1 (ai g2 (ai gZ (ai gR (ai gE (ai gF (ai g3 (ai g7 (ai d37 (ai d34 (ai d07 (ai d04 (ai f0 (ai f1 (ai f2 (ai f3 (ai f4 (ai f5 (ai f6 (ai f7 f8))))))))))))))))))))
   clear f8 f7 f6 f5 f4 f3 f2 f1 f0 d04 d07 d34 d37 g7 g3 gF gE gR gZ g2 g1 hd
   try simp only at e4 e6 ⊢
   go_wp2_with (at_builtin; refine wpList_append_any _ rfl _ _ rfl elem_link e4 HO.out e6 HI.out (links_one _) (by simpa using hm1) (by simpa using hm2) HG1.out.size ?_)
   rintro A2 c2 W1 hown hg hA
   have hg : W.grownBy W1 (some gh.g4) := hg
   go_wp2_with fail
   obtain ⟨g1, g2, gZ, gR, gE, gF, g3, g7, d37, d34, d07, d04, f0, f1, f2, f3, f4, f5, f6, f7, f8⟩ := HF.out
   have hg0 := HE.out.2
   have hA2 : Above (w.heap.size + 1) A2 := fun a ha => by
    rcases hA with h | h
    ·rw [h] at ha; cases ha; exact hg0
    ·rw [h] at ha; cases ha; exact hW
   exact hK ({ gh with A2 := A2, c2 := c2 }, (upd (upd (upd s 7 (.slice (some ⟨gh.g4, 0, none⟩) 0 0)) 9 (.slice A' m d)) 10 (.slice A2 m c2))) _ ⟨(g1.grown hg g1.size (fun k hk => by cases hk; omega)), (g2.grown hg (by intro e; have := Option.some.inj e; omega)), (fun h => (gZ h).grown hg (by intro e; have := Option.some.inj e; omega)), (fun h => hdn.no 9 7 h rfl hu), (fun h h3 => ⟨(gE h h3).1.grown hg (by intro e; have := Option.some.inj e; exact d04 h h4 h3 hu this), (gE h h3).2⟩), (fun _ h => by cases h), (fun h => ⟨(g3 h).1.grown hg (fun a ha => by intro e; exact d34 h h4 hu a ha (Option.some.inj e)), (g3 h).2⟩), (fun _ => ⟨hown, hA2⟩), (fun h3 _ => fun a b ha hb => by
         rcases hA with h | h
         ·rw [h] at hb; cases hb; exact d34 h3 h4 hu a ha
         ·rw [h] at hb; cases hb; exact fun e => by have := ((g3 h3).1.lt ha).2; simp at e; omega), (fun _ _ h => by cases h), (fun h0 _ h3 a ha => by
         rcases hA with h | h
         ·rw [h] at ha; cases ha; exact (d04 h0 h4 h3 hu).symm
         ·rw [h] at ha; cases ha; exact fun e => by have := (gE h0 h3).1.lt; simp at e; omega), (fun _ _ _ h => by cases h), f0, f1, f2, f3, (fun _ => rfl), f5, (fun _ => rfl), (fun _ => rfl), (fun h => hdn.no 8 7 h rfl hu)⟩
  ·rintro L ⟨gh, s⟩ W hu hd hdn ⟨g1, g2, gZ, gR, gE, gF, g3, g7, d37, d34, d07, d04, f0, f1, f2, f3, f4, f5, f6, f7, f8⟩ K Q hK
   try dsimp only at g1 g2 gZ gR gE gF g3 g7 d37 d34 d07 d04 f0 f1 f2 f3 f4 f5 f6 f7 f8 ⊢
   have e3 := f3 (hd.at_ 3 rfl)
   have e7 := f7 (hd.at_ 7 rfl)
   have HF := lh (ai g1 (ai g2 (ai gZ (ai gR (ai gE (ai gF (ai g3 (ai g7 (ai d37 (ai d34 (ai d07 (ai d04 (ai f0 (ai f1 (ai f2 (ai f3 (ai f4 (ai f5 (ai f6 (ai f7 f8))))))))))))))))))))
   clear f8 f7 f6 f5 f4 f3 f2 f1 f0 d04 d07 d34 d37 g7 g3 gF gE gR gZ g2 g1 hd
   try simp only at e3 e7 ⊢
   go_wp2_with fail
   obtain ⟨g1, g2, gZ, gR, gE, gF, g3, g7, d37, d34, d07, d04, f0, f1, f2, f3, f4, f5, f6, f7, f8⟩ := HF.out
   exact hK (gh, (upd (upd (upd s 6 (.slice gh.A1 n gh.c1)) 10 (.slice gh.A2 m gh.c2)) 11 (.agg #[.slice gh.A1 n gh.c1, .slice gh.A2 m gh.c2]))) _ ⟨g1, g2, gZ, gR, gE, gF, g3, g7, d37, d34, d07, d04, f0, f1, f2, (fun _ => rfl), f4, f5, f6, (fun _ => rfl), (fun _ => rfl)⟩
  ·rintro L ⟨gh, s⟩ W hu hd hdn ⟨g1, g2, gZ, gR, gE, gF, g3, g7, d37, d34, d07, d04, f0, f1, f2, f3, f4, f5, f6, f7, f8⟩ K Q hK
   try dsimp only at g1 g2 gZ gR gE gF g3 g7 d37 d34 d07 d04 f0 f1 f2 f3 f4 f5 f6 f7 f8 ⊢
   have e8 := f8 (hd.at_ 8 rfl)
   have G2 := gZ hu
   have c0 : W.cell? ⟨w.heap.size + 1, 0, none⟩ = some (.slice none 0 0) := G2.cell 0
   have c1 : W.cell? ⟨w.heap.size + 1, 1, none⟩ = some (.slice none 0 0) := G2.cell 1
   have y0 : W.frozen? ⟨w.heap.size + 1, 0, none⟩ = false := G2.frozen 0
   have y1 : W.frozen? ⟨w.heap.size + 1, 1, none⟩ = false := G2.frozen 1
   have HG2 := lh G2
   clear G2
   have HF := lh (ai g1 (ai g2 (ai gZ (ai gR (ai gE (ai gF (ai g3 (ai g7 (ai d37 (ai d34 (ai d07 (ai d04 (ai f0 (ai f1 (ai f2 (ai f3 (ai f4 (ai f5 (ai f6 (ai f7 f8))))))))))))))))))))
   clear f8 f7 f6 f5 f4 f3 f2 f1 f0 d04 d07 d34 d37 g7 g3 gF gE gR gZ g2 g1 hd
   try simp only at e8 ⊢
   go_wp2_with fail
   obtain ⟨g1, g2, gZ, gR, gE, gF, g3, g7, d37, d34, d07, d04, f0, f1, f2, f3, f4, f5, f6, f7, f8⟩ := HF.out
   have hg : W.grownBy ((W.setCell ⟨w.heap.size + 1, 0, none⟩ (.slice gh.A1 n gh.c1)).setCell ⟨w.heap.size + 1, 1, none⟩ (.slice gh.A2 m gh.c2)) (some (w.heap.size + 1)) := grown_setCell (grown_setCell (grown_refl _ _) (p := ⟨w.heap.size + 1, 0, none⟩) (.inl rfl) _) (p := ⟨w.heap.size + 1, 1, none⟩) (.inl rfl) _
   exact hK (gh, (upd s 11 (.agg #[.slice gh.A1 n gh.c1, .slice gh.A2 m gh.c2]))) _ ⟨(g1.grown hg g1.size (fun k hk => by cases hk; omega)), (g2.grown hg (by intro e; have := Option.some.inj e; omega)), (fun h => by cases h), (fun _ => (HG2.out.set_ 0 (.slice gh.A1 n gh.c1)).set_ 1 (.slice gh.A2 m gh.c2)), (fun h h3 => ⟨(gE h h3).1.grown hg (by have := (gE h h3).2; intro e; have := Option.some.inj e; omega), (gE h h3).2⟩), (fun h h3 => ⟨(gF h h3).1.grown hg (by have := (gF h h3).2; intro e; have := Option.some.inj e; omega), (gF h h3).2⟩), (fun h => ⟨(g3 h).1.grown hg (fun a ha => by have := (g3 h).2 a ha; intro e; have := Option.some.inj e; omega), (g3 h).2⟩), (fun h => ⟨(g7 h).1.grown hg (fun a ha => by have := (g7 h).2 a ha; intro e; have := Option.some.inj e; omega), (g7 h).2⟩), d37, d34, d07, d04, f0, f1, f2, f3, f4, f5, f6, f7, (fun _ => rfl)⟩
 ·rintro L ⟨gh, s⟩ W hall ⟨g1, g2, gZ, gR, gE, gF, g3, g7, d37, d34, d07, d04, f0, f1, f2, f3, f4, f5, f6, f7, f8⟩
  have G := gR (hall 9 (by decide))
  have G3 := g3 (hall 3 (by decide))
  have G7 := g7 (hall 7 (by decide))
  have DD := lh (d37 (hall 3 (by decide)) (hall 7 (by decide)))
  have z0 := G.cell 0
  have z1 := G.cell 1
  have HG3 := lh G3
  have HG7 := lh G7
  have HG1 := lh g1
  clear hall g1 g2 gZ gR gE gF g3 g7 d37 d34 d07 d04 f0 f1 f2 f3 f4 f5 f6 f7 f8 G G3 G7
  simp only
  go_wp2_with fail
  refine bodyPost_ret (v := .agg #[.slice gh.A1 n gh.c1, .slice gh.A2 m gh.c2]) (by simp [results, Tryz.results71, go_sem, z0, z1]) rfl ?_
  refine ⟨gh.A1, gh.c1, gh.A2, gh.c2, ?_, ?_, ?_, DD.out, HG1.out⟩
  ·rw [HLn.out, HLm.out]
  ·rw [HLn.out]; exact HG3.out.1
  ·rw [HLm.out]; exact HG7.out.1
end
section
open Go.RowKit
structure WoAt (w : World) (G : Nat) (t : Town) (n : Nat) (p : Link → Bool) (i : Nat) (wr : World) (AP : Option Addr) (cP : Nat) (AK : Option Addr) (cK : Nat) : Prop where
 box : Blk wr G 25 #[.slice AP n cP, .slice AK ((t.links.take i).filter fun x => !p x).length cK]
 places : Own wr w.heap.size 3 1 AP n cP (t.places.map (Value.int .i64))
 links : Own wr w.heap.size 52 5 AK ((t.links.take i).filter fun x => !p x).length cK (((t.links.take i).filter fun x => !p x).flatMap Link.vals)
 apart : Apart AP AK
 boxP : ∀ a, AP = some a → a.block ≠ G
 boxK : ∀ a, AK = some a → a.block ≠ G
 upP : Above (w.heap.size + 1) AP
 upK : Above (w.heap.size + 1) AK
 bel : Below w.heap.size w wr
 zbox : Blk wr (w.heap.size + 1) 25 #[.slice none 0 0, .slice none 0 0]
 hG : w.heap.size + 1 < G
section
variable {w : World} {G : Nat} {t : Town} {n : Nat} {p : Link → Bool} {i : Nat} {wr w' : World} {AP : Option Addr} {cP : Nat} {AK : Option Addr} {cK : Nat} {x : Link}
theorem WoAt.below (h : WoAt w G t n p i wr AP cP AK cK) (hb : Below wr.heap.size wr w') : WoAt w G t n p i w' AP cP AK cK :=
 ⟨h.box.below hb h.box.lt, h.places.below hb (Nat.le_refl _), h.links.below hb (Nat.le_refl _), h.apart, h.boxP, h.boxK, h.upP, h.upK, h.bel.trans (hb.mono h.bel.size), h.zbox.below hb h.zbox.lt, h.hG⟩
theorem WoAt.skip (h : WoAt w G t n p i wr AP cP AK cK) (hx : t.links[i]? = some x) (hp : p x = true) : WoAt w G t n p (i + 1) wr AP cP AK cK := by
 obtain ⟨hj, rfl⟩ := List.getElem?_eq_some_iff.1 hx
 have e1 : ((t.links.take (i + 1)).filter fun x => !p x) = (t.links.take i).filter fun x => !p x := by
  rw [List.take_succ_eq_append_getElem hj, List.filter_append]; simp [hp]
 exact ⟨by rw [e1]; exact h.box, h.places, by rw [e1]; exact h.links, h.apart, h.boxP, h.boxK, h.upP, h.upK, h.bel, h.zbox, h.hG⟩
theorem WoAt.keep (h : WoAt w G t n p i wr AP cP AK cK) (hx : t.links[i]? = some x) (hp : p x = false) {A2 : Option Addr} {c2 : Nat}
  (hown : Own w' w.heap.size 52 5 A2 (((t.links.take i).filter fun x => !p x).length + 1) c2 (((t.links.take i).filter fun x => !p x).flatMap Link.vals ++ x.vals)) (hg : wr.grownBy w' (AK.map (·.block))) (hA : A2 = AK ∨ ∃ b, wr.heap.size ≤ b ∧ A2 = some ⟨b, 0, none⟩) :
  WoAt w G t n p (i + 1) (w'.setCell ⟨G, 1, none⟩ (.slice A2 (((t.links.take i).filter fun x => !p x).length + 1) c2)) AP cP A2 c2 := by
 obtain ⟨hj, rfl⟩ := List.getElem?_eq_some_iff.1 hx
 have e1 : ((t.links.take (i + 1)).filter fun x => !p x) = ((t.links.take i).filter fun x => !p x) ++ [t.links[i]] := by
  rw [List.take_succ_eq_append_getElem hj, List.filter_append]; simp [hp]
 have e2 : (((t.links.take i).filter fun x => !p x) ++ [t.links[i]]).length = ((t.links.take i).filter fun x => !p x).length + 1 := by simp
 have e3 : (((t.links.take i).filter fun x => !p x) ++ [t.links[i]]).flatMap Link.vals = ((t.links.take i).filter fun x => !p x).flatMap Link.vals ++ t.links[i].vals := by simp
 have hrow : ∀ k, (∀ a, AK = some a → a.block ≠ k) → some k ≠ AK.map (·.block) := by
  intro k hk
  cases AK with
  | none => simp
  | some a => simpa using (hk a rfl).symm
 have nG : ∀ a, A2 = some a → a.block ≠ G := by
  intro a ha
  rcases hA with hA | ⟨b, hb, hA⟩
  ·rw [hA] at ha; exact h.boxK a ha
  ·rw [hA] at ha; cases ha
   have := h.box.lt
   exact fun e => by simp at e; omega
 have hs : ∀ u : Value, w'.grownBy (w'.setCell ⟨G, 1, none⟩ u) (some G) := fun u => grown_setCell (grown_refl _ _) (p := ⟨G, 1, none⟩) (.inl rfl) u
 have hGl := h.hG
 rw [← e2] at hown ⊢
 refine ⟨?_, ?_, ?_, ?_, h.boxP, nG, h.upP, ?_, ?_, ?_, h.hG⟩
 ·rw [e1]
  exact (h.box.grown hg (hrow G h.boxK)).set_ 1 _
 ·exact (h.places.grown hg (fun a ha => row_ne h.apart ha)).grown (hs _) (fun a ha e => h.boxP a ha (Option.some.inj e))
 ·rw [e1, e3]
  exact hown.grown (hs _) (fun a ha e => nG a ha (Option.some.inj e))
 ·intro a b ha hb
  rcases hA with hA | ⟨b', hb', hA⟩
  ·rw [hA] at hb; exact h.apart a b ha hb
  ·rw [hA] at hb; cases hb
   have := (h.places.lt ha).2
   exact fun e => by simp at e; omega
 ·intro a ha
  rcases hA with hA | ⟨b, hb, hA⟩
  ·rw [hA] at ha; exact h.upK a ha
  ·rw [hA] at ha; cases ha
   have := h.zbox.lt
   show w.heap.size + 1 < b
   have := h.box.lt
   omega
 ·refine Below.setCell (h.bel.grown hg h.bel.size (fun k hk => ?_)) (p := ⟨G, 1, none⟩) (by show w.heap.size ≤ G; omega) _
  cases AK with
  | none => cases hk
  | some a => have := h.upK a rfl; simp at hk; omega
 ·exact (h.zbox.grown hg (hrow _ (fun a ha e => by have := h.upK a ha; omega))).grown (hs _) (by intro e; have := Option.some.inj e; omega)
end
end
section
open Go.RowKit
set_option maxRecDepth 100000 in
set_option maxHeartbeats 4000000 in
theorem shut_any (A : Option Addr) (n c : Nat) (A' : Option Addr) (m d : Nat) (t : Town) (place : Int) (w : World) (hn : n ≤ 1000) (hm : m ≤ 1000) (ht : TownAt w w.heap.size A n A' m t) :
  Calls Tryz.prog 28 #[.agg #[.slice A n c, .slice A' m d], .int .i64 place] w fun e w' => TownOut w e w' (lessT t (ofGate place)) := by
 have HT := lh ht
 have HLn := lh ht.places.len
 have HLm := lh ht.links.len
 clear ht
 go_enter Tryz.func28, Tryz.ntmps28
 go_wp2_with fail
 have X0 := (Blk.new w 25 #[.slice A n c, .slice A' m d]).alloc (.cells #[.slice none 0 0, .slice none 0 0] 25)
 have Z0 := Blk.new (w.alloc (.cells #[.slice A n c, .slice A' m d] 25)) 25 #[.slice none 0 0, .slice none 0 0]
 have B0 : Below w.heap.size w ((w.alloc (.cells #[.slice A n c, .slice A' m d] 25)).alloc (.cells #[.slice none 0 0, .slice none 0 0] 25)) := ((Below.refl _ _).alloc (Nat.le_refl _) _).alloc (by simp) _
 rw [World.size_alloc] at Z0
 generalize ((w.alloc (.cells #[.slice A n c, .slice A' m d] 25)).alloc (.cells #[.slice none 0 0, .slice none 0 0] 25)) = w0 at *
 have hz0 := Z0.lt
 with_reducible refine (twin_any A n c A' m d t w0 hn hm ((HT.out.below B0).more B0.size)).mono ?_
 rintro e w1 ⟨AP, cP, AK, cK, rfl, hP, hK, hPK, hb1⟩
 have hUP : Above (w.heap.size + 1) AP := fun a ha => by have := (hP.lt ha).1; omega
 have hlP : ∀ a, AP = some a → a.block < w1.heap.size := fun a ha => (hP.lt ha).2
 have hP' := hP.mono B0.size
 clear hP hK hPK
 replace X0 := X0.below hb1 X0.lt
 replace Z0 := Z0.below hb1 Z0.lt
 replace B0 := B0.trans (hb1.mono B0.size)
 have x0 := X0.cell 0
 have x1 := X0.cell 1
 have hz1 := Z0.lt
 have hx1 := X0.lt
 have hx2 : ¬ w.heap.size = w1.heap.size := by omega
 rw [HLn.out] at hP'
 rw [HLn.out, HLm.out]
 have HP := lh hP'
 have HPl := lh hlP
 have HUP := lh hUP
 clear hP' hlP hUP hb1
 go_wp2_with fail
 have hW0 : WoAt w w1.heap.size t n (ofGate place) 0 (w1.alloc (.cells #[.slice AP n cP, .slice none 0 0] 25)) AP cP none 0 := by
  refine ⟨Blk.new w1 _ _, HP.out.alloc _, Own.none_ _ _ _ _, (fun _ _ _ h => by cases h), (fun a ha e => by have := HPl.out a ha; omega), (fun _ h => by cases h), HUP.out, (fun _ h => by cases h), B0.alloc B0.size _, Z0.alloc _, hz1⟩
 have HW0 := lh hW0
 clear hW0 x0 x1 X0 Z0 HPl HUP HP hx1 hx2
 generalize (w1.alloc (.cells #[.slice AP n cP, .slice none 0 0] 25)) = w2 at *
 go_loopw [14] (fun vi wr => ∃ (i : Nat) (AK : Option Addr) (cK : Nat), i ≤ m ∧ vi = .int .i64 i ∧ WoAt w w1.heap.size t n (ofGate place) i wr AP cP AK cK)
  (fun vi _ => m - (intOf vi).toNat)
 case atStart => exact ⟨0, none, 0, by omega, rfl, HW0.out⟩
 case round =>
  obtain ⟨i, AK, cK, hi, rfl, hW⟩ := hrel
  have HW := lh hW
  clear hW
  by_cases hlt : i < m
  ·obtain ⟨b, off, x, rfl, hbB, hx, hc0, hc1, hc2, hc3, hc4⟩ := (HT.out.links.below HW.out.bel).cell hlt
   have HX := lh hx
   clear hx
   go_upto_region 6 with fail
   have X1 := Blk.new wr 52 #[.int .i64 x.id, .int .i64 x.fr, .int .i64 x.to, .int .i64 x.steps, .int .i64 x.paces]
   have hb1 : Below wr.heap.size wr (wr.alloc (.cells #[.int .i64 x.id, .int .i64 x.fr, .int .i64 x.to, .int .i64 x.steps, .int .i64 x.paces] 52)) := (Below.refl _ _).alloc (Nat.le_refl _) _
   have HW1 := lh (HW.out.below hb1)
   clear hc0 hc1 hc2 hc3 hc4 HW hb1
   generalize (wr.alloc (.cells #[.int .i64 x.id, .int .i64 x.fr, .int .i64 x.to, .int .i64 x.steps, .int .i64 x.paces] 52)) = w3 at *
   have x0 := X1.cell 0
   have x1 := X1.cell 1
   have x2 := X1.cell 2
   have x3 := X1.cell 3
   have x4 := X1.cell 4
   have hxl := X1.lt
   cases hfr : (x.fr == place) with
   | true =>
    have hfr' : (x.fr != place) = false := by simp only [bne, hfr]; rfl
    have HP := lh (show ofGate place x = true by unfold ofGate; rw [hfr]; rfl)
    clear hfr
    go_wp2_with fail
    go_roundw
    case rel => exact ⟨i + 1, AK, cK, by omega, by go_num, HW1.out.skip HX.out HP.out⟩
    case measure => simp [intOf]; omega
   | false =>
    have hfr' : (x.fr != place) = true := by simp only [bne, hfr]; rfl
    cases hto : (x.to == place) with
    | true =>
     have hto' : (x.to != place) = false := by simp only [bne, hto]; rfl
     have HP := lh (show ofGate place x = true by unfold ofGate; rw [hto]; simp)
     clear hfr hto
     go_wp2_with fail
     go_roundw
     case rel => exact ⟨i + 1, AK, cK, by omega, by go_num, HW1.out.skip HX.out HP.out⟩
     case measure => simp [intOf]; omega
    | false =>
     have hto' : (x.to != place) = true := by simp only [bne, hto]; rfl
     have HP := lh (show ofGate place x = false by unfold ofGate; rw [hfr, hto]; rfl)
     clear hfr hto
     have b1 := HW1.out.box.cell 1
     have hlen : ((t.links.take i).filter fun x => !ofGate place x).length ≤ i := by
      have h1 := List.length_filter_le (fun x : Link => !ofGate place x) (t.links.take i)
      have h2 := List.length_take_le i t.links
      omega
     have HLen := lh hlen
     have HS3 := lh HW1.out.bel.size
     clear hlen
     go_wp2_with (at_builtin; refine wpList_append_any _ rfl _ _ rfl elem_link rfl (HW1.out.links.alloc _) rfl (one_link (Blk.new w3 _ _) (Nat.lt_succ_self _)) (vals_one x) (by have := HLen.out; unfold maxLen; omega) (by have := HLen.out; omega) (by have := HS3.out; simp; omega) ?_)
     all_goals
      rintro A3 c3 W1 hown hg hA
      have HW2 := HW1.out.below ((Below.refl w3.heap.size w3).alloc (Nat.le_refl _) (.cells #[.int .i64 x.id, .int .i64 x.fr, .int .i64 x.to, .int .i64 x.steps, .int .i64 x.paces] 52))
      have HGrow := lh (show w3.grownBy W1 (AK.map (·.block)) from grown_trans (grown_of_below ((Below.refl w3.heap.size w3).alloc (Nat.le_refl _) (.cells #[.int .i64 x.id, .int .i64 x.fr, .int .i64 x.to, .int .i64 x.steps, .int .i64 x.paces] 52)) _) hg)
      have hrow : some w1.heap.size ≠ AK.map (·.block) := by
       intro e
       cases AK with
       | none => cases e
       | some a => exact HW1.out.boxK a rfl (Option.some.inj e).symm
      have hbox := HW1.out.box.grown HGrow.out hrow
      have q0 := hbox.frozen 1
      have q1 := hbox.cell 1
      have HA : Hid (A3 = AK ∨ ∃ b, w3.heap.size ≤ b ∧ A3 = some ⟨b, 0, none⟩) := by
       rcases hA with h | h
       ·exact .inl h
       ·exact .inr ⟨_, by simp, h⟩
      have HOwn := lh hown
      clear hown hg hA x0 x1 x2 x3 x4 b1 hbox hrow HW2 hxl
      go_wp2_with fail
      go_roundw
      case rel => exact ⟨i + 1, A3, c3, by omega, by go_num, by
       have h1 := HW1.out.keep HX.out (HP.out) HOwn.out HGrow.out HA.out
       exact h1⟩
      case measure => simp [intOf]; omega
  ·obtain rfl : i = m := by omega
   have b0 := HW.out.box.cell 0
   have b1 := HW.out.box.cell 1
   have z0 := HW.out.zbox.cell 0
   have z1 := HW.out.zbox.cell 1
   have q0 := HW.out.zbox.frozen 0
   have q1 := HW.out.zbox.frozen 1
   go_wp2_with fail
   have hfin : ((t.links.take i).filter fun x => !ofGate place x) = (lessT t (ofGate place)).links := by
    rw [List.take_of_length_le (by have := HLm.out; omega)]; rfl
   have HFin := lh hfin
   clear hfin
   have hs : ∀ (u v : Value), wr.grownBy ((wr.setCell ⟨w.heap.size + 1, 0, none⟩ u).setCell ⟨w.heap.size + 1, 1, none⟩ v) (some (w.heap.size + 1)) := fun u v => grown_setCell (grown_setCell (grown_refl _ _) (p := ⟨w.heap.size + 1, 0, none⟩) (.inl rfl) _) (p := ⟨w.heap.size + 1, 1, none⟩) (.inl rfl) _
   refine bodyPost_ret (v := .agg #[.slice AP n cP, .slice AK ((t.links.take i).filter fun x => !ofGate place x).length cK]) (by simp [results, Tryz.results28, go_sem, z0, z1]) rfl ?_
   refine ⟨AP, cP, AK, cK, ?_, ?_, ?_, HW.out.apart, (HW.out.bel.setCell (p := ⟨w.heap.size + 1, 0, none⟩) (Nat.le_succ _) _).setCell (p := ⟨w.heap.size + 1, 1, none⟩) (Nat.le_succ _) _⟩
   ·rw [HFin.out, show (lessT t (ofGate place)).places.length = n from HLn.out]
   ·rw [show (lessT t (ofGate place)).places.length = n from HLn.out]
    exact HW.out.places.grown (hs _ _) (fun a ha e => by have := HW.out.upP a ha; have := Option.some.inj e; omega)
   ·rw [← HFin.out]
    exact HW.out.links.grown (hs _ _) (fun a ha e => by have := HW.out.upK a ha; have := Option.some.inj e; omega)
end
section
open Go.RowKit
def infC : Cost := ⟨1000000000, 0, 0, 0⟩
def entC (r : Option Cost) : Cost := r.getD infC
def eVals (E : List (Option Cost)) : List Value := E.flatMap fun r => (entC r).vals
theorem eVals_cons (r : Option Cost) (E : List (Option Cost)) : eVals (r :: E) = .int .i64 (entC r).a :: .int .i64 (entC r).b :: .int .i64 (entC r).c :: .int .i64 (entC r).d :: eVals E := by simp [eVals, Cost.vals]
theorem eVals_len (E : List (Option Cost)) : (eVals E).length = E.length * 4 := by
 induction E with
 | nil => rfl
 | cons r E ih => rw [eVals_cons]; simp [ih]; omega
theorem eVals_at {E : List (Option Cost)} {k j : Nat} {r : Option Cost} (h : E[k]? = some r) (hj : j < 4) : (eVals E)[k * 4 + j]? = (entC r).vals[j]? := by
 induction E generalizing k with
 | nil => simp at h
 | cons y l ih =>
  rw [eVals_cons]
  cases k with
  | zero =>
   simp at h
   subst h
   rcases (show j = 0 ∨ j = 1 ∨ j = 2 ∨ j = 3 by omega) with rfl | rfl | rfl | rfl <;> rfl
  | succ k =>
   have e : (k + 1) * 4 + j = (k * 4 + j) + 1 + 1 + 1 + 1 := by omega
   rw [e]
   simp only [List.getElem?_cons_succ]
   exact ih (by simpa using h)
theorem eVals_set {E : List (Option Cost)} {k : Nat} {r : Option Cost} (hk : k < E.length) :
  ((((eVals E).set (k * 4) (.int .i64 (entC r).a)).set (k * 4 + 1) (.int .i64 (entC r).b)).set (k * 4 + 2) (.int .i64 (entC r).c)).set (k * 4 + 3) (.int .i64 (entC r).d) = eVals (E.set k r) := by
 induction E generalizing k with
 | nil => simp at hk
 | cons y l ih =>
  cases k with
  | zero => simp only [eVals_cons, List.set_cons_zero]; rfl
  | succ k =>
   have e : (k + 1) * 4 = k * 4 + 1 + 1 + 1 + 1 := by omega
   have e1 : (k + 1) * 4 + 1 = (k * 4 + 1) + 1 + 1 + 1 + 1 := by omega
   have e2 : (k + 1) * 4 + 2 = (k * 4 + 2) + 1 + 1 + 1 + 1 := by omega
   have e3 : (k + 1) * 4 + 3 = (k * 4 + 3) + 1 + 1 + 1 + 1 := by omega
   rw [e1, e2, e3, e, List.set_cons_succ, eVals_cons, eVals_cons]
   simp only [List.set_cons_succ]
   rw [ih (by simpa using hk)]
theorem eVals_inf {E : List (Option Cost)} {k : Nat} (h : E[k]? = some (some zeroC)) : (eVals E).set (k * 4) (.int .i64 1000000000) = eVals (E.set k none) := by
 induction E generalizing k with
 | nil => simp at h
 | cons y l ih =>
  cases k with
  | zero =>
   simp at h
   subst h
   simp only [eVals_cons, List.set_cons_zero]; rfl
  | succ k =>
   have e : (k + 1) * 4 = k * 4 + 1 + 1 + 1 + 1 := by omega
   rw [e, List.set_cons_succ, eVals_cons, eVals_cons]
   simp only [List.set_cons_succ]
   rw [ih (by simpa using h)]
theorem eVals_zero (n : Nat) : eVals (List.replicate n (some zeroC)) = List.replicate (n * 4) (.int .i64 0) := by
 induction n with
 | zero => rfl
 | succ n ih =>
  have e : (n + 1) * 4 = n * 4 + 1 + 1 + 1 + 1 := by omega
  rw [List.replicate_succ, eVals_cons, ih, e]
  rfl
theorem made_zero (n : Nat) : madeCells #[.int .i64 0, .int .i64 0, .int .i64 0, .int .i64 0] (n * 4) = (eVals (List.replicate n (some zeroC))).toArray := by
 rw [eVals_zero]
 unfold madeCells
 apply Array.ext'
 rw [Array.toList_map]
 apply List.ext_getElem
 ·simp
 ·intro i h1 h2
  simp
  rcases (show i % 4 = 0 ∨ i % 4 = 1 ∨ i % 4 = 2 ∨ i % 4 = 3 by omega) with h | h | h | h <;> simp [h]
theorem lessC_cmp (x y : Cost) : lessC x y = decide (cmpL x.list y.list < 0) := by
 unfold lessC
 simp only [cmpL, Cost.list]
 by_cases h1 : x.a = y.a
 ·by_cases h2 : x.b = y.b
  ·by_cases h3 : x.c = y.c
   ·by_cases h4 : x.d = y.d
    ·simp [h1, h2, h3, h4]
    ·rcases (show x.d < y.d ∨ y.d < x.d by omega) with h | h
     ·simp [h1, h2, h3, h4, h]
     ·simp [h1, h2, h3, h4, h, show ¬ x.d < y.d by omega]
   ·rcases (show x.c < y.c ∨ y.c < x.c by omega) with h | h
    ·simp [h1, h2, h3, h]
    ·simp [h1, h2, h3, h, show ¬ x.c < y.c by omega]
  ·rcases (show x.b < y.b ∨ y.b < x.b by omega) with h | h
   ·simp [h1, h2, h]
   ·simp [h1, h2, h, show ¬ x.b < y.b by omega]
 ·rcases (show x.a < y.a ∨ y.a < x.a by omega) with h | h
  ·simp [h1, h]
  ·simp [h1, h, show ¬ x.a < y.a by omega]
theorem leE_zero {E : List (Option Cost)} {i : Nat} (h : E[i]? = some (some zeroC)) : leE E i zeroC := ⟨zeroC, h, by simp [cmpL, Cost.list]⟩
theorem BSt.start {t : Town} {dk : Bool} {p : Price} {to : Int} {E : List (Option Cost)} (hl : E.length = t.places.length) (h : ∀ (i : Nat) v, t.places[i]? = some v → E[i]? = some (if v = to then some zeroC else none)) : BSt t dk p to 0 0 0 0 E := by
 refine ⟨hl, ?_, ?_, ?_, fun i' hi => absurd hi (by omega), fun v _ x hx => by simp at hx⟩
 ·intro i v c hv hc
  rw [h i v hv] at hc
  by_cases e : v = to
  ·rw [if_pos e] at hc
   cases hc
   subst e
   exact ⟨[], .nil _, by simp⟩
  ·rw [if_neg e] at hc
   cases hc
 ·intro i hi
  exact leE_zero (by rw [h i to hi, if_pos rfl])
 ·intro i v c l hv hw hlen
  obtain rfl : l = [] := List.length_eq_zero_iff.1 (by omega)
  cases hw
  exact leE_zero (by rw [h i _ hv, if_pos rfl])
structure Little (x : Cost) : Prop where
 a : 0 ≤ x.a ∧ x.a ≤ 250000000
 b : 0 ≤ x.b ∧ x.b ≤ 1000000
 c : 0 ≤ x.c ∧ x.c ≤ 4000000
 d : 0 ≤ x.d ∧ x.d ≤ 2000
theorem BSt.little {t : Town} {dk : Bool} {p : Price} {to : Int} {k i j M : Nat} {E : List (Option Cost)} (h : BSt t dk p to k i j M E) (ht : Fine t) (hp : Fair p) (hM : M ≤ 2000) {q : Nat} {d : Cost} (hd : E[q]? = some (some d)) : Little d := by
 have hq : q < t.places.length := by rw [← h.len]; exact (List.getElem?_eq_some_iff.1 hd).1
 obtain ⟨l, hw, hl⟩ := h.sound q _ d (List.getElem?_eq_getElem hq) hd
 have := hw.bound ht hp
 exact ⟨by omega, by omega, by omega, by omega⟩
def EAt (w : World) (B : Nat) (A : Option Addr) (n : Nat) (E : List (Option Cost)) : Prop := Reads w B 4 A n (eVals E)
end
section
open Go.RowKit Go.Shelf
structure RWSt (w : World) (T : Array Value) (p : Price) (co : Cost) (W : World) : Prop where
 bel : Below w.heap.size w W
 tb : Blk W w.heap.size 25 T
 pb : Blk W (w.heap.size + 1) 122 #[.int .i64 p.pace, .int .i64 p.up, .int .i64 p.step]
 rb : Blk W (w.heap.size + 1 + 1) 118 #[.int .i64 0, .int .i64 0, .int .i64 0, .int .i64 0]
 sb : Blk W (w.heap.size + 1 + 1 + 1) 118 #[.int .i64 co.a, .int .i64 co.b, .int .i64 co.c, .int .i64 co.d]
theorem RWSt.below {w W W' : World} {T : Array Value} {p : Price} {co : Cost} (h : RWSt w T p co W) (hb : Below W.heap.size W W') : RWSt w T p co W' :=
 ⟨h.bel.trans (hb.mono h.bel.size), h.tb.below hb h.tb.lt, h.pb.below hb h.pb.lt, h.rb.below hb h.rb.lt, h.sb.below hb h.sb.lt⟩
theorem ret4 {w W : World} {B g : Nat} {t : TypeId} {z0 z1 z2 z3 : Value} (R : Blk W g t #[z0, z1, z2, z3]) (L : Below B w W) (hg : B ≤ g) (v0 v1 v2 v3 : Value) :
  Blk ((((W.setCell ⟨g, 0, none⟩ v0).setCell ⟨g, 1, none⟩ v1).setCell ⟨g, 2, none⟩ v2).setCell ⟨g, 3, none⟩ v3) g t #[v0, v1, v2, v3] ∧ Below B w ((((W.setCell ⟨g, 0, none⟩ v0).setCell ⟨g, 1, none⟩ v1).setCell ⟨g, 2, none⟩ v2).setCell ⟨g, 3, none⟩ v3) :=
 ⟨(((R.set_ 0 v0).set_ 1 v1).set_ 2 v2).set_ 3 v3, (((L.setCell (p := ⟨g, 0, none⟩) hg _).setCell (p := ⟨g, 1, none⟩) hg _).setCell (p := ⟨g, 2, none⟩) hg _).setCell (p := ⟨g, 3, none⟩) hg _⟩
theorem RWSt.put {w W : World} {T : Array Value} {p : Price} {co : Cost} (h : RWSt w T p co W) (d : Cost) : RWSt w T p d ((((W.setCell ⟨w.heap.size + 1 + 1 + 1, 0, none⟩ (.int .i64 d.a)).setCell ⟨w.heap.size + 1 + 1 + 1, 1, none⟩ (.int .i64 d.b)).setCell ⟨w.heap.size + 1 + 1 + 1, 2, none⟩ (.int .i64 d.c)).setCell ⟨w.heap.size + 1 + 1 + 1, 3, none⟩ (.int .i64 d.d)) := by
 have X := ret4 (w := W) (B := w.heap.size + 1 + 1 + 1) h.sb (Below.refl _ _) (Nat.le_refl _) (.int .i64 d.a) (.int .i64 d.b) (.int .i64 d.c) (.int .i64 d.d)
 have Y := (ret4 h.sb h.bel (by omega) (.int .i64 d.a) (.int .i64 d.b) (.int .i64 d.c) (.int .i64 d.d)).2
 exact ⟨Y, h.tb.below X.2 (by omega), h.pb.below X.2 (by omega), h.rb.below X.2 (by omega), X.1⟩
end
end Go.Proofs.YtahkjagjcogeiaaGreatDoor
