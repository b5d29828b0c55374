/- Part 11 of the texts of this claim, joined. -/
import Derived.Deep.RegionHeld3
import Derived.Sort.CutIn
import Derived.Laws.MakeOwn
import Derived.Sort.LoopGhostIn
import Derived.ChangeKeysEq
import Derived.Test.YtahkjagjcogeiaaGreatDoorZxWet10
set_option linter.unusedVariables false
/- The law's stroll: by links, by numbers. -/
namespace Go.Proofs.YtahkjagjcogeiaaGreatDoor
section
open Go.RowKit
theorem step_append_any {P : Program} {w : World} {ops : Array Oper} {o : Oper} {a : Act} {K : Act → World → Prop} {Q : Exit → Act → World → Prop} {E : Prop} (hgd : o.guard = none) (s x : Operand) {t e : TypeId}
  (ho : o.op = .call { callee := .builtin .append, args := #[s, x], argTypes := #[t, t] })
  {z : Value} {size bytes : Nat} (EE : ElemAt P t e z size bytes) {base : Nat} {A : Option Addr} {n cap : Nat} {xs : List Value} (hs : a.eval s = .slice A n cap) (hown : Own w base e size A n cap xs)
  {A2 : Option Addr} {m c B : Nat} {news : List Value} (hx : a.eval x = .slice A2 m c) (hR : Reads w B size A2 m news) (h1 : ∀ u ∈ news, u.oneCell' = true) (h63 : n + m ≤ maxLen) (hbytes : (n + m) * bytes ≤ 140737488355328) (hbase : base ≤ w.heap.size)
  (h : ∀ A' cap' w', Own w' base e size A' (n + m) cap' (xs ++ news) → w.grownBy w' (A.map (·.block)) → K (a.put o.dst (.slice A' (n + m) cap')) w') :
  if Region.wanted o (yielded ops a.tmps) = true then Oper.wp P o a w K Q else E := by
 have hw : Region.wanted o (yielded ops a.tmps) = true := by simp [Region.wanted, hgd]
 rw [if_pos hw]
 obtain ⟨A', cap', w', hr, h2, h3, h4⟩ := run_append_any (P := P) w o.type EE hown hR (c := c) h1 h63 hbytes hbase
 unfold Oper.wp execOp
 simp only [ho, resolve, invoke, builtin, Sem.run_bind, Sem.run_pure, Result.andThen_ok, List.map_toArray, List.map_cons, List.map_nil, hs, hx, hr]
 exact h A' cap' w' h2 h3
theorem own_set7 {w : World} {base size n cap g : Nat} {e : TypeId} {A : Option Addr} {xs : List Value} (h : Own w base e size A n cap xs) (hg : g < base) (v0 v1 v2 v3 v4 v5 v6 : Value) :
  Own (((((((w.setCell ⟨g, 0, none⟩ v0).setCell ⟨g, 1, none⟩ v1).setCell ⟨g, 2, none⟩ v2).setCell ⟨g, 3, none⟩ v3).setCell ⟨g, 4, none⟩ v4).setCell ⟨g, 5, none⟩ v5).setCell ⟨g, 6, none⟩ v6) base e size A n cap xs :=
 h.grown (grown_setCell (grown_setCell (grown_setCell (grown_setCell (grown_setCell (grown_setCell (grown_setCell (grown_refl w (some g)) (p := ⟨g, 0, none⟩) (.inl rfl) v0) (p := ⟨g, 1, none⟩) (.inl rfl) v1) (p := ⟨g, 2, none⟩) (.inl rfl) v2) (p := ⟨g, 3, none⟩) (.inl rfl) v3) (p := ⟨g, 4, none⟩) (.inl rfl) v4) (p := ⟨g, 5, none⟩) (.inl rfl) v5) (p := ⟨g, 6, none⟩) (.inl rfl) v6)
  (fun a ha e => by have := (h.lt ha).1; have := Option.some.inj e; omega)
theorem Lay.grown_own {w W W' : World} {B : Nat} {row : Option Nat} {t0 t1 t2 : TypeId} {c0 c1 c2 : Array Value} (h : Lay w W [(w.heap.size, t0, c0), (w.heap.size + 1, t1, c1), (w.heap.size + 1 + 1, t2, c2)]) (hg : W.grownBy W' row) (hr : ∀ j, row = some j → B ≤ j) (hB : w.heap.size + 1 + 1 < B) : Lay w W' [(w.heap.size, t0, c0), (w.heap.size + 1, t1, c1), (w.heap.size + 1 + 1, t2, c2)] :=
 lay3 (h.1.grown hg h.1.size (fun j hj => by have := hr j hj; omega)) (Nat.le_refl _) ((h.blk 0 rfl).grown hg (fun e => by have := hr _ e.symm; omega)) ((h.blk 1 rfl).grown hg (fun e => by have := hr _ e.symm; omega)) ((h.blk 2 rfl).grown hg (fun e => by have := hr _ e.symm; omega))
def StrollOut (w : World) (t : Town) (dk : Bool) (u : Int) (n : Nat) (e : Ending) (w' : World) : Prop :=
 ∃ (g : Gone) (l : List Int) (B : Option Addr) (q : Nat), e = .returned (.tuple #[g.val, .slice B l.length q]) ∧ Strolled t dk u n g l ∧ IntsAt w' w'.heap.size B l.length l ∧ Below w.heap.size w w' ∧ l.length ≤ q
set_option maxRecDepth 100000 in
set_option maxHeartbeats 8000000 in
theorem stroll_any (A : Option Addr) (n c : Nat) (A' : Option Addr) (m d : Nat) (t : Town) (u v : Int) (dk : Bool) (A2 : Option Addr) (n2 c2 : Nat) (l : List Nat) (w : World) (hm : m ≤ 20) (hk : n2 ≤ maxLen) (ht : LinksAt w w.heap.size A' m t.links) (hf : Fine t) (hr : BytesAt w w.heap.size A2 n2 l) :
  Calls Tryz.prog 19 #[.agg #[.slice A n c, .slice A' m d], .int .i64 u, .int .i64 v, .bool dk, .slice A2 n2 c2] w (StrollOut w t dk u n2) := by
 unfold maxLen at hk
 have HT := lh ht
 have HR := lh hr
 have HF := lh hf
 have HLm := lh ht.len
 clear ht hr hf
 have Ly := lh (Lay.three w 25 #[.slice A n c, .slice A' m d] 39 #[.int .i64 0, .int .i64 0, .int .i64 0, .int .i64 0, .int .i64 0, .int .i64 0, .int .i64 0] 39 #[.int .i64 u, .int .i64 0, .int .i64 0, .int .i64 0, .int .i64 0, .int .i64 0, .int .i64 0])
 go_enter Tryz.func19, Tryz.ntmps19
 go_upto_region 3 with fail
 generalize (((w.alloc (.cells #[.slice A n c, .slice A' m d] 25)).alloc (.cells #[.int .i64 0, .int .i64 0, .int .i64 0, .int .i64 0, .int .i64 0, .int .i64 0, .int .i64 0] 39)).alloc (.cells #[.int .i64 u, .int .i64 0, .int .i64 0, .int .i64 0, .int .i64 0, .int .i64 0, .int .i64 0] 39)) = w0 at *
 have HW0 : Hid (w.heap.size + 1 + 1 < w0.heap.size) := lh (Ly.out.lt 2 rfl)
 go_wp2_with fail
 go_loopw [13, 24] (fun v13 v24 wr => ∃ (k q : Nat) (B : Option Addr) (g : Gone) (ls : List Int), k ≤ n2 ∧ v24 = .int .i64 k ∧ v13 = .slice B ls.length q ∧ ls.length ≤ 40 ∧ Hid (Lay w wr [(w.heap.size, 25, #[.slice A n c, .slice A' m d]), (w.heap.size + 1, 39, #[.int .i64 0, .int .i64 0, .int .i64 0, .int .i64 0, .int .i64 0, .int .i64 0, .int .i64 0]), (w.heap.size + 1 + 1, 39, g.vals)] ∧ Own wr w0.heap.size 3 1 B ls.length q (ls.map (Value.int .i64)) ∧ w0.heap.size ≤ wr.heap.size ∧ GW t dk (startG u) ls g ∧ ls.length ≤ k))
  (fun _ vi _ => n2 - (intOf vi).toNat)
 case atStart => exact ⟨0, 0, none, startG u, [], by omega, rfl, rfl, by simp, lh ⟨Ly.out, Own.none_ _ _ _ _, Nat.le_refl _, .nil _, by simp⟩⟩
 case round =>
  obtain ⟨k, q, B, g, ls, hkk, rfl, rfl, h40, HS⟩ := hrel
  by_cases hlt : k < n2
  ·obtain ⟨b1, o1, x, rfl, hb1, hx, cx, hx255⟩ := (HR.out.below HS.out.1.1).cell hlt
   have y0 := (HS.out.1.blk 0 rfl).cell 0
   have y1 := (HS.out.1.blk 0 rfl).cell 1
   have ly := HS.out.1.lt 0 rfl
   have g0 := (HS.out.1.blk 2 rfl).cell 0
   have lg := HS.out.1.lt 2 rfl
   clear hx hb1
   by_cases hstop : g.at_ = v ∨ m = 0 ∨ ls.length = 40
   ·have hst3 : (((g.at_ == v) = true) ∨ ((g.at_ == v) = false ∧ ((((m : Nat) : Int) == 0) = true ∨ ((((m : Nat) : Int) == 0) = false ∧ (((ls.length : Nat) : Int) == 40) = true)))) := by
     by_cases e1 : g.at_ = v
     ·exact .inl (by simpa using e1)
     ·refine .inr ⟨by simpa using e1, ?_⟩
      by_cases e2 : m = 0
      ·exact .inl (by simp; omega)
      ·refine .inr ⟨by simp; omega, ?_⟩
       rcases hstop with h | h | h
       ·exact absurd h e1
       ·exact absurd h e2
       ·simp; omega
    clear hstop g0 lg
    rcases hst3 with e1 | ⟨e1, e2 | ⟨e2, e3⟩⟩
    all_goals
     have ga0 := (HS.out.1.blk 2 rfl).cell 0
     have ga1 := (HS.out.1.blk 2 rfl).cell 1
     have ga2 := (HS.out.1.blk 2 rfl).cell 2
     have ga3 := (HS.out.1.blk 2 rfl).cell 3
     have ga4 := (HS.out.1.blk 2 rfl).cell 4
     have ga5 := (HS.out.1.blk 2 rfl).cell 5
     have ga6 := (HS.out.1.blk 2 rfl).cell 6
     have oa0 := (HS.out.1.blk 1 rfl).cell 0
     have oz0 := (HS.out.1.blk 1 rfl).frozen 0
     have oa1 := (HS.out.1.blk 1 rfl).cell 1
     have oz1 := (HS.out.1.blk 1 rfl).frozen 1
     have oa2 := (HS.out.1.blk 1 rfl).cell 2
     have oz2 := (HS.out.1.blk 1 rfl).frozen 2
     have oa3 := (HS.out.1.blk 1 rfl).cell 3
     have oz3 := (HS.out.1.blk 1 rfl).frozen 3
     have oa4 := (HS.out.1.blk 1 rfl).cell 4
     have oz4 := (HS.out.1.blk 1 rfl).frozen 4
     have oa5 := (HS.out.1.blk 1 rfl).cell 5
     have oz5 := (HS.out.1.blk 1 rfl).frozen 5
     have oa6 := (HS.out.1.blk 1 rfl).cell 6
     have oz6 := (HS.out.1.blk 1 rfl).frozen 6
     have gal := HS.out.1.lt 2 rfl
     have oal := HS.out.1.lt 1 rfl
     go_wp2_with fail
     have R1 := ret7 (HS.out.1.blk 1 rfl) HS.out.1.1 (by omega) (.int .i64 g.at_) (.int .i64 g.up) (.int .i64 g.paces) (.int .i64 g.paces) (.int .i64 g.up) (.int .i64 g.steps) (.int .i64 g.longer)
     have HO9 := lh (own_set7 HS.out.2.1 (show w.heap.size + 1 < w0.heap.size by have := HW0.out; omega) (.int .i64 g.at_) (.int .i64 g.up) (.int .i64 g.paces) (.int .i64 g.paces) (.int .i64 g.up) (.int .i64 g.steps) (.int .i64 g.longer))
     have r0 := R1.1.cell 0
     have r1 := R1.1.cell 1
     have r2 := R1.1.cell 2
     have r3 := R1.1.cell 3
     have r4 := R1.1.cell 4
     have r5 := R1.1.cell 5
     have r6 := R1.1.cell 6
     refine bodyPost_ret (v := .tuple #[g.val, .slice B ls.length q]) (by simp [results, Tryz.results19, go_sem, r0, r1, r2, r3, r4, r5, r6]) rfl ⟨g, ls, B, q, rfl, ⟨HS.out.2.2.2.1, h40, by have := HS.out.2.2.2.2; omega⟩, ints_of_own HO9.out (Nat.le_refl _), R1.2, HO9.out.cap_le.1⟩
   ·simp only [not_or] at hstop
    obtain ⟨hs1, hs2, hs3⟩ := hstop
    have hs1' : (g.at_ == v) = false := by simpa using hs1
    have hs2' : (((m : Nat) : Int) == 0) = false := by simp; omega
    have hs3' : (((ls.length : Nat) : Int) == 40) = false := by simp; omega
    have hm0 : 0 < m := by omega
    have h39 : ls.length ≤ 39 := by omega
    clear hs1 hs2 hs3
    go_wp2_with fail
    clear y0 y1 ly g0 lg cx hs1' hs2' hs3'
    go_loopw [13, 46] (fun v13 v46 wr2 => ∃ (j : Nat), j ≤ m ∧ v46 = .int .i64 j ∧ v13 = .slice B ls.length q ∧ Hid (Lay w wr2 [(w.heap.size, 25, #[.slice A n c, .slice A' m d]), (w.heap.size + 1, 39, #[.int .i64 0, .int .i64 0, .int .i64 0, .int .i64 0, .int .i64 0, .int .i64 0, .int .i64 0]), (w.heap.size + 1 + 1, 39, g.vals)] ∧ Own wr2 w0.heap.size 3 1 B ls.length q (ls.map (Value.int .i64)) ∧ w0.heap.size ≤ wr2.heap.size))
     (fun _ vj _ => m - (intOf vj).toNat)
    case atStart => exact ⟨0, by omega, rfl, rfl, lh ⟨HS.out.1, HS.out.2.1, HS.out.2.2.1⟩⟩
    case round =>
     rename World => wr2
     obtain ⟨j, hj, rfl, rfl, HJ⟩ := hrel
     by_cases hjm : j < m
     ·have hrm : (x + j) % m < m := Nat.mod_lt _ hm0
      have HM : Hid (Int.tmod ((x : Int) + (j : Int)) (m : Int) = (((x + j) % m : Nat) : Int)) := lh (by rw [Int.tmod_eq_emod_of_nonneg (by omega)]; push_cast; rfl)
      obtain ⟨r, hrq⟩ : ∃ r, (x + j) % m = r := ⟨_, rfl⟩
      rw [hrq] at HM hrm
      obtain ⟨b2, off2, y, rfl, hb2, hy, h0, h1, h2, h3, h4⟩ := (HT.out.below HJ.out.1.1).cell hrm
      have HY := lh hy
      have hbl2 : b2 < wr2.heap.size := Nat.lt_of_lt_of_le hb2 HJ.out.1.1.size
      clear hy hrq
      have K0 : wr2.drew.cell? ⟨w.heap.size, 1, none⟩ = some (.slice (some ⟨b2, off2, none⟩) m d) ∧ wr2.drew.cell? ⟨b2, off2 + r * 5, none⟩ = some (.int .i64 y.id) ∧ wr2.drew.cell? ⟨b2, off2 + r * 5 + 1, none⟩ = some (.int .i64 y.fr) ∧ wr2.drew.cell? ⟨b2, off2 + r * 5 + 2, none⟩ = some (.int .i64 y.to) ∧ wr2.drew.cell? ⟨b2, off2 + r * 5 + 3, none⟩ = some (.int .i64 y.steps) ∧ wr2.drew.cell? ⟨b2, off2 + r * 5 + 4, none⟩ = some (.int .i64 y.paces) := ⟨(HJ.out.1.blk 0 rfl).cell 1, h0, h1, h2, h3, h4⟩
      have lyt := HJ.out.1.lt 0 rfl
      have KK := lh (fun (W' : World) (hb : Below wr2.heap.size wr2 W') => (show W'.cell? ⟨w.heap.size, 1, none⟩ = some (.slice (some ⟨b2, off2, none⟩) m d) ∧ W'.cell? ⟨b2, off2 + r * 5, none⟩ = some (.int .i64 y.id) ∧ W'.cell? ⟨b2, off2 + r * 5 + 1, none⟩ = some (.int .i64 y.fr) ∧ W'.cell? ⟨b2, off2 + r * 5 + 2, none⟩ = some (.int .i64 y.to) ∧ W'.cell? ⟨b2, off2 + r * 5 + 3, none⟩ = some (.int .i64 y.steps) ∧ W'.cell? ⟨b2, off2 + r * 5 + 4, none⟩ = some (.int .i64 y.paces) from ⟨(hb.cell (p := ⟨w.heap.size, 1, none⟩) (HJ.out.1.lt 0 rfl)).trans ((HJ.out.1.blk 0 rfl).cell 1), (hb.cell (p := ⟨b2, off2 + r * 5, none⟩) hbl2).trans h0, (hb.cell (p := ⟨b2, off2 + r * 5 + 1, none⟩) hbl2).trans h1, (hb.cell (p := ⟨b2, off2 + r * 5 + 2, none⟩) hbl2).trans h2, (hb.cell (p := ⟨b2, off2 + r * 5 + 3, none⟩) hbl2).trans h3, (hb.cell (p := ⟨b2, off2 + r * 5 + 4, none⟩) hbl2).trans h4⟩))
      have r0 : (0 : Int) ≤ (r : Int) := by omega
      have rm : (r : Int) < (m : Int) := by omega
      have wxj : IntKind.i64.wrap ((x : Int) + (j : Int)) = (x : Int) + (j : Int) := IntWalk.i64_in _ (by omega)
      have hm1 : ((m : Nat) : Int) ≠ 0 := by omega
      have htm := HM.out
      have hmn : ¬ m = 0 := by omega
      have hmn2 : (m == 0) = false := by simp; omega
      have wx : IntKind.i64.wrap (x : Int) = (x : Int) := IntWalk.i64_in _ (by omega)
      have hmz : (((m : Nat) : Int) == 0) = false := by simp; omega
      have wrr : IntKind.i64.wrap (r : Int) = (r : Int) := IntWalk.i64_in _ (by omega)
      go_wp2_with fail
      go_region_held3 (fun w' => w'.cell? ⟨w.heap.size, 1, none⟩ = some (.slice (some ⟨b2, off2, none⟩) m d) ∧ w'.cell? ⟨b2, off2 + r * 5, none⟩ = some (.int .i64 y.id) ∧ w'.cell? ⟨b2, off2 + r * 5 + 1, none⟩ = some (.int .i64 y.fr) ∧ w'.cell? ⟨b2, off2 + r * 5 + 2, none⟩ = some (.int .i64 y.to) ∧ w'.cell? ⟨b2, off2 + r * 5 + 3, none⟩ = some (.int .i64 y.steps) ∧ w'.cell? ⟨b2, off2 + r * 5 + 4, none⟩ = some (.int .i64 y.paces))
       (first | with_reducible assumption | exact KK.out _ (below_drewN ((Below.refl wr2.heap.size wr2).alloc (Nat.le_refl _) _) 1) | exact KK.out _ (below_drewN ((((((Below.refl wr2.heap.size wr2).alloc (Nat.le_refl _) _).setCell (Nat.le_refl _) _).setCell (Nat.le_refl _) _).setCell (Nat.le_refl _) _).setCell (Nat.le_refl _) _) 1) | go_keep) (fail)
      have X1 := lh ((Blk.new wr2 52 #[.int .i64 y.id, .int .i64 y.fr, .int .i64 y.to, .int .i64 y.steps, .int .i64 y.paces]).drewN 1)
      have HB3 : Below wr2.heap.size wr2 (wr2.alloc (.cells #[.int .i64 y.id, .int .i64 y.fr, .int .i64 y.to, .int .i64 y.steps, .int .i64 y.paces] 52)).drew := below_drewN ((Below.refl wr2.heap.size wr2).alloc (Nat.le_refl _) _) 1
      have HL3 := lh (HJ.out.1.below HB3)
      have HO3 := lh (HJ.out.2.1.below HB3 (Nat.le_refl _))
      have HZ3 := lh (Nat.le_trans HJ.out.2.2 HB3.size)
      clear HB3 K0 KK h0 h1 h2 h3 h4 wxj wx wrr htm hmn hmn2 hmz hm1 lyt rm r0 hbl2 hb2
      replace X1 := lh (show Blk (wr2.alloc (.cells #[.int .i64 y.id, .int .i64 y.fr, .int .i64 y.to, .int .i64 y.steps, .int .i64 y.paces] 52)).drew wr2.heap.size 52 #[.int .i64 y.id, .int .i64 y.fr, .int .i64 y.to, .int .i64 y.steps, .int .i64 y.paces] from X1.out)
      generalize (wr2.alloc (.cells #[.int .i64 y.id, .int .i64 y.fr, .int .i64 y.to, .int .i64 y.steps, .int .i64 y.paces] 52)).drew = w3 at *
      have HXM := lh (List.mem_of_getElem? HY.out)
      have HIN := lh (show g.In ls.length from by have := HS.out.2.2.2.1.in_ HF.out (startG_in u); rwa [Nat.zero_add] at this)
      have p0 := (HL3.out.blk 2 rfl).cell 0
      have p1 := (HL3.out.blk 2 rfl).cell 1
      have p2 := (HL3.out.blk 2 rfl).cell 2
      have p3 := (HL3.out.blk 2 rfl).cell 3
      have p4 := (HL3.out.blk 2 rfl).cell 4
      have p5 := (HL3.out.blk 2 rfl).cell 5
      have p6 := (HL3.out.blk 2 rfl).cell 6
      have pl := HL3.out.lt 2 rfl
      have x0 := X1.out.cell 0
      have x1 := X1.out.cell 1
      have x2 := X1.out.cell 2
      have x3 := X1.out.cell 3
      have x4 := X1.out.cell 4
      have xl := X1.out.lt
      go_wp2_with fail
      refine (goes_any g y dk ls.length w3 HIN.out (by omega) (HF.out.steps y HXM.out) (HF.out.paces y HXM.out)).mono ?_
      rintro e w4 ⟨rfl, hb4⟩
      have HL4 := lh (HL3.out.below hb4)
      have HO4 := lh (HO3.out.below hb4 (Nat.le_refl _))
      have HZ4 := lh (Nat.le_trans HZ3.out hb4.size)
      have X4 := lh (X1.out.below hb4 X1.out.lt)
      clear hb4 X1 HL3 HO3 HZ3 x0 x1 x2 x3 x4 xl p0 p1 p2 p3 p4 p5 p6 pl
      cases hgo : goesF dk y g with
      | none =>
       have HG0 := lh hgo
       have hgp : goesP dk y g = (g, false) := by unfold goesP; rw [hgo]
       rw [hgp]
       clear hgo hgp
       have HB5 : Below w4.heap.size w4 (w4.alloc (.cells #[.int .i64 g.at_, .int .i64 g.up, .int .i64 g.paces, .int .i64 g.paces, .int .i64 g.up, .int .i64 g.steps, .int .i64 g.longer] 39)) := (Below.refl w4.heap.size w4).alloc (Nat.le_refl _) _
       have HL5 := lh (HL4.out.below HB5)
       have HO5 := lh (HO4.out.below HB5 (Nat.le_refl _))
       have HZ5 := lh (Nat.le_trans HZ4.out HB5.size)
       clear HB5
       go_wp2_with fail
       go_roundw
       case rel => exact ⟨j + 1, by omega, by go_num, rfl, lh ⟨HL5.out, HO5.out, HZ5.out⟩⟩
       case measure => simp [intOf]; omega
      | some g' =>
       have HG0 := lh hgo
       have hgp : goesP dk y g = (g', true) := by unfold goesP; rw [hgo]
       rw [hgp]
       clear hgo hgp
       have HB5 : Below w4.heap.size w4 (w4.alloc (.cells #[.int .i64 g'.at_, .int .i64 g'.up, .int .i64 g'.paces, .int .i64 g'.paces, .int .i64 g'.up, .int .i64 g'.steps, .int .i64 g'.longer] 39)) := (Below.refl w4.heap.size w4).alloc (Nat.le_refl _) _
       have HL5 := lh (HL4.out.below HB5)
       have HO5 := lh (HO4.out.below HB5 (Nat.le_refl _))
       have HZ5 := lh (Nat.le_trans HZ4.out HB5.size)
       have X5 := lh (X4.out.below HB5 X4.out.lt)
       have Y5 := lh (Blk.new w4 39 #[.int .i64 g'.at_, .int .i64 g'.up, .int .i64 g'.paces, .int .i64 g'.paces, .int .i64 g'.up, .int .i64 g'.steps, .int .i64 g'.longer])
       have HO18 := lh HZ4.out
       have HO19 := lh X4.out.lt
       clear HB5 X4 HL4 HO4 HZ4
       go_upto_region 13 with fail
       obtain ⟨G18, hG⟩ : ∃ G, w4.heap.size = G := ⟨_, rfl⟩
       rw [hG] at Y5 HO18 HO19 ⊢
       clear hG
       generalize (w4.alloc (.cells #[.int .i64 g'.at_, .int .i64 g'.up, .int .i64 g'.paces, .int .i64 g'.paces, .int .i64 g'.up, .int .i64 g'.steps, .int .i64 g'.longer] 39)) = w5 at *
       have K0 : w5.drew.cell? ⟨wr2.heap.size, 0, none⟩ = some (.int .i64 y.id) ∧ w5.drew.cell? ⟨G18, 0, none⟩ = some (.int .i64 g'.at_) ∧ w5.drew.cell? ⟨G18, 1, none⟩ = some (.int .i64 g'.up) ∧ w5.drew.cell? ⟨G18, 2, none⟩ = some (.int .i64 g'.paces) ∧ w5.drew.cell? ⟨G18, 3, none⟩ = some (.int .i64 g'.paces) ∧ w5.drew.cell? ⟨G18, 4, none⟩ = some (.int .i64 g'.up) ∧ w5.drew.cell? ⟨G18, 5, none⟩ = some (.int .i64 g'.steps) ∧ w5.drew.cell? ⟨G18, 6, none⟩ = some (.int .i64 g'.longer) := ⟨X5.out.cell 0, Y5.out.cell 0, Y5.out.cell 1, Y5.out.cell 2, Y5.out.cell 3, Y5.out.cell 4, Y5.out.cell 5, Y5.out.cell 6⟩
       have hl2 := HL5.out.lt 2 rfl
       have hlx := X5.out.lt
       have hly := Y5.out.lt
       have hne8 : G18 ≠ w.heap.size + 1 + 1 := by have := HO18.out; have := HW0.out; omega
       have hnx8 : wr2.heap.size ≠ w.heap.size + 1 + 1 := by have := HJ.out.2.2; have := HW0.out; omega
       have HR8 : Hid (∀ j, B.map (·.block) = some j → j < wr2.heap.size) := lh (fun j hj => by
        cases B with
        | none => cases hj
        | some a => have := (HJ.out.2.1.lt rfl).2; simp at hj; omega)
       have HOB : Hid (Blk (w5.alloc (.cells #[.int .i64 y.id] 3)).drew w5.heap.size 3 #[.int .i64 y.id]) := lh ((Blk.new _ _ _).drewN 1)
       have HOW := lh ((HO5.out.alloc (.cells #[.int .i64 y.id] 3)).drewN 1)
       have HB6 : Below w5.heap.size w5 (w5.alloc (.cells #[.int .i64 y.id] 3)).drew := below_drewN ((Below.refl w5.heap.size w5).alloc (Nat.le_refl _) _) 1
       have HL6 := lh (HL5.out.below HB6)
       have HZ6 := lh (Nat.le_trans HZ5.out HB6.size)
       have X6 := lh (X5.out.below HB6 X5.out.lt)
       have Y6 := lh (Y5.out.below HB6 Y5.out.lt)
       have K1 : (w5.alloc (.cells #[.int .i64 y.id] 3)).drew.cell? ⟨wr2.heap.size, 0, none⟩ = some (.int .i64 y.id) ∧ (w5.alloc (.cells #[.int .i64 y.id] 3)).drew.cell? ⟨G18, 0, none⟩ = some (.int .i64 g'.at_) ∧ (w5.alloc (.cells #[.int .i64 y.id] 3)).drew.cell? ⟨G18, 1, none⟩ = some (.int .i64 g'.up) ∧ (w5.alloc (.cells #[.int .i64 y.id] 3)).drew.cell? ⟨G18, 2, none⟩ = some (.int .i64 g'.paces) ∧ (w5.alloc (.cells #[.int .i64 y.id] 3)).drew.cell? ⟨G18, 3, none⟩ = some (.int .i64 g'.paces) ∧ (w5.alloc (.cells #[.int .i64 y.id] 3)).drew.cell? ⟨G18, 4, none⟩ = some (.int .i64 g'.up) ∧ (w5.alloc (.cells #[.int .i64 y.id] 3)).drew.cell? ⟨G18, 5, none⟩ = some (.int .i64 g'.steps) ∧ (w5.alloc (.cells #[.int .i64 y.id] 3)).drew.cell? ⟨G18, 6, none⟩ = some (.int .i64 g'.longer) := ⟨X6.out.cell 0, Y6.out.cell 0, Y6.out.cell 1, Y6.out.cell 2, Y6.out.cell 3, Y6.out.cell 4, Y6.out.cell 5, Y6.out.cell 6⟩
       have hls : ls.length + 1 ≤ maxLen := by unfold maxLen; omega
       go_region_held3 (fun w' => w'.cell? ⟨wr2.heap.size, 0, none⟩ = some (.int .i64 y.id) ∧ w'.cell? ⟨G18, 0, none⟩ = some (.int .i64 g'.at_) ∧ w'.cell? ⟨G18, 1, none⟩ = some (.int .i64 g'.up) ∧ w'.cell? ⟨G18, 2, none⟩ = some (.int .i64 g'.paces) ∧ w'.cell? ⟨G18, 3, none⟩ = some (.int .i64 g'.paces) ∧ w'.cell? ⟨G18, 4, none⟩ = some (.int .i64 g'.up) ∧ w'.cell? ⟨G18, 5, none⟩ = some (.int .i64 g'.steps) ∧ w'.cell? ⟨G18, 6, none⟩ = some (.int .i64 g'.longer))
        (first | with_reducible assumption | exact ⟨(set7_far X8.out hnx8 (.int .i64 g'.at_) (.int .i64 g'.up) (.int .i64 g'.paces) (.int .i64 g'.paces) (.int .i64 g'.up) (.int .i64 g'.steps) (.int .i64 g'.longer)).cell 0, (set7_far Y8.out hne8 (.int .i64 g'.at_) (.int .i64 g'.up) (.int .i64 g'.paces) (.int .i64 g'.paces) (.int .i64 g'.up) (.int .i64 g'.steps) (.int .i64 g'.longer)).cell 0, (set7_far Y8.out hne8 (.int .i64 g'.at_) (.int .i64 g'.up) (.int .i64 g'.paces) (.int .i64 g'.paces) (.int .i64 g'.up) (.int .i64 g'.steps) (.int .i64 g'.longer)).cell 1, (set7_far Y8.out hne8 (.int .i64 g'.at_) (.int .i64 g'.up) (.int .i64 g'.paces) (.int .i64 g'.paces) (.int .i64 g'.up) (.int .i64 g'.steps) (.int .i64 g'.longer)).cell 2, (set7_far Y8.out hne8 (.int .i64 g'.at_) (.int .i64 g'.up) (.int .i64 g'.paces) (.int .i64 g'.paces) (.int .i64 g'.up) (.int .i64 g'.steps) (.int .i64 g'.longer)).cell 3, (set7_far Y8.out hne8 (.int .i64 g'.at_) (.int .i64 g'.up) (.int .i64 g'.paces) (.int .i64 g'.paces) (.int .i64 g'.up) (.int .i64 g'.steps) (.int .i64 g'.longer)).cell 4, (set7_far Y8.out hne8 (.int .i64 g'.at_) (.int .i64 g'.up) (.int .i64 g'.paces) (.int .i64 g'.paces) (.int .i64 g'.up) (.int .i64 g'.steps) (.int .i64 g'.longer)).cell 5, (set7_far Y8.out hne8 (.int .i64 g'.at_) (.int .i64 g'.up) (.int .i64 g'.paces) (.int .i64 g'.paces) (.int .i64 g'.up) (.int .i64 g'.steps) (.int .i64 g'.longer)).cell 6⟩)
        (first | ((refine step_append_any (by rfl) (.tmp 70) (.tmp 73) (by rfl) elem_int (by rfl) HOW.out (by rfl) (one_int (x := y.id) HOB.out.lt (HOB.out.cell 0)) (ints_one _) hls (by omega) HZ6.out ?_); rintro A8 c8 w8 hown hgr; (have HO8 : Hid (Own w8 w0.heap.size 3 1 A8 (ls.length + 1) c8 ((ls ++ [y.id]).map (Value.int .i64))) := lh (by rw [List.map_append]; exact hown));  (have X8 := lh (X6.out.grown hgr (fun e => by have := HR8.out _ e.symm; have := HO19.out; omega))); (have Y8 := lh (Y6.out.grown hgr (fun e => by have := HR8.out _ e.symm; have := HO19.out; omega))); (have HL8 := lh (HL6.out.grown_own hgr (fun j hj => own_row HOW.out hj) HW0.out)); (have HZ8 := lh (Nat.le_trans HZ6.out hgr.size)); (have L8 := lh ((HL6.out.blk 2 rfl).grown hgr (fun e => by have := own_row HOW.out e.symm; have := HW0.out; omega))); (have q0 := L8.out.cell 0); (have qz0 := L8.out.frozen 0); (have q1 := L8.out.cell 1); (have qz1 := L8.out.frozen 1); (have q2 := L8.out.cell 2); (have qz2 := L8.out.frozen 2); (have q3 := L8.out.cell 3); (have qz3 := L8.out.frozen 3); (have q4 := L8.out.cell 4); (have qz4 := L8.out.frozen 4); (have q5 := L8.out.cell 5); (have qz5 := L8.out.frozen 5); (have q6 := L8.out.cell 6); (have qz6 := L8.out.frozen 6); (have ql := L8.out.lt); (have K8 : w8.cell? ⟨wr2.heap.size, 0, none⟩ = some (.int .i64 y.id) ∧ w8.cell? ⟨G18, 0, none⟩ = some (.int .i64 g'.at_) ∧ w8.cell? ⟨G18, 1, none⟩ = some (.int .i64 g'.up) ∧ w8.cell? ⟨G18, 2, none⟩ = some (.int .i64 g'.paces) ∧ w8.cell? ⟨G18, 3, none⟩ = some (.int .i64 g'.paces) ∧ w8.cell? ⟨G18, 4, none⟩ = some (.int .i64 g'.up) ∧ w8.cell? ⟨G18, 5, none⟩ = some (.int .i64 g'.steps) ∧ w8.cell? ⟨G18, 6, none⟩ = some (.int .i64 g'.longer) := ⟨X8.out.cell 0, Y8.out.cell 0, Y8.out.cell 1, Y8.out.cell 2, Y8.out.cell 3, Y8.out.cell 4, Y8.out.cell 5, Y8.out.cell 6⟩)) | fail)
       have HL9 : Hid (Lay w (((((((w8.setCell ⟨w.heap.size + 1 + 1, 0, none⟩ (.int .i64 g'.at_)).setCell ⟨w.heap.size + 1 + 1, 1, none⟩ (.int .i64 g'.up)).setCell ⟨w.heap.size + 1 + 1, 2, none⟩ (.int .i64 g'.paces)).setCell ⟨w.heap.size + 1 + 1, 3, none⟩ (.int .i64 g'.paces)).setCell ⟨w.heap.size + 1 + 1, 4, none⟩ (.int .i64 g'.up)).setCell ⟨w.heap.size + 1 + 1, 5, none⟩ (.int .i64 g'.steps)).setCell ⟨w.heap.size + 1 + 1, 6, none⟩ (.int .i64 g'.longer)) [(w.heap.size, 25, #[.slice A n c, .slice (some ⟨b2, off2, none⟩) m d]), (w.heap.size + 1, 39, #[.int .i64 0, .int .i64 0, .int .i64 0, .int .i64 0, .int .i64 0, .int .i64 0, .int .i64 0]), (w.heap.size + 1 + 1, 39, g'.vals)]) := lh (by
        have R7 := ret7 (HL8.out.blk 2 rfl) HL8.out.1 (by omega) (.int .i64 g'.at_) (.int .i64 g'.up) (.int .i64 g'.paces) (.int .i64 g'.paces) (.int .i64 g'.up) (.int .i64 g'.steps) (.int .i64 g'.longer)
        exact lay3 R7.2 (Nat.le_refl _) (set7_far (HL8.out.blk 0 rfl) (show w.heap.size ≠ w.heap.size + 1 + 1 by omega) (.int .i64 g'.at_) (.int .i64 g'.up) (.int .i64 g'.paces) (.int .i64 g'.paces) (.int .i64 g'.up) (.int .i64 g'.steps) (.int .i64 g'.longer)) (set7_far (HL8.out.blk 1 rfl) (show w.heap.size + 1 ≠ w.heap.size + 1 + 1 by omega) (.int .i64 g'.at_) (.int .i64 g'.up) (.int .i64 g'.paces) (.int .i64 g'.paces) (.int .i64 g'.up) (.int .i64 g'.steps) (.int .i64 g'.longer)) R7.1)
       have HO9 : Hid (Own (((((((w8.setCell ⟨w.heap.size + 1 + 1, 0, none⟩ (.int .i64 g'.at_)).setCell ⟨w.heap.size + 1 + 1, 1, none⟩ (.int .i64 g'.up)).setCell ⟨w.heap.size + 1 + 1, 2, none⟩ (.int .i64 g'.paces)).setCell ⟨w.heap.size + 1 + 1, 3, none⟩ (.int .i64 g'.paces)).setCell ⟨w.heap.size + 1 + 1, 4, none⟩ (.int .i64 g'.up)).setCell ⟨w.heap.size + 1 + 1, 5, none⟩ (.int .i64 g'.steps)).setCell ⟨w.heap.size + 1 + 1, 6, none⟩ (.int .i64 g'.longer)) w0.heap.size 3 1 A8 (ls.length + 1) c8 ((ls ++ [y.id]).map (Value.int .i64))) := lh (own_set7 HO8.out HW0.out (.int .i64 g'.at_) (.int .i64 g'.up) (.int .i64 g'.paces) (.int .i64 g'.paces) (.int .i64 g'.up) (.int .i64 g'.steps) (.int .i64 g'.longer))
       have HG9 : Hid (GW t dk (startG u) (ls ++ [y.id]) g') := lh (HS.out.2.2.2.1.snoc HXM.out HG0.out)
       go_wp2_with fail
       go_roundw
       case rel => exact ⟨k + 1, c8, A8, g', ls ++ [y.id], by omega, by go_num, by simp, by simp; omega, lh ⟨HL9.out, by simpa using HO9.out, by simpa using HZ8.out, HG9.out, by have := HS.out.2.2.2.2; simp; omega⟩⟩
       case measure => simp [intOf]; omega
     ·obtain rfl : j = m := by omega
      go_wp2_with fail
      go_roundw
      case rel => exact ⟨k + 1, q, B, g, ls, by omega, by go_num, rfl, h40, lh ⟨HJ.out.1, HJ.out.2.1, HJ.out.2.2, HS.out.2.2.2.1, by have := HS.out.2.2.2.2; omega⟩⟩
      case measure => simp [intOf]; omega
  ·obtain rfl : k = n2 := by omega
   have ga0 := (HS.out.1.blk 2 rfl).cell 0
   have ga1 := (HS.out.1.blk 2 rfl).cell 1
   have ga2 := (HS.out.1.blk 2 rfl).cell 2
   have ga3 := (HS.out.1.blk 2 rfl).cell 3
   have ga4 := (HS.out.1.blk 2 rfl).cell 4
   have ga5 := (HS.out.1.blk 2 rfl).cell 5
   have ga6 := (HS.out.1.blk 2 rfl).cell 6
   have oa0 := (HS.out.1.blk 1 rfl).cell 0
   have oz0 := (HS.out.1.blk 1 rfl).frozen 0
   have oa1 := (HS.out.1.blk 1 rfl).cell 1
   have oz1 := (HS.out.1.blk 1 rfl).frozen 1
   have oa2 := (HS.out.1.blk 1 rfl).cell 2
   have oz2 := (HS.out.1.blk 1 rfl).frozen 2
   have oa3 := (HS.out.1.blk 1 rfl).cell 3
   have oz3 := (HS.out.1.blk 1 rfl).frozen 3
   have oa4 := (HS.out.1.blk 1 rfl).cell 4
   have oz4 := (HS.out.1.blk 1 rfl).frozen 4
   have oa5 := (HS.out.1.blk 1 rfl).cell 5
   have oz5 := (HS.out.1.blk 1 rfl).frozen 5
   have oa6 := (HS.out.1.blk 1 rfl).cell 6
   have oz6 := (HS.out.1.blk 1 rfl).frozen 6
   have gal := HS.out.1.lt 2 rfl
   have oal := HS.out.1.lt 1 rfl
   go_wp2_with fail
   have R1 := ret7 (HS.out.1.blk 1 rfl) HS.out.1.1 (by omega) (.int .i64 g.at_) (.int .i64 g.up) (.int .i64 g.paces) (.int .i64 g.paces) (.int .i64 g.up) (.int .i64 g.steps) (.int .i64 g.longer)
   have HO9 := lh (own_set7 HS.out.2.1 (show w.heap.size + 1 < w0.heap.size by have := HW0.out; omega) (.int .i64 g.at_) (.int .i64 g.up) (.int .i64 g.paces) (.int .i64 g.paces) (.int .i64 g.up) (.int .i64 g.steps) (.int .i64 g.longer))
   have r0 := R1.1.cell 0
   have r1 := R1.1.cell 1
   have r2 := R1.1.cell 2
   have r3 := R1.1.cell 3
   have r4 := R1.1.cell 4
   have r5 := R1.1.cell 5
   have r6 := R1.1.cell 6
   refine bodyPost_ret (v := .tuple #[g.val, .slice B ls.length q]) (by simp [results, Tryz.results19, go_sem, r0, r1, r2, r3, r4, r5, r6]) rfl ⟨g, ls, B, q, rfl, ⟨HS.out.2.2.2.1, h40, by have := HS.out.2.2.2.2; omega⟩, ints_of_own HO9.out (Nat.le_refl _), R1.2, HO9.out.cap_le.1⟩
end
section
open Go.RowKit
theorem fold_succ {dk : Bool} {id : Int} {ls : List Link} {s : Gone × Bool} {j : Nat} {x : Link} (hx : ls[j]? = some x) : (ls.take (j + 1)).foldl (stepFo dk id) s = stepFo dk id ((ls.take j).foldl (stepFo dk id) s) x := by
 obtain ⟨hk, rfl⟩ := List.getElem?_eq_some_iff.1 hx
 rw [List.take_succ_eq_append_getElem hk, List.foldl_append]
 rfl
theorem goesP_in {t : Town} {dk : Bool} {g : Gone} {x : Link} {k : Nat} (h : g.In k) (ht : Fine t) (hx : x ∈ t.links) : ∃ q, q ≤ k + 1 ∧ (goesP dk x g).1.In q := by
 unfold goesP
 cases hg : goesF dk x g with
 | none => exact ⟨k, by omega, h⟩
 | some g' => exact ⟨k + 1, Nat.le_refl _, goes_in h ht hx hg⟩
theorem stepFo_goes {dk : Bool} {id : Int} {s : Gone × Bool} {x : Link} (h : x.id = id) : stepFo dk id s x = goesP dk x s.1 := by
 unfold stepFo goesP
 rw [if_pos h]
 try (cases goesF dk x s.1 <;> rfl)
theorem stepFo_not {dk : Bool} {id : Int} {s : Gone × Bool} {x : Link} (h : ¬ x.id = id) : stepFo dk id s x = s := by
 unfold stepFo
 rw [if_neg h]
set_option maxRecDepth 100000 in
set_option maxHeartbeats 8000000 in
theorem follow_any (A : Option Addr) (n c : Nat) (A' : Option Addr) (m d : Nat) (t : Town) (u : Int) (A2 : Option Addr) (k2 c2 : Nat) (l : List Int) (dk : Bool) (w : World) (hm : m ≤ 20) (hk : k2 ≤ 40) (ht : LinksAt w w.heap.size A' m t.links) (hf : Fine t) (hr : IntsAt w w.heap.size A2 k2 l) :
  Calls Tryz.prog 20 #[.agg #[.slice A n c, .slice A' m d], .int .i64 u, .slice A2 k2 c2, .bool dk] w (GoesOut w (followF t dk (startG u) l)) := by
 have HT := lh ht
 have HR := lh hr
 have HF := lh hf
 have HLm := lh ht.len
 have HLl := lh hr.len
 clear ht hr hf
 have Ly := lh (Lay.three w 25 #[.slice A n c, .slice A' m d] 39 #[.int .i64 0, .int .i64 0, .int .i64 0, .int .i64 0, .int .i64 0, .int .i64 0, .int .i64 0] 39 #[.int .i64 u, .int .i64 0, .int .i64 0, .int .i64 0, .int .i64 0, .int .i64 0, .int .i64 0])
 go_enter Tryz.func20, Tryz.ntmps20
 go_upto_region 2 with fail
 generalize (((w.alloc (.cells #[.slice A n c, .slice A' m d] 25)).alloc (.cells #[.int .i64 0, .int .i64 0, .int .i64 0, .int .i64 0, .int .i64 0, .int .i64 0, .int .i64 0] 39)).alloc (.cells #[.int .i64 u, .int .i64 0, .int .i64 0, .int .i64 0, .int .i64 0, .int .i64 0, .int .i64 0] 39)) = w0 at *
 go_wp2_with fail
 go_loopw [20] (fun vi wr => ∃ (i q : Nat) (g : Gone), i ≤ k2 ∧ vi = .int .i64 i ∧ Hid (Lay w wr [(w.heap.size, 25, #[.slice A n c, .slice A' m d]), (w.heap.size + 1, 39, #[.int .i64 0, .int .i64 0, .int .i64 0, .int .i64 0, .int .i64 0, .int .i64 0, .int .i64 0]), (w.heap.size + 1 + 1, 39, g.vals)] ∧ followF t dk (startG u) l = followF t dk g (l.drop i) ∧ g.In q ∧ q ≤ i * 20))
  (fun vi _ => k2 - (intOf vi).toNat)
 case atStart => exact ⟨0, 0, startG u, by omega, rfl, lh ⟨Ly.out, rfl, startG_in u, by omega⟩⟩
 case round =>
  obtain ⟨i, q, g, hi, rfl, HS⟩ := hrel
  by_cases hlt : i < k2
  ·obtain ⟨b, off, id, rfl, hbB, hid, hc⟩ := ((HR.out.below HS.out.1.1)).cell hlt
   have HID := lh hid
   clear hid
   have y0 := (HS.out.1.blk 0 rfl).cell 0
   have y1 := (HS.out.1.blk 0 rfl).cell 1
   have ly := HS.out.1.lt 0 rfl
   go_wp2_with fail
   go_loopw [13, 27] (fun vf vj wr2 => ∃ (j q2 : Nat) (g2 : Gone) (f2 : Bool), j ≤ m ∧ vj = .int .i64 j ∧ vf = .bool f2 ∧ Hid (Lay w wr2 [(w.heap.size, 25, #[.slice A n c, .slice A' m d]), (w.heap.size + 1, 39, #[.int .i64 0, .int .i64 0, .int .i64 0, .int .i64 0, .int .i64 0, .int .i64 0, .int .i64 0]), (w.heap.size + 1 + 1, 39, g2.vals)] ∧ (t.links.take j).foldl (stepFo dk id) (g, false) = (g2, f2) ∧ g2.In q2 ∧ q2 ≤ i * 20 + j))
    (fun _ vj _ => m - (intOf vj).toNat)
   case atStart => exact ⟨0, q, g, false, by omega, rfl, rfl, lh ⟨HS.out.1, rfl, HS.out.2.2.1, HS.out.2.2.2⟩⟩
   case round =>
    rename World => wr2
    obtain ⟨j, q2, g2, f2, hj, rfl, rfl, HJ⟩ := hrel
    by_cases hjm : j < m
    ·obtain ⟨b2, off2, x, rfl, hb2, hx, h0, h1, h2, h3, h4⟩ := (HT.out.below HJ.out.1.1).cell hjm
     have HX := lh hx
     have HXM := lh (List.mem_of_getElem? hx)
     have hbl2 : b2 < wr2.heap.size := Nat.lt_of_lt_of_le hb2 HJ.out.1.1.size
     have y0 := (HJ.out.1.blk 0 rfl).cell 0
     have y1 := (HJ.out.1.blk 0 rfl).cell 1
     have ly := HJ.out.1.lt 0 rfl
     clear hx hc hb2
     go_upto_region 9 with fail
     have X1 := Blk.new wr2 52 #[.int .i64 x.id, .int .i64 x.fr, .int .i64 x.to, .int .i64 x.steps, .int .i64 x.paces]
     have HL3 := lh (HJ.out.1.below ((Below.refl wr2.heap.size wr2).alloc (Nat.le_refl _) (.cells #[.int .i64 x.id, .int .i64 x.fr, .int .i64 x.to, .int .i64 x.steps, .int .i64 x.paces] 52)))
     clear y0 y1 ly h0 h1 h2 h3 h4 hbl2
     generalize (wr2.alloc (.cells #[.int .i64 x.id, .int .i64 x.fr, .int .i64 x.to, .int .i64 x.steps, .int .i64 x.paces] 52)) = w3 at *
     have x0 := X1.cell 0
     have x1 := X1.cell 1
     have x2 := X1.cell 2
     have x3 := X1.cell 3
     have x4 := X1.cell 4
     have hxl := X1.lt
     by_cases hxi : x.id = id
     ·have HXI := lh hxi
      have HDJ : Hid ((t.links.take (j + 1)).foldl (stepFo dk id) (g, false) = goesP dk x g2) := lh (by rw [fold_succ HX.out, HJ.out.2.1, stepFo_goes hxi])
      have hxb : (x.id == id) = true := by simpa using hxi
      clear hxi
      have ga0 := (HL3.out.blk 2 rfl).cell 0
      have gz0 := (HL3.out.blk 2 rfl).frozen 0
      have ga1 := (HL3.out.blk 2 rfl).cell 1
      have gz1 := (HL3.out.blk 2 rfl).frozen 1
      have ga2 := (HL3.out.blk 2 rfl).cell 2
      have gz2 := (HL3.out.blk 2 rfl).frozen 2
      have ga3 := (HL3.out.blk 2 rfl).cell 3
      have gz3 := (HL3.out.blk 2 rfl).frozen 3
      have ga4 := (HL3.out.blk 2 rfl).cell 4
      have gz4 := (HL3.out.blk 2 rfl).frozen 4
      have ga5 := (HL3.out.blk 2 rfl).cell 5
      have gz5 := (HL3.out.blk 2 rfl).frozen 5
      have ga6 := (HL3.out.blk 2 rfl).cell 6
      have gz6 := (HL3.out.blk 2 rfl).frozen 6
      have gl := HL3.out.lt 2 rfl
      go_wp2_with fail
      refine (goes_any g2 x dk q2 w3 HJ.out.2.2.1 (by have := HJ.out.2.2.2; omega) (HF.out.steps x HXM.out) (HF.out.paces x HXM.out)).mono ?_
      rintro e w4 ⟨rfl, hb4⟩
      obtain ⟨q3, hq3, hin3⟩ := goesP_in (dk := dk) HJ.out.2.2.1 HF.out HXM.out
      have HI3 := lh hin3
      obtain ⟨⟨g3, f3⟩, hg3⟩ : ∃ r, goesP dk x g2 = r := ⟨_, rfl⟩
      rw [hg3] at HDJ HI3
      rw [hg3]
      have HL4 := lh (HL3.out.below hb4)
      clear hb4 hin3 hg3 ga0 gz0 ga1 gz1 ga2 gz2 ga3 gz3 ga4 gz4 ga5 gz5 ga6 gz6 gl x0 x1 x2 x3 x4 hxl X1
      have ga0 := (HL4.out.blk 2 rfl).cell 0
      have gz0 := (HL4.out.blk 2 rfl).frozen 0
      have ga1 := (HL4.out.blk 2 rfl).cell 1
      have gz1 := (HL4.out.blk 2 rfl).frozen 1
      have ga2 := (HL4.out.blk 2 rfl).cell 2
      have gz2 := (HL4.out.blk 2 rfl).frozen 2
      have ga3 := (HL4.out.blk 2 rfl).cell 3
      have gz3 := (HL4.out.blk 2 rfl).frozen 3
      have ga4 := (HL4.out.blk 2 rfl).cell 4
      have gz4 := (HL4.out.blk 2 rfl).frozen 4
      have ga5 := (HL4.out.blk 2 rfl).cell 5
      have gz5 := (HL4.out.blk 2 rfl).frozen 5
      have ga6 := (HL4.out.blk 2 rfl).cell 6
      have gz6 := (HL4.out.blk 2 rfl).frozen 6
      have gl := HL4.out.lt 2 rfl
      go_wp2_with fail
      have R7 := ret7 (HL4.out.blk 2 rfl) HL4.out.1 (by omega) (.int .i64 g3.at_) (.int .i64 g3.up) (.int .i64 g3.paces) (.int .i64 g3.paces) (.int .i64 g3.up) (.int .i64 g3.steps) (.int .i64 g3.longer)
      have R0 := lh (set7_far (HL4.out.blk 0 rfl) (show w.heap.size ≠ w.heap.size + 1 + 1 by omega) (.int .i64 g3.at_) (.int .i64 g3.up) (.int .i64 g3.paces) (.int .i64 g3.paces) (.int .i64 g3.up) (.int .i64 g3.steps) (.int .i64 g3.longer))
      have R1 := lh (set7_far (HL4.out.blk 1 rfl) (show w.heap.size + 1 ≠ w.heap.size + 1 + 1 by omega) (.int .i64 g3.at_) (.int .i64 g3.up) (.int .i64 g3.paces) (.int .i64 g3.paces) (.int .i64 g3.up) (.int .i64 g3.steps) (.int .i64 g3.longer))
      have HR7 := lh R7
      clear R7 ga0 gz0 ga1 gz1 ga2 gz2 ga3 gz3 ga4 gz4 ga5 gz5 ga6 gz6 gl
      go_roundw
      case rel => exact ⟨j + 1, q3, g3, f3, by omega, by go_num, rfl, lh ⟨lay3 HR7.out.2 (Nat.le_refl _) R0.out R1.out HR7.out.1, HDJ.out, HI3.out, by have := HJ.out.2.2.2; omega⟩⟩
      case measure => simp [intOf]; omega
     ·have HDJ : Hid ((t.links.take (j + 1)).foldl (stepFo dk id) (g, false) = (g2, f2)) := lh (by rw [fold_succ HX.out, HJ.out.2.1, stepFo_not hxi])
      have hxb : (x.id == id) = false := by simpa using hxi
      clear hxi
      go_wp2_with fail
      go_roundw
      case rel => exact ⟨j + 1, q2, g2, f2, by omega, by go_num, rfl, lh ⟨HL3.out, HDJ.out, HJ.out.2.2.1, by have := HJ.out.2.2.2; omega⟩⟩
      case measure => simp [intOf]; omega
    ·obtain rfl : j = m := by omega
     have HD : Hid (t.links.foldl (stepFo dk id) (g, false) = (g2, f2)) := lh (by
      have h := HJ.out.2.1
      rwa [List.take_of_length_le (by rw [HLm.out]; exact Nat.le_refl _)] at h)
     have HE : Hid (followF t dk (startG u) l = if f2 = true then followF t dk g2 (l.drop (i + 1)) else (g2, false)) := lh (by
      rw [HS.out.2.1, drop_atF HID.out, followF, HD.out]
      cases f2 <;> rfl)
     clear hc y0 y1 ly
     cases f2 with
     | true =>
      go_wp2_with fail
      go_roundw
      case rel => exact ⟨i + 1, q2, g2, by omega, by go_num, lh ⟨HJ.out.1, by rw [HE.out]; rfl, HJ.out.2.2.1, by have := HJ.out.2.2.2; omega⟩⟩
      case measure => simp [intOf]; omega
     | false =>
      have ga0 := (HJ.out.1.blk 2 rfl).cell 0
      have gz0 := (HJ.out.1.blk 2 rfl).frozen 0
      have ga1 := (HJ.out.1.blk 2 rfl).cell 1
      have gz1 := (HJ.out.1.blk 2 rfl).frozen 1
      have ga2 := (HJ.out.1.blk 2 rfl).cell 2
      have gz2 := (HJ.out.1.blk 2 rfl).frozen 2
      have ga3 := (HJ.out.1.blk 2 rfl).cell 3
      have gz3 := (HJ.out.1.blk 2 rfl).frozen 3
      have ga4 := (HJ.out.1.blk 2 rfl).cell 4
      have gz4 := (HJ.out.1.blk 2 rfl).frozen 4
      have ga5 := (HJ.out.1.blk 2 rfl).cell 5
      have gz5 := (HJ.out.1.blk 2 rfl).frozen 5
      have ga6 := (HJ.out.1.blk 2 rfl).cell 6
      have gz6 := (HJ.out.1.blk 2 rfl).frozen 6
      have gl := HJ.out.1.lt 2 rfl
      have o0 := (HJ.out.1.blk 1 rfl).cell 0
      have oz0 := (HJ.out.1.blk 1 rfl).frozen 0
      have o1 := (HJ.out.1.blk 1 rfl).cell 1
      have oz1 := (HJ.out.1.blk 1 rfl).frozen 1
      have o2 := (HJ.out.1.blk 1 rfl).cell 2
      have oz2 := (HJ.out.1.blk 1 rfl).frozen 2
      have o3 := (HJ.out.1.blk 1 rfl).cell 3
      have oz3 := (HJ.out.1.blk 1 rfl).frozen 3
      have o4 := (HJ.out.1.blk 1 rfl).cell 4
      have oz4 := (HJ.out.1.blk 1 rfl).frozen 4
      have o5 := (HJ.out.1.blk 1 rfl).cell 5
      have oz5 := (HJ.out.1.blk 1 rfl).frozen 5
      have o6 := (HJ.out.1.blk 1 rfl).cell 6
      have oz6 := (HJ.out.1.blk 1 rfl).frozen 6
      have ol := HJ.out.1.lt 1 rfl
      go_wp2_with fail
      have R1 := ret7 (HJ.out.1.blk 1 rfl) HJ.out.1.1 (by omega) (.int .i64 g2.at_) (.int .i64 g2.up) (.int .i64 g2.paces) (.int .i64 g2.paces) (.int .i64 g2.up) (.int .i64 g2.steps) (.int .i64 g2.longer)
      have r0 := R1.1.cell 0
      have r1 := R1.1.cell 1
      have r2 := R1.1.cell 2
      have r3 := R1.1.cell 3
      have r4 := R1.1.cell 4
      have r5 := R1.1.cell 5
      have r6 := R1.1.cell 6
      refine bodyPost_ret (v := .tuple #[g2.val, .bool false]) (by simp [results, Tryz.results20, go_sem, r0, r1, r2, r3, r4, r5, r6]) rfl ⟨?_, R1.2⟩
      rw [HE.out]
      rfl
  ·obtain rfl : i = k2 := by omega
   have HE : Hid (followF t dk (startG u) l = (g, true)) := lh (by
    rw [HS.out.2.1, List.drop_of_length_le (by rw [HLl.out]; exact Nat.le_refl _)]
    rfl)
   have ga0 := (HS.out.1.blk 2 rfl).cell 0
   have gz0 := (HS.out.1.blk 2 rfl).frozen 0
   have ga1 := (HS.out.1.blk 2 rfl).cell 1
   have gz1 := (HS.out.1.blk 2 rfl).frozen 1
   have ga2 := (HS.out.1.blk 2 rfl).cell 2
   have gz2 := (HS.out.1.blk 2 rfl).frozen 2
   have ga3 := (HS.out.1.blk 2 rfl).cell 3
   have gz3 := (HS.out.1.blk 2 rfl).frozen 3
   have ga4 := (HS.out.1.blk 2 rfl).cell 4
   have gz4 := (HS.out.1.blk 2 rfl).frozen 4
   have ga5 := (HS.out.1.blk 2 rfl).cell 5
   have gz5 := (HS.out.1.blk 2 rfl).frozen 5
   have ga6 := (HS.out.1.blk 2 rfl).cell 6
   have gz6 := (HS.out.1.blk 2 rfl).frozen 6
   have gl := HS.out.1.lt 2 rfl
   have o0 := (HS.out.1.blk 1 rfl).cell 0
   have oz0 := (HS.out.1.blk 1 rfl).frozen 0
   have o1 := (HS.out.1.blk 1 rfl).cell 1
   have oz1 := (HS.out.1.blk 1 rfl).frozen 1
   have o2 := (HS.out.1.blk 1 rfl).cell 2
   have oz2 := (HS.out.1.blk 1 rfl).frozen 2
   have o3 := (HS.out.1.blk 1 rfl).cell 3
   have oz3 := (HS.out.1.blk 1 rfl).frozen 3
   have o4 := (HS.out.1.blk 1 rfl).cell 4
   have oz4 := (HS.out.1.blk 1 rfl).frozen 4
   have o5 := (HS.out.1.blk 1 rfl).cell 5
   have oz5 := (HS.out.1.blk 1 rfl).frozen 5
   have o6 := (HS.out.1.blk 1 rfl).cell 6
   have oz6 := (HS.out.1.blk 1 rfl).frozen 6
   have ol := HS.out.1.lt 1 rfl
   go_wp2_with fail
   have R1 := ret7 (HS.out.1.blk 1 rfl) HS.out.1.1 (by omega) (.int .i64 g.at_) (.int .i64 g.up) (.int .i64 g.paces) (.int .i64 g.paces) (.int .i64 g.up) (.int .i64 g.steps) (.int .i64 g.longer)
   have r0 := R1.1.cell 0
   have r1 := R1.1.cell 1
   have r2 := R1.1.cell 2
   have r3 := R1.1.cell 3
   have r4 := R1.1.cell 4
   have r5 := R1.1.cell 5
   have r6 := R1.1.cell 6
   refine bodyPost_ret (v := .tuple #[g.val, .bool true]) (by simp [results, Tryz.results20, go_sem, r0, r1, r2, r3, r4, r5, r6]) rfl ⟨?_, R1.2⟩
   rw [HE.out]
end
section
section
variable {t : Town} {dk : Bool} {p q : Price} {u v m : Int} {c d c1 c2 : Cost} {l k l1 l2 : List Int} {g g' : Gone}
theorem key_split (h : cmpL (key c l) (key d k) ≤ 0) : c.a < d.a ∨ (c.a = d.a ∧ (c.b < d.b ∨ (c.b = d.b ∧ (c.c < d.c ∨ (c.c = d.c ∧ (c.d < d.d ∨ (c.d = d.d ∧ cmpL l k ≤ 0))))))) := by
 rw [cmp_key] at h
 by_cases h0 : cmpL c.list d.list = 0
 ·rw [if_pos h0] at h
  have := list_eq h0
  subst this
  omega
 ·rw [if_neg h0] at h
  rw [cmpC_unf] at h h0
  by_cases e1 : c.a < d.a
  ·omega
  ·rw [if_neg e1] at h h0
   by_cases e2 : d.a < c.a
   ·rw [if_pos e2] at h; omega
   ·rw [if_neg e2] at h h0
    by_cases e3 : c.b < d.b
    ·omega
    ·rw [if_neg e3] at h h0
     by_cases e4 : d.b < c.b
     ·rw [if_pos e4] at h; omega
     ·rw [if_neg e4] at h h0
      by_cases e5 : c.c < d.c
      ·omega
      ·rw [if_neg e5] at h h0
       by_cases e6 : d.c < c.c
       ·rw [if_pos e6] at h; omega
       ·rw [if_neg e6] at h h0
        by_cases e7 : c.d < d.d
        ·omega
        ·rw [if_neg e7] at h h0
         by_cases e8 : d.d < c.d
         ·rw [if_pos e8] at h; omega
         ·rw [if_neg e8] at h0; exact absurd rfl h0
theorem Walk.priced (h : Walk t dk p u v c l) (q : Price) : ∃ d, Walk t dk q u v d l := by
 obtain ⟨g', h1, h2, _⟩ := h.gw (startG u) rfl
 exact ⟨_, h2 ▸ h1.walk0 q⟩
theorem best_none_iff (ht : Fine t) (hp : Fair p) : best t dk p u v = none ↔ ∀ c l, ¬ Walk t dk p u v c l := by
 have h := best_first ht hp dk u v
 constructor
 ·intro e; rw [e] at h; exact h
 ·intro hn
  cases hb : best t dk p u v with
  | none => rfl
  | some r =>
   obtain ⟨c, l⟩ := r
   rw [hb] at h
   exact absurd h.1 (hn c l)
theorem best_same_some (ht : Fine t) (hp : Fair p) (hq : Fair q) : (best t dk p u v).isSome = (best t dk q u v).isSome := by
 have key : ∀ {p q : Price}, Fair p → Fair q → best t dk p u v = none → best t dk q u v = none := by
  intro p q hp hq h
  rw [best_none_iff ht hp] at h
  rw [best_none_iff ht hq]
  intro c l hw
  obtain ⟨d, h1⟩ := hw.priced p
  exact h d l h1
 cases h1 : best t dk p u v with
 | none => rw [key hp hq h1]
 | some r =>
  cases h2 : best t dk q u v with
  | none => rw [key hq hp h2] at h1; cases h1
  | some r => rfl
theorem best_walk (ht : Fine t) (hp : Fair p) (h : best t dk p u v = some (c, l)) : First t dk p u v (some (c, l)) := by rw [← h]; exact best_first ht hp dk u v
theorem best_gone (ht : Fine t) (hp : Fair p) (h : best t dk p u v = some (c, l)) : ∃ g, followF t dk (startG u) l = (g, true) ∧ GW t dk (startG u) l g ∧ g.at_ = v ∧ g.cost p = c := by
 obtain ⟨g, h1, h2, h3⟩ := (best_walk ht hp h).1.gw (startG u) rfl
 rw [startG_cost, zero_addC] at h3
 exact ⟨g, follow_gw ht.ids h1, h1, h2, h3⟩
theorem best_before (ht : Fine t) (hp : Fair p) (h : best t dk p u v = some (c, l)) (hg : GW t dk (startG u) k g) (hv : g.at_ = v) : cmpL (key c l) (key (g.cost p) k) ≤ 0 := by
 have := (best_walk ht hp h).2 (g.cost p) k (by rw [← hv]; exact hg.walk0 p)
 exact this
end
section
variable {t : Town} {dk : Bool} {p : Price} {u v : Int} {c : Cost} {l k : List Int} {g g' : Gone}
theorem before_law (ht : Fine t) (hp : Fair p) (h : best t dk p u v = some (c, l)) (hl : followF t dk (startG u) l = (g, true)) (hg : GW t dk (startG u) k g') (hv : g'.at_ = v) :
  (g.cost p).a < (g'.cost p).a ∨ ((g.cost p).a = (g'.cost p).a ∧ (lessP g.up g.paces g'.up g'.paces = true ∨ (g.up = g'.up ∧ g.paces = g'.paces ∧ (l.length < k.length ∨ (l.length = k.length ∧ aheadF k l = false))))) := by
 obtain ⟨g1, h1, h2, h3, h4⟩ := best_gone ht hp h
 rw [hl] at h1
 cases h1
 have hb := best_before ht hp h hg hv
 rw [← h4] at hb
 have e1 : g.longer = l.length := by have := h2.longer; simpa [startG] using this
 have e2 : g'.longer = k.length := by have := hg.longer; simpa [startG] using this
 rcases key_split hb with h5 | ⟨h5, h6⟩
 ·exact .inl h5
 ·refine .inr ⟨h5, ?_⟩
  simp only [Gone.cost] at h6
  rcases h6 with h6 | ⟨h6, h7 | ⟨h7, h8 | ⟨h8, h9⟩⟩⟩
  ·left; simp [lessP, h6]
  ·left; simp [lessP, h6, h7]
  ·right; exact ⟨h6, h7, .inl (by omega)⟩
  ·right
   refine ⟨h6, h7, .inr ⟨by omega, ?_⟩⟩
   rw [ahead_cmp (by omega)]
   have := cmpL_swap l k
   simp; omega
theorem askE_two {t : Town} {u v : Int} (hb : townB t = true) (hu : u ∈ t.places) (hv : v ∈ t.places) : askE t [u, v] = 0 := by
 unfold askE hasB
 rw [if_pos hb, if_pos (by simp [memI_iff.2 hu, memI_iff.2 hv])]
theorem askE_one {t : Town} {u : Int} (hb : townB t = true) (hu : u ∈ t.places) : askE t [u] = 0 := by
 unfold askE hasB
 rw [if_pos hb, if_pos (by simp [memI_iff.2 hu])]
end
end
section
open Go.RowKit
set_option maxRecDepth 100000 in
set_option maxHeartbeats 4000000 in
theorem lessToil_any (a1 a2 b1 b2 : Int) (w : World) :
  Calls Tryz.prog 21 #[.agg #[.int .i64 a1, .int .i64 a2], .agg #[.int .i64 b1, .int .i64 b2]] w fun e w' => e = .returned (.bool (lessP a1 a2 b1 b2)) ∧ Below w.heap.size w w' := by
 have hb : Below w.heap.size w ((w.alloc (.cells #[.int .i64 a1, .int .i64 a2] 34)).alloc (.cells #[.int .i64 b1, .int .i64 b2] 34)) := ((Below.refl _ _).alloc (Nat.le_refl _) _).alloc (by simp) _
 by_cases h1 : a1 < b1
 ·have e : lessP a1 a2 b1 b2 = true := by unfold lessP; simp [h1]
  have HE := lh e
  have HB := lh hb
  clear e hb
  go_enter Tryz.func21, Tryz.ntmps21
  go_wp2_with fail
  go_ret
  exact ⟨ret_bool HE.out.symm, HB.out⟩
 ·by_cases h2 : a1 = b1
  ·subst h2
   have e : lessP a1 a2 a1 b2 = decide (a2 < b2) := by unfold lessP; simp
   have HE := lh e
   have HB := lh hb
   clear e hb h1
   go_enter Tryz.func21, Tryz.ntmps21
   go_wp2_with fail
   go_ret
   exact ⟨ret_bool HE.out.symm, HB.out⟩
  ·have e : lessP a1 a2 b1 b2 = false := by unfold lessP; simp [h1, h2]
   have h2' : (a1 == b1) = false := by simpa using h2
   have HE := lh e
   have HB := lh hb
   clear e hb h2
   go_enter Tryz.func21, Tryz.ntmps21
   go_wp2_with fail
   go_ret
   exact ⟨ret_bool HE.out.symm, HB.out⟩
end
section
open Go.RowKit Go.Shelf
theorem townB_one {t : Town} (h : townB t = true) : 1 ≤ t.places.length := by
 unfold townB sizeB at h
 simp only [Bool.and_eq_true, decide_eq_true_eq] at h
 have := inB1_spec h.1.1.1
 omega
theorem eqToil_yes {a1 a2 b1 b2 : Int} (h : a1 = b1 ∧ a2 = b2) (w : World) : (Op.equalIn 10000 34 (.agg #[.int .i64 a1, .int .i64 a2]) (.agg #[.int .i64 b1, .int .i64 b2])).run Tryz.prog w = .ok true w := by
 rw [eqToil_run, h.1, h.2]; simp
theorem eqToil_no {a1 a2 b1 b2 : Int} (h : ¬ (a1 = b1 ∧ a2 = b2)) (w : World) : (Op.equalIn 10000 34 (.agg #[.int .i64 a1, .int .i64 a2]) (.agg #[.int .i64 b1, .int .i64 b2])).run Tryz.prog w = .ok false w := by
 rw [eqToil_run]
 have : (a1 == b1 && a2 == b2) = false := by
  rw [Bool.eq_false_iff]
  intro e
  simp at e
  exact h e
 rw [this]
theorem before_same2 {x y p q : Int} {l k : List Int} {A B : Int} (h : A < B ∨ (A = B ∧ (lessP x y p q = true ∨ (x = p ∧ y = q ∧ (l.length < k.length ∨ (l.length = k.length ∧ aheadF k l = false)))))) (e : x = p ∧ y = q) (hab : ¬ A < B) : l.length < k.length ∨ (l.length = k.length ∧ aheadF k l = false) := by
 rcases h with h | ⟨_, h | h⟩
 ·exact absurd h hab
 ·obtain ⟨rfl, rfl⟩ := e
  simp [lessP] at h
 ·exact h.2.2
theorem before_less2 {x y p q : Int} {l k : List Int} {A B : Int} (h : A < B ∨ (A = B ∧ (lessP x y p q = true ∨ (x = p ∧ y = q ∧ (l.length < k.length ∨ (l.length = k.length ∧ aheadF k l = false)))))) (e : ¬ (x = p ∧ y = q)) (hab : ¬ A < B) : lessP x y p q = true := by
 rcases h with h | ⟨_, h | h⟩
 ·exact absurd h hab
 ·exact h
 ·exact absurd ⟨h.1, h.2.1⟩ e
theorem undef_ne {b : Bool} {C : Prop} (h : some undef = some (Value.bool b)) : C := by cases h
theorem before_fst {P : Prop} {A B : Int} (h : A < B ∨ (A = B ∧ P)) : A ≤ B := by rcases h with h | h <;> omega
theorem ahead_same {l k : List Int} (h : l.length < k.length ∨ (l.length = k.length ∧ aheadF k l = false)) (hn : ¬ l.length < k.length) : aheadF k l = false := by
 rcases h with h | h
 ·exact absurd h hn
 ·exact h.2
end
section
section
variable {t : Town} {u v : Int} {dk : Bool} {l k : List Int} {g g' : Gone} {p : Price}
theorem gw_walked (ht : Fine t) (h : GW t dk (startG u) l g) (hl : l.length ≤ 40) (p : Price) : walkedF t p u l = some (g.at_, g.cost p) := by
 have h1 := walk_walkS ht.ids (h.walk0 p) zeroC
 unfold walkedF
 rw [if_neg (by omega), h1, zero_addC]
theorem gw_firstA (ht : Fine t) (h : GW t dk (startG u) l g) (hl : l.length ≤ 40) (p : Price) : firstA t p u l = (g.cost p).a := by
 unfold firstA
 rw [gw_walked ht h hl p]
theorem gw_bet (ht : Fine t) (h : GW t dk (startG u) l g) (hl : l.length ≤ 40) : betE t u l = 0 := by
 unfold betE
 rw [gw_walked ht h hl]
 rfl
theorem or2_00 : or2 0 0 = 0 := by simp [or2]
theorem dry0 {s : Skin} (h : skinB s = true) : dryE s = 0 := by unfold dryE; rw [h]; rfl
theorem cost_loss (g : Gone) (a b : Int) : (g.cost (lossP a b)).a = g.paces * a + g.steps * b := by simp [Gone.cost, lossP]
theorem end_gw (ht : Fine t) (h : GW t dk (startG u) l g) (hl : l.length ≤ 40) (ha : askE t [u] = 0) {s : Skin} (hg : skinB s = true) :
  endE t s u l = 0 ∧ endV t s u l = ⟨max 0 (s.drops - g.paces * s.pace.hi - g.steps * s.step.hi), max 0 (s.drops - g.paces * s.pace.lo - g.steps * s.step.lo)⟩ := by
 have h0 : or2 (askE t [u]) (dryE s) = 0 := by rw [ha, dry0 hg, or2_00]
 have he : endE t s u l = 0 := by unfold endE; rw [if_pos h0]; exact gw_bet ht h hl
 refine ⟨he, ?_⟩
 unfold endV
 rw [if_pos he, gw_firstA ht h hl, gw_firstA ht h hl, cost_loss, cost_loss, Int.sub_sub, Int.sub_sub]
theorem wet_none (ha : askE t [u, v] = 0) {s : Skin} (hg : skinB s = true) (hb : best t dk (lossP s.pace.hi s.step.hi) u v = none) : wetF t s u v dk = ([], 0, 6) := by
 unfold wetF
 rw [if_pos (by rw [ha, dry0 hg, or2_00]), hb]
theorem wet_some (ha : askE t [u, v] = 0) {s : Skin} (hg : skinB s = true) {c : Cost} (hb : best t dk (lossP s.pace.hi s.step.hi) u v = some (c, l)) :
  wetF t s u v dk = (l, max 0 (s.drops - c.a), 0) := by
 unfold wetF
 rw [if_pos (by rw [ha, dry0 hg, or2_00]), hb]
theorem mul_small {a b : Int} {m n : Int} (ha : 0 ≤ a ∧ a ≤ m) (hb : 0 ≤ b ∧ b ≤ n) : 0 ≤ a * b ∧ a * b ≤ m * n :=
 ⟨Int.mul_nonneg ha.1 hb.1, Int.mul_le_mul ha.2 hb.2 hb.1 (by omega)⟩
theorem gw_small (ht : Fine t) (h : GW t dk (startG u) l g) (hl : l.length ≤ 40) : (0 ≤ g.paces ∧ g.paces ≤ 80000) ∧ (0 ≤ g.up ∧ g.up ≤ 20000) ∧ (0 ≤ g.steps ∧ g.steps ≤ 20000) := by
 have h1 := h.in_ ht (startG_in u)
 obtain ⟨a, b, c, d⟩ := h1
 omega
end
end
section
open Go.RowKit
theorem inB_span (most : Int) (x : Span) : (inB 0 most [x.hi] && inB 0 x.hi [x.lo]) = spanB most x := by
 unfold spanB inB
 simp only [List.any_cons, List.any_nil, Bool.or_false]
 by_cases h1 : x.hi < 0 <;> by_cases h2 : most < x.hi <;> by_cases h3 : x.lo < 0 <;> by_cases h4 : x.hi < x.lo <;> simp [h1, h2, h3, h4] <;> omega
set_option maxRecDepth 100000 in
set_option maxHeartbeats 2000000 in
theorem rspanned_any (x : Span) (most : Int) (w : World) :
  Calls Tryz.prog 88 #[.agg #[.int .i64 x.lo, .int .i64 x.hi], .int .i64 most] w fun e w' => e = .returned (.bool (spanB most x)) ∧ Below w.heap.size w w' := by
 have HS := lh (inB_span most x)
 have B0 : Below w.heap.size w (w.alloc (.cells #[.int .i64 x.lo, .int .i64 x.hi] 63)) := (Below.refl _ _).alloc (Nat.le_refl _) _
 go_enter Tryz.func88, Tryz.ntmps88
 go_wp2_with fail
 refine (within_any x.hi 0 most _).mono ?_
 rintro e w1 ⟨rfl, rfl⟩
 cases hi : inB 0 most [x.hi] with
 | false =>
  have HI := lh hi
  clear hi
  go_wp2_with fail
  go_ret
  exact ⟨ret_bool (by rw [← HS.out, HI.out]; rfl), B0⟩
 | true =>
  have HI := lh hi
  clear hi
  go_wp2_with fail
  refine (within_any x.lo 0 x.hi _).mono ?_
  rintro e w1 ⟨rfl, rfl⟩
  go_wp2_with fail
  go_ret
  exact ⟨ret_bool (by rw [← HS.out, HI.out]; rfl), B0⟩
set_option maxRecDepth 100000 in
set_option maxHeartbeats 2000000 in
theorem rskin_any (s : Skin) (w : World) :
  Calls Tryz.prog 34 #[.agg #[.int .i64 s.drops, .int .i64 s.pace.lo, .int .i64 s.pace.hi, .int .i64 s.step.lo, .int .i64 s.step.hi]] w fun e w' => e = .returned (.bool (skinB s)) ∧ Below w.heap.size w w' := by
 have hs : skinB s = (inB 0 100000 [s.drops] && (spanB 50 s.pace && spanB 50 s.step)) := by
  unfold skinB spansB
  simp [Bool.not_or]
 have HS := lh hs
 clear hs
 go_enter Tryz.func34, Tryz.ntmps34
 go_wp2_with fail
 refine (within_any s.drops 0 100000 _).mono ?_
 rintro e w1 ⟨rfl, rfl⟩
 have B0 : Below w.heap.size w (w.alloc (.cells #[.int .i64 s.drops, .int .i64 s.pace.lo, .int .i64 s.pace.hi, .int .i64 s.step.lo, .int .i64 s.step.hi] 65)) := (Below.refl _ _).alloc (Nat.le_refl _) _
 have X0 := Blk.new w 65 #[.int .i64 s.drops, .int .i64 s.pace.lo, .int .i64 s.pace.hi, .int .i64 s.step.lo, .int .i64 s.step.hi]
 cases hi : inB 0 100000 [s.drops] with
 | false =>
  have HI := lh hi
  clear hi
  go_wp2_with fail
  go_ret
  exact ⟨ret_bool (by rw [HS.out, HI.out]; rfl), B0⟩
 | true =>
  have HI := lh hi
  clear hi
  go_wp2_with fail
  refine (rspanned_any s.pace 50 _).mono ?_
  rintro e w1 ⟨rfl, hb1⟩
  have X1 := X0.below hb1 X0.lt
  have B1 := B0.trans (hb1.mono B0.size)
  have x3 := X1.cell 3
  have x4 := X1.cell 4
  clear X0 hb1 B0 X1
  cases hj : spanB 50 s.pace with
  | false =>
   have HJ := lh hj
   clear hj
   go_wp2_with fail
   go_ret
   exact ⟨ret_bool (by rw [HS.out, HI.out, HJ.out]; rfl), B1⟩
  | true =>
   have HJ := lh hj
   clear hj
   go_wp2_with fail
   refine (rspanned_any s.step 50 _).mono ?_
   rintro e w2 ⟨rfl, hb2⟩
   have B2 := B1.trans (hb2.mono B1.size)
   clear hb2
   go_wp2_with fail
   go_ret
   exact ⟨ret_bool (by rw [HS.out, HI.out, HJ.out]; rfl), B2⟩
end
section
open Go.RowKit
def infC : Cost := ⟨1000000000, 0, 0, 0⟩
def entC (r : Option Cost) : Cost := r.getD infC
def eVals (E : List (Option Cost)) : List Value := E.flatMap fun r => (entC r).vals
theorem eVals_cons (r : Option Cost) (E : List (Option Cost)) : eVals (r :: E) = .int .i64 (entC r).a :: .int .i64 (entC r).b :: .int .i64 (entC r).c :: .int .i64 (entC r).d :: eVals E := by simp [eVals, Cost.vals]
theorem eVals_len (E : List (Option Cost)) : (eVals E).length = E.length * 4 := by
 induction E with
 | nil => rfl
 | cons r E ih => rw [eVals_cons]; simp [ih]; omega
theorem eVals_at {E : List (Option Cost)} {k j : Nat} {r : Option Cost} (h : E[k]? = some r) (hj : j < 4) : (eVals E)[k * 4 + j]? = (entC r).vals[j]? := by
 induction E generalizing k with
 | nil => simp at h
 | cons y l ih =>
  rw [eVals_cons]
  cases k with
  | zero =>
   simp at h
   subst h
   rcases (show j = 0 ∨ j = 1 ∨ j = 2 ∨ j = 3 by omega) with rfl | rfl | rfl | rfl <;> rfl
  | succ k =>
   have e : (k + 1) * 4 + j = (k * 4 + j) + 1 + 1 + 1 + 1 := by omega
   rw [e]
   simp only [List.getElem?_cons_succ]
   exact ih (by simpa using h)
theorem eVals_set {E : List (Option Cost)} {k : Nat} {r : Option Cost} (hk : k < E.length) :
  ((((eVals E).set (k * 4) (.int .i64 (entC r).a)).set (k * 4 + 1) (.int .i64 (entC r).b)).set (k * 4 + 2) (.int .i64 (entC r).c)).set (k * 4 + 3) (.int .i64 (entC r).d) = eVals (E.set k r) := by
 induction E generalizing k with
 | nil => simp at hk
 | cons y l ih =>
  cases k with
  | zero => simp only [eVals_cons, List.set_cons_zero]; rfl
  | succ k =>
   have e : (k + 1) * 4 = k * 4 + 1 + 1 + 1 + 1 := by omega
   have e1 : (k + 1) * 4 + 1 = (k * 4 + 1) + 1 + 1 + 1 + 1 := by omega
   have e2 : (k + 1) * 4 + 2 = (k * 4 + 2) + 1 + 1 + 1 + 1 := by omega
   have e3 : (k + 1) * 4 + 3 = (k * 4 + 3) + 1 + 1 + 1 + 1 := by omega
   rw [e1, e2, e3, e, List.set_cons_succ, eVals_cons, eVals_cons]
   simp only [List.set_cons_succ]
   rw [ih (by simpa using hk)]
theorem eVals_inf {E : List (Option Cost)} {k : Nat} (h : E[k]? = some (some zeroC)) : (eVals E).set (k * 4) (.int .i64 1000000000) = eVals (E.set k none) := by
 induction E generalizing k with
 | nil => simp at h
 | cons y l ih =>
  cases k with
  | zero =>
   simp at h
   subst h
   simp only [eVals_cons, List.set_cons_zero]; rfl
  | succ k =>
   have e : (k + 1) * 4 = k * 4 + 1 + 1 + 1 + 1 := by omega
   rw [e, List.set_cons_succ, eVals_cons, eVals_cons]
   simp only [List.set_cons_succ]
   rw [ih (by simpa using h)]
theorem eVals_zero (n : Nat) : eVals (List.replicate n (some zeroC)) = List.replicate (n * 4) (.int .i64 0) := by
 induction n with
 | zero => rfl
 | succ n ih =>
  have e : (n + 1) * 4 = n * 4 + 1 + 1 + 1 + 1 := by omega
  rw [List.replicate_succ, eVals_cons, ih, e]
  rfl
theorem made_zero (n : Nat) : madeCells #[.int .i64 0, .int .i64 0, .int .i64 0, .int .i64 0] (n * 4) = (eVals (List.replicate n (some zeroC))).toArray := by
 rw [eVals_zero]
 unfold madeCells
 apply Array.ext'
 rw [Array.toList_map]
 apply List.ext_getElem
 ·simp
 ·intro i h1 h2
  simp
  rcases (show i % 4 = 0 ∨ i % 4 = 1 ∨ i % 4 = 2 ∨ i % 4 = 3 by omega) with h | h | h | h <;> simp [h]
theorem lessC_cmp (x y : Cost) : lessC x y = decide (cmpL x.list y.list < 0) := by
 unfold lessC
 simp only [cmpL, Cost.list]
 by_cases h1 : x.a = y.a
 ·by_cases h2 : x.b = y.b
  ·by_cases h3 : x.c = y.c
   ·by_cases h4 : x.d = y.d
    ·simp [h1, h2, h3, h4]
    ·rcases (show x.d < y.d ∨ y.d < x.d by omega) with h | h
     ·simp [h1, h2, h3, h4, h]
     ·simp [h1, h2, h3, h4, h, show ¬ x.d < y.d by omega]
   ·rcases (show x.c < y.c ∨ y.c < x.c by omega) with h | h
    ·simp [h1, h2, h3, h]
    ·simp [h1, h2, h3, h, show ¬ x.c < y.c by omega]
  ·rcases (show x.b < y.b ∨ y.b < x.b by omega) with h | h
   ·simp [h1, h2, h]
   ·simp [h1, h2, h, show ¬ x.b < y.b by omega]
 ·rcases (show x.a < y.a ∨ y.a < x.a by omega) with h | h
  ·simp [h1, h]
  ·simp [h1, h, show ¬ x.a < y.a by omega]
theorem leE_zero {E : List (Option Cost)} {i : Nat} (h : E[i]? = some (some zeroC)) : leE E i zeroC := ⟨zeroC, h, by simp [cmpL, Cost.list]⟩
theorem BSt.start {t : Town} {dk : Bool} {p : Price} {to : Int} {E : List (Option Cost)} (hl : E.length = t.places.length) (h : ∀ (i : Nat) v, t.places[i]? = some v → E[i]? = some (if v = to then some zeroC else none)) : BSt t dk p to 0 0 0 0 E := by
 refine ⟨hl, ?_, ?_, ?_, fun i' hi => absurd hi (by omega), fun v _ x hx => by simp at hx⟩
 ·intro i v c hv hc
  rw [h i v hv] at hc
  by_cases e : v = to
  ·rw [if_pos e] at hc
   cases hc
   subst e
   exact ⟨[], .nil _, by simp⟩
  ·rw [if_neg e] at hc
   cases hc
 ·intro i hi
  exact leE_zero (by rw [h i to hi, if_pos rfl])
 ·intro i v c l hv hw hlen
  obtain rfl : l = [] := List.length_eq_zero_iff.1 (by omega)
  cases hw
  exact leE_zero (by rw [h i _ hv, if_pos rfl])
structure Little (x : Cost) : Prop where
 a : 0 ≤ x.a ∧ x.a ≤ 250000000
 b : 0 ≤ x.b ∧ x.b ≤ 1000000
 c : 0 ≤ x.c ∧ x.c ≤ 4000000
 d : 0 ≤ x.d ∧ x.d ≤ 2000
theorem BSt.little {t : Town} {dk : Bool} {p : Price} {to : Int} {k i j M : Nat} {E : List (Option Cost)} (h : BSt t dk p to k i j M E) (ht : Fine t) (hp : Fair p) (hM : M ≤ 2000) {q : Nat} {d : Cost} (hd : E[q]? = some (some d)) : Little d := by
 have hq : q < t.places.length := by rw [← h.len]; exact (List.getElem?_eq_some_iff.1 hd).1
 obtain ⟨l, hw, hl⟩ := h.sound q _ d (List.getElem?_eq_getElem hq) hd
 have := hw.bound ht hp
 exact ⟨by omega, by omega, by omega, by omega⟩
def EAt (w : World) (B : Nat) (A : Option Addr) (n : Nat) (E : List (Option Cost)) : Prop := Reads w B 4 A n (eVals E)
end
section
open Go.RowKit Go.Shelf
structure RWSt (w : World) (T : Array Value) (p : Price) (co : Cost) (W : World) : Prop where
 bel : Below w.heap.size w W
 tb : Blk W w.heap.size 25 T
 pb : Blk W (w.heap.size + 1) 122 #[.int .i64 p.pace, .int .i64 p.up, .int .i64 p.step]
 rb : Blk W (w.heap.size + 1 + 1) 118 #[.int .i64 0, .int .i64 0, .int .i64 0, .int .i64 0]
 sb : Blk W (w.heap.size + 1 + 1 + 1) 118 #[.int .i64 co.a, .int .i64 co.b, .int .i64 co.c, .int .i64 co.d]
theorem RWSt.below {w W W' : World} {T : Array Value} {p : Price} {co : Cost} (h : RWSt w T p co W) (hb : Below W.heap.size W W') : RWSt w T p co W' :=
 ⟨h.bel.trans (hb.mono h.bel.size), h.tb.below hb h.tb.lt, h.pb.below hb h.pb.lt, h.rb.below hb h.rb.lt, h.sb.below hb h.sb.lt⟩
theorem ret4 {w W : World} {B g : Nat} {t : TypeId} {z0 z1 z2 z3 : Value} (R : Blk W g t #[z0, z1, z2, z3]) (L : Below B w W) (hg : B ≤ g) (v0 v1 v2 v3 : Value) :
  Blk ((((W.setCell ⟨g, 0, none⟩ v0).setCell ⟨g, 1, none⟩ v1).setCell ⟨g, 2, none⟩ v2).setCell ⟨g, 3, none⟩ v3) g t #[v0, v1, v2, v3] ∧ Below B w ((((W.setCell ⟨g, 0, none⟩ v0).setCell ⟨g, 1, none⟩ v1).setCell ⟨g, 2, none⟩ v2).setCell ⟨g, 3, none⟩ v3) :=
 ⟨(((R.set_ 0 v0).set_ 1 v1).set_ 2 v2).set_ 3 v3, (((L.setCell (p := ⟨g, 0, none⟩) hg _).setCell (p := ⟨g, 1, none⟩) hg _).setCell (p := ⟨g, 2, none⟩) hg _).setCell (p := ⟨g, 3, none⟩) hg _⟩
theorem RWSt.put {w W : World} {T : Array Value} {p : Price} {co : Cost} (h : RWSt w T p co W) (d : Cost) : RWSt w T p d ((((W.setCell ⟨w.heap.size + 1 + 1 + 1, 0, none⟩ (.int .i64 d.a)).setCell ⟨w.heap.size + 1 + 1 + 1, 1, none⟩ (.int .i64 d.b)).setCell ⟨w.heap.size + 1 + 1 + 1, 2, none⟩ (.int .i64 d.c)).setCell ⟨w.heap.size + 1 + 1 + 1, 3, none⟩ (.int .i64 d.d)) := by
 have X := ret4 (w := W) (B := w.heap.size + 1 + 1 + 1) h.sb (Below.refl _ _) (Nat.le_refl _) (.int .i64 d.a) (.int .i64 d.b) (.int .i64 d.c) (.int .i64 d.d)
 have Y := (ret4 h.sb h.bel (by omega) (.int .i64 d.a) (.int .i64 d.b) (.int .i64 d.c) (.int .i64 d.d)).2
 exact ⟨Y, h.tb.below X.2 (by omega), h.pb.below X.2 (by omega), h.rb.below X.2 (by omega), X.1⟩
end
section
open Go.RowKit Go.Shelf
theorem wpListIn_make_all {F : Fence} {nn : Nat} {P : Program} {w : World} {ops : Array Oper} {rest : List Oper} {o : Oper} {a : Act} {Q : Exit → Act → World → Prop} (hgd : o.guard = none) (l c : Operand) (t : TypeId) (ho : o.op = .makeSlice t l c)
  (e : TypeId) (i : TypeInfo) (z : Value) (h1 : P.underlying t = some (.slice e)) (h2 : P.info? e = some i) (h3 : i.zero = some z) (n : Nat) (hl : a.eval l = .int .i64 n) (hc : a.eval c = .int .i64 n) (hb : i.bytes * n ≤ 140737488355328) (hn : n ≤ maxLen)
  (h : wpListIn F nn P ops Q rest (a.put o.dst (.slice (some ⟨w.heap.size, 0, none⟩) n n)) (w.alloc (.cells (madeCells z.cells (n * i.size)) e))) :
  wpListIn F nn P ops Q (o :: rest) a w := by
 have h63' : (n : Int) ≤ 9223372036854775807 := by
  have h := hn
  simp [maxLen] at h
  omega
 have hb' : (i.bytes : Int) * (n : Int) ≤ 281474976710656 := by
  rw [← Int.natCast_mul]
  omega
 refine wpListIn_plain hgd fun K hK => ?_
 have hr := run_make (P := P) w t e i z h1 h2 h3 .i64 .i64 n n (by omega) (Int.le_refl _) hb' h63'
 simp only [Int.toNat_natCast] at hr
 unfold Oper.wpIn
 refine ⟨?_, ?_⟩
 ·simp [Oper.about, ho]
 ·rw [Oper.semAt_plain F _ _ (by rw [ho]; intro c hc'; cases hc')]
  simp [execOp, ho, hl, hc, hr, Result.andThen]
  exact hK _ _ h
theorem info_rcost : (Tryz.prog.info? 118).map (fun i => (i.zero, i.size, i.bytes)) = some (some (.agg #[.int .i64 0, .int .i64 0, .int .i64 0, .int .i64 0]), 4, 32) := by kernel_rfl
structure RCSt (w : World) (T : Array Value) (p : Price) (E : List (Option Cost)) (W : World) : Prop where
 bel : Below w.heap.size w W
 tb : Blk W w.heap.size 25 T
 pb : Blk W (w.heap.size + 1) 122 #[.int .i64 p.pace, .int .i64 p.up, .int .i64 p.step]
 eb : Blk W (w.heap.size + 1 + 1) 118 (eVals E).toArray
section
variable {w W W' : World} {T : Array Value} {p : Price} {E : List (Option Cost)}
theorem RCSt.below (h : RCSt w T p E W) (hb : Below W.heap.size W W') : RCSt w T p E W' :=
 ⟨h.bel.trans (hb.mono h.bel.size), h.tb.below hb h.tb.lt, h.pb.below hb h.pb.lt, h.eb.below hb h.eb.lt⟩
theorem RCSt.cell (h : RCSt w T p E W) {k : Nat} {r : Option Cost} (hk : E[k]? = some r) : W.cell? ⟨w.heap.size + 1 + 1, k * 4, none⟩ = some (.int .i64 (entC r).a) ∧ W.cell? ⟨w.heap.size + 1 + 1, k * 4 + 1, none⟩ = some (.int .i64 (entC r).b) ∧
  W.cell? ⟨w.heap.size + 1 + 1, k * 4 + 2, none⟩ = some (.int .i64 (entC r).c) ∧ W.cell? ⟨w.heap.size + 1 + 1, k * 4 + 3, none⟩ = some (.int .i64 (entC r).d) := by
 refine ⟨?_, ?_, ?_, ?_⟩
 ·rw [h.eb.cell, List.getElem?_toArray]; exact eVals_at (j := 0) hk (by omega)
 ·rw [h.eb.cell, List.getElem?_toArray]; exact eVals_at (j := 1) hk (by omega)
 ·rw [h.eb.cell, List.getElem?_toArray]; exact eVals_at (j := 2) hk (by omega)
 ·rw [h.eb.cell, List.getElem?_toArray]; exact eVals_at (j := 3) hk (by omega)
theorem RCSt.put (h : RCSt w T p E W) {k : Nat} (hk : k < E.length) (d : Cost) :
  RCSt w T p (E.set k (some d)) ((((W.setCell ⟨w.heap.size + 1 + 1, k * 4, none⟩ (.int .i64 d.a)).setCell ⟨w.heap.size + 1 + 1, k * 4 + 1, none⟩ (.int .i64 d.b)).setCell ⟨w.heap.size + 1 + 1, k * 4 + 2, none⟩ (.int .i64 d.c)).setCell ⟨w.heap.size + 1 + 1, k * 4 + 3, none⟩ (.int .i64 d.d)) := by
 have b := fun {B : Nat} {V : World} (L : Below B V W) (hB : B ≤ w.heap.size + 1 + 1) => (((L.setCell (p := ⟨w.heap.size + 1 + 1, k * 4, none⟩) hB (.int .i64 d.a)).setCell (p := ⟨w.heap.size + 1 + 1, k * 4 + 1, none⟩) hB (.int .i64 d.b)).setCell (p := ⟨w.heap.size + 1 + 1, k * 4 + 2, none⟩) hB (.int .i64 d.c)).setCell (p := ⟨w.heap.size + 1 + 1, k * 4 + 3, none⟩) hB (.int .i64 d.d)
 have l := b (Below.refl (w.heap.size + 1 + 1) W) (Nat.le_refl _)
 refine ⟨b h.bel (by omega), h.tb.below l (by omega), h.pb.below l (by omega), ?_⟩
 have e := (((h.eb.set_ (k * 4) (.int .i64 d.a)).set_ (k * 4 + 1) (.int .i64 d.b)).set_ (k * 4 + 2) (.int .i64 d.c)).set_ (k * 4 + 3) (.int .i64 d.d)
 rw [← eVals_set hk]
 simpa [entC] using e
theorem RCSt.inf (h : RCSt w T p E W) {k : Nat} (hk : E[k]? = some (some zeroC)) : RCSt w T p (E.set k none) (W.setCell ⟨w.heap.size + 1 + 1, k * 4, none⟩ (.int .i64 1000000000)) := by
 have l := (Below.refl (w.heap.size + 1 + 1) W).setCell (p := ⟨w.heap.size + 1 + 1, k * 4, none⟩) (Nat.le_refl _) (.int .i64 1000000000)
 refine ⟨h.bel.setCell (by simp; omega) _, h.tb.below l (by omega), h.pb.below l (by omega), ?_⟩
 have e := h.eb.set_ (k * 4) (.int .i64 1000000000)
 rw [← eVals_inf hk]
 simpa using e
end
theorem dleads_none {W : World} {n : Nat} (x : Link) (v : Int) (dk : Bool) (p : Price) (hr : leads dk p x v = none) (hx : Fit x) (hp : Cheap p) {σ : Type} {of : σ → World} (h1 : ∀ z, Below W.heap.size W (of z)) (h2 : ∀ z W', Below (of z).heap.size (of z) W' → Cls of W') (z : σ) :
  CallsIn Fence.wide n Tryz.prog 112 #[.agg #[.int .i64 x.id, .int .i64 x.fr, .int .i64 x.to, .int .i64 x.steps, .int .i64 x.paces], .int .i64 v, .bool dk, .agg #[.int .i64 p.pace, .int .i64 p.up, .int .i64 p.step]] (of z) fun e w'' => e = .returned (.tuple #[.int .i64 0, .agg #[.int .i64 0, .int .i64 0, .int .i64 0, .int .i64 0], .bool false]) ∧ Cls of w'' :=
 (callsIn_wide.2 (leads_any x v dk p (of z) hx hp)).mono fun e w'' ⟨he, hb⟩ => ⟨by rw [he, hr]; rfl, h2 z _ hb⟩
theorem dleads_some {W : World} {n : Nat} (x : Link) (v : Int) (dk : Bool) (p : Price) (v' : Int) (cx : Cost) (hr : leads dk p x v = some (v', cx)) (hx : Fit x) (hp : Cheap p) {σ : Type} {of : σ → World} (h1 : ∀ z, Below W.heap.size W (of z)) (h2 : ∀ z W', Below (of z).heap.size (of z) W' → Cls of W') (z : σ) :
  CallsIn Fence.wide n Tryz.prog 112 #[.agg #[.int .i64 x.id, .int .i64 x.fr, .int .i64 x.to, .int .i64 x.steps, .int .i64 x.paces], .int .i64 v, .bool dk, .agg #[.int .i64 p.pace, .int .i64 p.up, .int .i64 p.step]] (of z) fun e w'' => e = .returned (.tuple #[.int .i64 v', .agg #[.int .i64 cx.a, .int .i64 cx.b, .int .i64 cx.c, .int .i64 cx.d], .bool true]) ∧ Cls of w'' :=
 (callsIn_wide.2 (leads_any x v dk p (of z) hx hp)).mono fun e w'' ⟨he, hb⟩ => ⟨by rw [he, hr]; rfl, h2 z _ hb⟩
theorem placeI_at {l : List Int} {v : Int} (h : v ∈ l) : ∃ i : Nat, placeI l v = i ∧ l[i]? = some v ∧ i < l.length := by
 have hany : l.any (fun y => y == v) = true := List.any_eq_true.2 ⟨v, h, by simp⟩
 unfold placeI idx
 rw [if_pos hany]
 have hlt : l.findIdx (fun y => y == v) < l.length := List.findIdx_lt_length.2 (by simpa using hany)
 have e : l[l.findIdx (fun y => y == v)] = v := by simpa using List.findIdx_getElem (w := hlt)
 exact ⟨_, rfl, by rw [List.getElem?_eq_getElem hlt, e], hlt⟩
theorem place_cls {W : World} {n' : Nat} (A : Option Addr) (n c : Nat) (A' : Option Addr) (m d : Nat) (t : Town) (id : Int) (i : Nat) (hi : placeI t.places id = i) (hn : n ≤ maxLen) (B : Nat) (hB : B ≤ W.heap.size) (ht : IntsAt W B A n t.places) {σ : Type} {of : σ → World} (h1 : ∀ z, Below W.heap.size W (of z)) (h2 : ∀ z W', Below (of z).heap.size (of z) W' → Cls of W') (z : σ) :
  CallsIn Fence.wide n' Tryz.prog 86 #[.agg #[.slice A n c, .slice A' m d], .int .i64 id] (of z) fun e w'' => e = .returned (.int .i64 (i : Int)) ∧ Cls of w'' :=
 (callsIn_wide.2 (place_any A n c A' m d t id (of z) hn (((ht.more hB).below (h1 z)).more (h1 z).size))).mono fun e w'' ⟨he, hb⟩ => ⟨by rw [he, hi], h2 z _ hb⟩
theorem rplus_cls {W : World} {n : Nat} (x y : Cost) (hx : Small x) (hy : Small y) {σ : Type} {of : σ → World} (h1 : ∀ z, Below W.heap.size W (of z)) (h2 : ∀ z W', Below (of z).heap.size (of z) W' → Cls of W') (z : σ) :
  CallsIn Fence.wide n Tryz.prog 113 #[.agg #[.int .i64 x.a, .int .i64 x.b, .int .i64 x.c, .int .i64 x.d], .agg #[.int .i64 y.a, .int .i64 y.b, .int .i64 y.c, .int .i64 y.d]] (of z) fun e w'' => e = .returned (.agg #[.int .i64 (addC x y).a, .int .i64 (addC x y).b, .int .i64 (addC x y).c, .int .i64 (addC x y).d]) ∧ Cls of w'' :=
 (callsIn_wide.2 (rplus_any x y (of z) hx hy)).mono fun e w'' ⟨he, hb⟩ => ⟨he, h2 z _ hb⟩
theorem rless_cls {W : World} {n : Nat} (x y : Cost) (b : Bool) (hl : lessC x y = b) {σ : Type} {of : σ → World} (h1 : ∀ z, Below W.heap.size W (of z)) (h2 : ∀ z W', Below (of z).heap.size (of z) W' → Cls of W') (z : σ) :
  CallsIn Fence.wide n Tryz.prog 142 #[.agg #[.int .i64 x.a, .int .i64 x.b, .int .i64 x.c, .int .i64 x.d], .agg #[.int .i64 y.a, .int .i64 y.b, .int .i64 y.c, .int .i64 y.d]] (of z) fun e w'' => e = .returned (.bool b) ∧ Cls of w'' :=
 (callsIn_wide.2 (rless_any x y (of z))).mono fun e w'' ⟨he, hb⟩ => ⟨by rw [he, hl], h2 z _ hb⟩
theorem Small.ent {r : Option Cost} (h : ∀ d, r = some d → Little d) : Small (entC r) := by
 cases r with
 | none => exact ⟨by simp [entC, infC], by simp [entC, infC], by simp [entC, infC], by simp [entC, infC]⟩
 | some d =>
  obtain ⟨h1, h2, h3, h4⟩ := h d rfl
  exact ⟨by simp only [entC, Option.getD_some]; omega, by simp only [entC, Option.getD_some]; omega, by simp only [entC, Option.getD_some]; omega, by simp only [entC, Option.getD_some]; omega⟩
def RCostsOut (w : World) (t : Town) (dk : Bool) (p : Price) (to : Int) (n : Nat) (e : Ending) (w' : World) : Prop :=
 ∃ (A : Option Addr) (E : List (Option Cost)), e = .returned (.slice A n n) ∧ EAt w' w'.heap.size A n E ∧ Costs t dk p to E ∧ (∀ (i : Nat) d, E[i]? = some (some d) → Little d) ∧ Below w.heap.size w w'
set_option maxRecDepth 100000 in
set_option maxHeartbeats 16000000 in
theorem rcosts_in (A : Option Addr) (n c : Nat) (A' : Option Addr) (m d : Nat) (p : Price) (t : Town) (dk : Bool) (to : Int) (w : World)
  (hm : m ≤ 20) (ha : IntsAt w w.heap.size A n t.places) (ht : LinksAt w w.heap.size A' m t.links) (hp : Cheap p) (hfine : Fine t) (hfair : Fair p) (hnd : t.places.Nodup) :
  CallsIn Fence.wide 9 Tryz.prog 111 #[.agg #[.slice A n c, .slice A' m d], .int .i64 to, .bool dk, .agg #[.int .i64 p.pace, .int .i64 p.up, .int .i64 p.step]] w (RCostsOut w t dk p to n) := by
 have HT := lh ht
 have HP := lh hp
 have HA := lh ha
 have HFI := lh hfine
 have HFA := lh hfair
 have HND := lh hnd
 have HLm := lh ht.len
 have HLn := lh ha.len
 have hn9 : n ≤ 9 := by have := hfine.size; have := ha.len; omega
 obtain ⟨i0, hi, hz0, hz1, hz2⟩ := info_parts info_rcost
 clear ha ht hp hfine hfair hnd
 refine callsIn_of_wp Tryz.func111 rfl trivial ?_ rfl
 simp only [Tryz.ntmps111, List.size_toArray, List.length_cons, List.length_nil, Nat.reduceAdd, Nat.reduceSub, Array.replicate_succ, Array.replicate_zero, List.push_toArray, List.append_toArray, List.nil_append, List.cons_append]
 gi_wp2_with (first | (gi_at_make; refine wpListIn_make_all rfl _ _ 177 rfl 118 i0 _ rfl hi hz0 n rfl rfl (by rw [hz2]; omega) (by unfold maxLen; omega) ?_) | fail)
 have S0 : RCSt w #[.slice A n c, .slice A' m d] p (List.replicate n (some zeroC)) (((w.alloc (.cells #[.slice A n c, .slice A' m d] 25)).alloc (.cells #[.int .i64 p.pace, .int .i64 p.up, .int .i64 p.step] 122)).alloc (.cells (madeCells #[.int .i64 0, .int .i64 0, .int .i64 0, .int .i64 0] (n * 4)) 118)) := by
  have b := (((Below.refl w.heap.size w).alloc (Nat.le_refl _) (.cells #[.slice A n c, .slice A' m d] 25)).alloc (by simp) (.cells #[.int .i64 p.pace, .int .i64 p.up, .int .i64 p.step] 122)).alloc (by simp; omega) (.cells (madeCells #[.int .i64 0, .int .i64 0, .int .i64 0, .int .i64 0] (n * 4)) 118)
  have X := ((Blk.new w 25 #[.slice A n c, .slice A' m d]).alloc (.cells #[.int .i64 p.pace, .int .i64 p.up, .int .i64 p.step] 122)).alloc (.cells (madeCells #[.int .i64 0, .int .i64 0, .int .i64 0, .int .i64 0] (n * 4)) 118)
  have Y := (Blk.new (w.alloc (.cells #[.slice A n c, .slice A' m d] 25)) 122 #[.int .i64 p.pace, .int .i64 p.up, .int .i64 p.step]).alloc (.cells (madeCells #[.int .i64 0, .int .i64 0, .int .i64 0, .int .i64 0] (n * 4)) 118)
  have U := Blk.new ((w.alloc (.cells #[.slice A n c, .slice A' m d] 25)).alloc (.cells #[.int .i64 p.pace, .int .i64 p.up, .int .i64 p.step] 122)) 118 (madeCells #[.int .i64 0, .int .i64 0, .int .i64 0, .int .i64 0] (n * 4))
  rw [World.size_alloc] at Y
  rw [World.size_alloc, World.size_alloc, made_zero] at U
  rw [made_zero] at b X Y ⊢
  exact ⟨b, X, Y, U⟩
 have HS0 := lh S0
 clear S0
 generalize (((w.alloc (.cells #[.slice A n c, .slice A' m d] 25)).alloc (.cells #[.int .i64 p.pace, .int .i64 p.up, .int .i64 p.step] 122)).alloc (.cells (madeCells #[.int .i64 0, .int .i64 0, .int .i64 0, .int .i64 0] (n * 4)) 118)) = w0 at *
 gi_loopw [10] (fun vi wr => ∃ (k : Nat) (E : List (Option Cost)), k ≤ n ∧ vi = .int .i64 k ∧ Hid (RCSt w #[.slice A n c, .slice A' m d] p E wr ∧ E.length = n ∧ ∀ (i : Nat) v, t.places[i]? = some v → E[i]? = some (if i < k ∧ v ≠ to then none else some zeroC))) (fun vi _ => n - (intOf vi).toNat)
 case atStart =>
  refine ⟨0, _, Nat.zero_le _, rfl, lh ⟨HS0.out, List.length_replicate, fun i v hv => ?_⟩⟩
  rw [if_neg (by omega), List.getElem?_replicate, if_pos (by have := (List.getElem?_eq_some_iff.1 hv).1; have := HLn.out; omega)]
 case round =>
  obtain ⟨k, E, hk, rfl, HS⟩ := hrel
  have t0 := HS.out.1.tb.cell 0
  have t1 := HS.out.1.tb.cell 1
  by_cases hlt : k < n
  ·obtain ⟨b, off, x, rfl, hb, hx, hcell⟩ := (HA.out.below HS.out.1.bel).cell hlt
   have hbl : b < wr.heap.size := Nat.lt_of_lt_of_le hb HS.out.1.bel.size
   have HX := lh hx
   have HE : Hid (E[k]? = some (some zeroC)) := lh (by rw [HS.out.2.2 k x hx, if_neg (by omega)])
   have e1 : ((k + 1 : Nat) : Int) = (k : Int) + 1 := by omega
   clear hx hb
   have c0 := (HS.out.1.cell HE.out).1
   have f0 := HS.out.1.eb.frozen (k * 4)
   by_cases hne : x = to
   ·have HNE := lh hne
    subst hne
    gi_wp2
    refine ⟨⟨k + 1, E, by omega, by rw [e1], lh ⟨HS.out.1, HS.out.2.1, fun i v hv => ?_⟩⟩, by simp [intOf]; omega⟩
    rw [HS.out.2.2 i v hv]
    by_cases hik : i = k
    ·subst hik
     rw [HX.out] at hv
     cases hv
     rw [if_neg (by omega), if_neg (fun h => h.2 rfl)]
    ·by_cases hik2 : i < k
     ·simp [hik2, show i < k + 1 by omega]
     ·simp [hik2, show ¬ i < k + 1 by omega]
   ·have HNE := lh hne
    have HSP := lh (HS.out.1.inf HE.out)
    gi_wp2
    refine ⟨⟨k + 1, E.set k none, by omega, by rw [e1], lh ⟨HSP.out, by rw [List.length_set]; exact HS.out.2.1, fun i v hv => ?_⟩⟩, by simp [intOf]; omega⟩
    by_cases hik : i = k
    ·subst hik
     rw [HX.out] at hv
     cases hv
     rw [if_pos ⟨by omega, HNE.out⟩, List.getElem?_set_self (by rw [HS.out.2.1]; exact hlt)]
    ·rw [List.getElem?_set_ne (Ne.symm hik), HS.out.2.2 i v hv]
     by_cases hik2 : i < k
     ·simp [hik2, show i < k + 1 by omega]
     ·simp [hik2, show ¬ i < k + 1 by omega]
  ·obtain rfl : k = n := by omega
   have HE : Hid (BSt t dk p to 0 0 0 0 E) := lh (BSt.start (by rw [HS.out.2.1, HLn.out]) fun i v hv => by
    have hi' : i < k := by rw [← HLn.out]; exact (List.getElem?_eq_some_iff.1 hv).1
    rw [HS.out.2.2 i v hv]
    by_cases e : v = to
    ·rw [if_neg (fun h => h.2 e), if_pos e]
    ·rw [if_pos ⟨hi', e⟩, if_neg e])
   have HS1 := lh HS.out.1
   clear HS
   gi_wp2
   gi_loopg [11] 9 (fun g vc wr => ∃ (ch : Bool) (q M : Nat) (E : List (Option Cost)), vc = .bool ch ∧ (g = if ch then 9 - q else 0) ∧ (ch = true → q ≤ 8) ∧ Hid (RCSt w #[.slice A k c, .slice A' m d] p E wr ∧ BSt t dk p to q 0 0 M E ∧ M ≤ q * 180 ∧ q ≤ 9 ∧ (ch = false → Stable t dk p E k 0)))
   case atStart => exact ⟨true, 0, 0, E, rfl, rfl, fun _ => Nat.zero_le _, lh ⟨HS1.out, HE.out, Nat.zero_le _, Nat.zero_le _, fun h => by cases h⟩⟩
   case round =>
    obtain ⟨ch, q, M, E1, rfl, hg, hq8, HV⟩ := hrel
    clear HS1 HE
    cases ch with
    | false =>
     gi_wp2
     refine bodyPost_ret (v := .slice (some ⟨w.heap.size + 1 + 1, 0, none⟩) k k) (by simp [results, Tryz.results111, go_sem]) rfl ?_
     have hB := HV.out.2.1
     have hlen : E1.length = k := by rw [hB.len, HLn.out]
     refine ⟨_, E1, rfl, ⟨by rw [eVals_len, hlen], fun h0 => ⟨_, rfl, HV.out.1.eb.lt, fun j u hu => ?_⟩⟩, hB.costs (by rw [HLn.out]; exact HV.out.2.2.2.2 trivial) HFI.out, fun i d hd => hB.little HFI.out HFA.out (by have := HV.out.2.2.1; have := HV.out.2.2.2.1; omega) hd, HV.out.1.bel⟩
     have ha : ((⟨w.heap.size + 1 + 1, 0, none⟩ : Addr).add j) = ⟨w.heap.size + 1 + 1, j, none⟩ := by
      unfold Addr.add
      by_cases hj : j = 0
      ·simp [hj]
      ·simp [hj]
     rw [ha, HV.out.1.eb.cell, List.getElem?_toArray]
     exact hu
    | true =>
     have hq : q ≤ 8 := hq8 rfl
     have hg' : gk = 9 - q := by simpa using hg
     clear hg hq8
     gi_wp2
     gi_loopw [11, 12] (fun vc vi wr => ∃ (ch : Bool) (i M : Nat) (E : List (Option Cost)), vc = .bool ch ∧ vi = .int .i64 i ∧ i ≤ k ∧ Hid (RCSt w #[.slice A k c, .slice A' m d] p E wr ∧ BSt t dk p to q i 0 M E ∧ M ≤ q * 180 + i * 20 ∧ (ch = false → Stable t dk p E i 0) ∧ (ch = true → q ≤ 7))) (fun _ vi _ => k - (intOf vi).toNat)
     case atStart => exact ⟨false, 0, M, E1, rfl, rfl, Nat.zero_le _, lh ⟨HV.out.1, HV.out.2.1, by have := HV.out.2.2.1; omega, fun _ i' v hv j' x hx hor => by omega, fun h => by cases h⟩⟩
     case round =>
      obtain ⟨ch, i, M2, E2, rfl, rfl, hik, HW⟩ := hrel
      clear HV
      have t0 := HW.out.1.tb.cell 0
      have t1 := HW.out.1.tb.cell 1
      by_cases hlt : i < k
      ·gi_wp2
       gi_loopw [11, 50] (fun vc vj wr => ∃ (ch : Bool) (j M : Nat) (E : List (Option Cost)), vc = .bool ch ∧ vj = .int .i64 j ∧ j ≤ m ∧ Hid (RCSt w #[.slice A k c, .slice A' m d] p E wr ∧ BSt t dk p to q i j M E ∧ M ≤ q * 180 + i * 20 + j ∧ (ch = false → Stable t dk p E i j) ∧ (ch = true → q ≤ 7))) (fun _ vj _ => m - (intOf vj).toNat)
       case atStart => exact ⟨ch, 0, M2, E2, rfl, rfl, Nat.zero_le _, HW⟩
       case round =>
        obtain ⟨ch, j, M3, E3, rfl, rfl, hjm, HU⟩ := hrel
        clear HW
        by_cases hjl : j < m
        ·obtain ⟨b, off, x, rfl, hb, hx, l0, l1, l2, l3, l4⟩ := (HT.out.below HU.out.1.bel).cell hjl
         have hbl : b < wr.heap.size := Nat.lt_of_lt_of_le hb HU.out.1.bel.size
         have HX := lh hx
         clear hx hb t0 t1
         gi_wp2
         have HS1 : Hid (RCSt w #[.slice A k c, .slice (some ⟨b, off, none⟩) m d] p E3 (wr.alloc (.cells #[.int .i64 x.id, .int .i64 x.fr, .int .i64 x.to, .int .i64 x.steps, .int .i64 x.paces] 52))) := lh (HU.out.1.below ((Below.refl _ _).alloc (Nat.le_refl _) _))
         have HLB : Hid (Blk (wr.alloc (.cells #[.int .i64 x.id, .int .i64 x.fr, .int .i64 x.to, .int .i64 x.steps, .int .i64 x.paces] 52)) wr.heap.size 52 #[.int .i64 x.id, .int .i64 x.fr, .int .i64 x.to, .int .i64 x.steps, .int .i64 x.paces]) := lh (Blk.new _ _ _)
         clear l0 l1 l2 l3 l4
         generalize (wr.alloc (.cells #[.int .i64 x.id, .int .i64 x.fr, .int .i64 x.to, .int .i64 x.steps, .int .i64 x.paces] 52)) = w1 at *
         have HXM : Hid (x ∈ t.links) := lh (List.mem_of_getElem? HX.out)
         have HFit : Hid (Fit x) := lh ⟨HFI.out.steps x HXM.out, HFI.out.paces x HXM.out⟩
         obtain ⟨b3, off3, v, rfl, hb3, hv3, _⟩ := (HA.out.below HS1.out.bel).cell hlt
         have HV3 := lh hv3
         have hb3l : b3 < w1.heap.size := Nat.lt_of_lt_of_le hb3 HS1.out.bel.size
         have hlbl : wr.heap.size < w1.heap.size := HLB.out.lt
         have htl : w.heap.size < w1.heap.size := HS1.out.tb.lt
         have hpl : w.heap.size + 1 < w1.heap.size := HS1.out.pb.lt
         have hel : w.heap.size + 1 + 1 < w1.heap.size := HS1.out.eb.lt
         have HPC : Hid (∀ W, Below w1.heap.size w1 W → W.cell? ⟨b3, off3 + i, none⟩ = some (.int .i64 v)) := lh (fun W hb => by
          obtain ⟨b4, o4, y, e, _, hy, h⟩ := ((HA.out.below HS1.out.bel).more HS1.out.bel.size |>.below hb).cell hlt
          cases e
          obtain rfl : y = v := Option.some.inj (hy.symm.trans HV3.out)
          exact h)
         have hiI : (0 : Int) ≤ (i : Int) ∧ (i : Int) < (k : Int) := by omega
         clear hb3 hv3
         rcases hld : leads dk p x v with _ | ⟨v', cx⟩
         ·have HLD := lh hld
          clear hld
          refine wpIn_region_new (AF := ?AF1) (fun b => .pointer (some ⟨b, 0, none⟩)) 118 #[.int .i64 0, .int .i64 0, .int .i64 0, .int .i64 0] [0, 1, 2, 3, 4, 5, 6, 7, 8, 9, 10, 11, 12, 14, 16] [15] 13 [true, true, true, true, true, true, true, true, true, true, true, true, true, false, true, false, true] [false, false, false, false, false, false, false, false, false, false, false, false, false, false, false, true, false] (by kernel_rfl) (by kernel_rfl) (by kernel_rfl) (by kernel_rfl) (by kernel_rfl) (below_drewN (Below.refl _ _) 1) rfl rfl rfl ?hq1 ?hf1 ?ht1
          case hq1 =>
           rintro σ hσ of hof hcl
           have HOF := lh hof
           have HCL := lh hcl
           clear hof hcl
           have l0 : ∀ z, (of z).cell? ⟨wr.heap.size, 0, none⟩ = some (.int .i64 x.id) := fun z => (HLB.out.below (HOF.out z) HLB.out.lt).cell 0
           have l1 : ∀ z, (of z).cell? ⟨wr.heap.size, 1, none⟩ = some (.int .i64 x.fr) := fun z => (HLB.out.below (HOF.out z) HLB.out.lt).cell 1
           have l2 : ∀ z, (of z).cell? ⟨wr.heap.size, 2, none⟩ = some (.int .i64 x.to) := fun z => (HLB.out.below (HOF.out z) HLB.out.lt).cell 2
           have l3 : ∀ z, (of z).cell? ⟨wr.heap.size, 3, none⟩ = some (.int .i64 x.steps) := fun z => (HLB.out.below (HOF.out z) HLB.out.lt).cell 3
           have l4 : ∀ z, (of z).cell? ⟨wr.heap.size, 4, none⟩ = some (.int .i64 x.paces) := fun z => (HLB.out.below (HOF.out z) HLB.out.lt).cell 4
           have t0 : ∀ z, (of z).cell? ⟨w.heap.size, 0, none⟩ = some (.slice (some ⟨b3, off3, none⟩) k c) := fun z => (HS1.out.tb.below (HOF.out z) HS1.out.tb.lt).cell 0
           have t1 : ∀ z, (of z).cell? ⟨w.heap.size, 1, none⟩ = some (.slice (some ⟨b, off, none⟩) m d) := fun z => (HS1.out.tb.below (HOF.out z) HS1.out.tb.lt).cell 1
           have p0 : ∀ z, (of z).cell? ⟨w.heap.size + 1, 0, none⟩ = some (.int .i64 p.pace) := fun z => (HS1.out.pb.below (HOF.out z) HS1.out.pb.lt).cell 0
           have p1 : ∀ z, (of z).cell? ⟨w.heap.size + 1, 1, none⟩ = some (.int .i64 p.up) := fun z => (HS1.out.pb.below (HOF.out z) HS1.out.pb.lt).cell 1
           have p2 : ∀ z, (of z).cell? ⟨w.heap.size + 1, 2, none⟩ = some (.int .i64 p.step) := fun z => (HS1.out.pb.below (HOF.out z) HS1.out.pb.lt).cell 2
           have v0 : ∀ z, (of z).cell? ⟨b3, off3 + i, none⟩ = some (.int .i64 v) := fun z => HPC.out _ (HOF.out z)
           have hfw := hfT
           simp only [pickB]
           repeat (gi_big_quiet_step (exact dleads_none x v dk p HLD.out HFit.out HP.out HOF.out HCL.out _))
           refine wpQuietIn_nil ?_
           exact rfl
          case hf1 =>
           intro W hb
           exact ⟨fun f hf => trivial, rfl⟩
          case ht1 =>
           intro cb W hb hbb hR
           have HB := lh hb
           have HBB := lh hbb
           have HR4 := lh hR
           have hbl1 := hR.lt
           have c0 := hR.cell 0
           have c1 := hR.cell 1
           have c2 := hR.cell 2
           have c3 := hR.cell 3
           have d0 := hR.frozen 0
           have d1 := hR.frozen 1
           have d2 := hR.frozen 2
           have d3 := hR.frozen 3
           clear hb hbb hR
           simp only [pickB]
           refine wpE_cons ?_
           gi_wp2
           have R5 := lh (ret4 HR4.out HB.out HBB.out (.int .i64 0) (.int .i64 0) (.int .i64 0) (.int .i64 0))
           refine ⟨R5.out.2, wpE_nil ?_⟩
           have HW5 := lh (HS1.out.below R5.out.2)
           generalize (((W.setCell ⟨cb, 0, none⟩ (.int .i64 0)).setCell ⟨cb, 1, none⟩ (.int .i64 0)).setCell ⟨cb, 2, none⟩ (.int .i64 0)).setCell ⟨cb, 3, none⟩ (.int .i64 0) = W5 at *
           clear c0 c1 c2 c3 d0 d1 d2 d3
           have hbl5 := R5.out.1.lt
           gi_wp2
           have e1 : ((j + 1 : Nat) : Int) = (j : Int) + 1 := by omega
           have hno : ∀ n cx, leads dk p x v = some (n, cx) → ∀ (i2 : Nat) d, t.places[i2]? = some n → E3[i2]? = some (some d) → leE E3 i (addC cx d) := fun n cx h => by
            rw [HLD.out] at h
            cases h
           exact ⟨⟨ch, j + 1, M3, E3, rfl, by rw [e1], by omega, lh ⟨HW5.out, HU.out.2.1.skip HX.out HV3.out hno HFI.out, by have := HU.out.2.2.1; omega, fun h => (HU.out.2.2.2.1 h).step HX.out HV3.out hno, HU.out.2.2.2.2⟩⟩, by simp [intOf]; omega⟩
         ·have HLD := lh hld
          clear hld
          refine wpIn_region_new (AF := ?AF2) (fun b => .pointer (some ⟨b, 0, none⟩)) 118 #[.int .i64 0, .int .i64 0, .int .i64 0, .int .i64 0] [0, 1, 2, 3, 4, 5, 6, 7, 8, 9, 10, 11, 12, 14, 16] [15] 13 [true, true, true, true, true, true, true, true, true, true, true, true, true, false, true, false, true] [false, false, false, false, false, false, false, false, false, false, false, false, false, false, false, true, false] (by kernel_rfl) (by kernel_rfl) (by kernel_rfl) (by kernel_rfl) (by kernel_rfl) (below_drewN (Below.refl _ _) 1) rfl rfl rfl ?hq2 ?hf2 ?ht2
          case hq2 =>
           rintro σ hσ of hof hcl
           have HOF := lh hof
           have HCL := lh hcl
           clear hof hcl
           have l0 : ∀ z, (of z).cell? ⟨wr.heap.size, 0, none⟩ = some (.int .i64 x.id) := fun z => (HLB.out.below (HOF.out z) HLB.out.lt).cell 0
           have l1 : ∀ z, (of z).cell? ⟨wr.heap.size, 1, none⟩ = some (.int .i64 x.fr) := fun z => (HLB.out.below (HOF.out z) HLB.out.lt).cell 1
           have l2 : ∀ z, (of z).cell? ⟨wr.heap.size, 2, none⟩ = some (.int .i64 x.to) := fun z => (HLB.out.below (HOF.out z) HLB.out.lt).cell 2
           have l3 : ∀ z, (of z).cell? ⟨wr.heap.size, 3, none⟩ = some (.int .i64 x.steps) := fun z => (HLB.out.below (HOF.out z) HLB.out.lt).cell 3
           have l4 : ∀ z, (of z).cell? ⟨wr.heap.size, 4, none⟩ = some (.int .i64 x.paces) := fun z => (HLB.out.below (HOF.out z) HLB.out.lt).cell 4
           have t0 : ∀ z, (of z).cell? ⟨w.heap.size, 0, none⟩ = some (.slice (some ⟨b3, off3, none⟩) k c) := fun z => (HS1.out.tb.below (HOF.out z) HS1.out.tb.lt).cell 0
           have t1 : ∀ z, (of z).cell? ⟨w.heap.size, 1, none⟩ = some (.slice (some ⟨b, off, none⟩) m d) := fun z => (HS1.out.tb.below (HOF.out z) HS1.out.tb.lt).cell 1
           have p0 : ∀ z, (of z).cell? ⟨w.heap.size + 1, 0, none⟩ = some (.int .i64 p.pace) := fun z => (HS1.out.pb.below (HOF.out z) HS1.out.pb.lt).cell 0
           have p1 : ∀ z, (of z).cell? ⟨w.heap.size + 1, 1, none⟩ = some (.int .i64 p.up) := fun z => (HS1.out.pb.below (HOF.out z) HS1.out.pb.lt).cell 1
           have p2 : ∀ z, (of z).cell? ⟨w.heap.size + 1, 2, none⟩ = some (.int .i64 p.step) := fun z => (HS1.out.pb.below (HOF.out z) HS1.out.pb.lt).cell 2
           have v0 : ∀ z, (of z).cell? ⟨b3, off3 + i, none⟩ = some (.int .i64 v) := fun z => HPC.out _ (HOF.out z)
           have hfw := hfT
           simp only [pickB]
           repeat (gi_big_quiet_step (exact dleads_some x v dk p v' cx HLD.out HFit.out HP.out HOF.out HCL.out _))
           refine wpQuietIn_nil ?_
           exact rfl
          case hf2 =>
           intro W hb
           exact ⟨fun f hf => trivial, rfl⟩
          case ht2 =>
           intro cb W hb hbb hR
           have HB := lh hb
           have HBB := lh hbb
           have HR4 := lh hR
           have hbl1 := hR.lt
           have c0 := hR.cell 0
           have c1 := hR.cell 1
           have c2 := hR.cell 2
           have c3 := hR.cell 3
           have d0 := hR.frozen 0
           have d1 := hR.frozen 1
           have d2 := hR.frozen 2
           have d3 := hR.frozen 3
           clear hb hbb hR
           simp only [pickB]
           refine wpE_cons ?_
           gi_wp2
           have R5 := lh (ret4 HR4.out HB.out HBB.out (.int .i64 cx.a) (.int .i64 cx.b) (.int .i64 cx.c) (.int .i64 cx.d))
           refine ⟨R5.out.2, wpE_nil ?_⟩
           have HW5 := lh (HS1.out.below R5.out.2)
           generalize (((W.setCell ⟨cb, 0, none⟩ (.int .i64 cx.a)).setCell ⟨cb, 1, none⟩ (.int .i64 cx.b)).setCell ⟨cb, 2, none⟩ (.int .i64 cx.c)).setCell ⟨cb, 3, none⟩ (.int .i64 cx.d) = W5 at *
           clear c0 c1 c2 c3 d0 d1 d2 d3
           have hbl5 := R5.out.1.lt
           obtain ⟨i2, hpi, hi2, hi2l⟩ := placeI_at (leads_ends HXM.out HFI.out HLD.out).2
           have HPI := lh hpi
           have HI2 := lh hi2
           have hi2k : i2 < k := by have := HLn.out; omega
           obtain ⟨r, hr⟩ : ∃ r, E3[i2]? = some r := ⟨_, List.getElem?_eq_getElem (by rw [HU.out.2.1.len]; exact hi2l)⟩
           have HR := lh hr
           have HCX := lh (leads_cost HXM.out HFI.out HFA.out HLD.out)
           have HLT : Hid (∀ (q : Nat) d, E3[q]? = some (some d) → Little d) := lh (fun q d hd => HU.out.2.1.little HFI.out HFA.out (by have := HU.out.2.2.1; omega) hd)
           have HSM : Hid (Small cx ∧ Small (entC r)) := lh ⟨by
            have h1 := HCX.out
            exact ⟨by omega, by omega, by omega, by omega⟩, Small.ent fun d hd => HLT.out i2 d (by rw [HR.out, hd])⟩
           have hi2I : (0 : Int) ≤ (i2 : Int) ∧ (i2 : Int) < (k : Int) := by omega
           clear hpi hi2 hi2l hr
           gi_wp2
           have hcb5 : cb < W5.heap.size := hbl5
           have htl5 : w.heap.size < W5.heap.size := HW5.out.tb.lt
           have hpl5 : w.heap.size + 1 < W5.heap.size := HW5.out.pb.lt
           have hel5 : w.heap.size + 1 + 1 < W5.heap.size := HW5.out.eb.lt
           refine wpIn_region_new (AF := ?AF3) (fun b => .pointer (some ⟨b, 0, none⟩)) 118 #[.int .i64 0, .int .i64 0, .int .i64 0, .int .i64 0] [0, 1, 2, 3, 4, 5, 6, 7] [9] 8 [true, true, true, true, true, true, true, true, false, false] [false, false, false, false, false, false, false, false, false, true] (by kernel_rfl) (by kernel_rfl) (by kernel_rfl) (by kernel_rfl) (by kernel_rfl) (below_drewN (Below.refl _ _) 1) rfl rfl rfl ?hq3 ?hf3 ?ht3
           case hq3 =>
            rintro σ hσ of hof hcl
            have HOF := lh hof
            have HCL := lh hcl
            clear hof hcl
            have q0 : ∀ z, (of z).cell? ⟨cb, 0, none⟩ = some (.int .i64 cx.a) := fun z => (R5.out.1.below (HOF.out z) hbl5).cell 0
            have q1 : ∀ z, (of z).cell? ⟨cb, 1, none⟩ = some (.int .i64 cx.b) := fun z => (R5.out.1.below (HOF.out z) hbl5).cell 1
            have q2 : ∀ z, (of z).cell? ⟨cb, 2, none⟩ = some (.int .i64 cx.c) := fun z => (R5.out.1.below (HOF.out z) hbl5).cell 2
            have q3 : ∀ z, (of z).cell? ⟨cb, 3, none⟩ = some (.int .i64 cx.d) := fun z => (R5.out.1.below (HOF.out z) hbl5).cell 3
            have t0 : ∀ z, (of z).cell? ⟨w.heap.size, 0, none⟩ = some (.slice (some ⟨b3, off3, none⟩) k c) := fun z => (HW5.out.tb.below (HOF.out z) HW5.out.tb.lt).cell 0
            have t1 : ∀ z, (of z).cell? ⟨w.heap.size, 1, none⟩ = some (.slice (some ⟨b, off, none⟩) m d) := fun z => (HW5.out.tb.below (HOF.out z) HW5.out.tb.lt).cell 1
            have v0 : ∀ z, (of z).cell? ⟨w.heap.size + 1 + 1, i2 * 4, none⟩ = some (.int .i64 (entC r).a) := fun z => ((HW5.out.below (HOF.out z)).cell HR.out).1
            have v1 : ∀ z, (of z).cell? ⟨w.heap.size + 1 + 1, i2 * 4 + 1, none⟩ = some (.int .i64 (entC r).b) := fun z => ((HW5.out.below (HOF.out z)).cell HR.out).2.1
            have v2 : ∀ z, (of z).cell? ⟨w.heap.size + 1 + 1, i2 * 4 + 2, none⟩ = some (.int .i64 (entC r).c) := fun z => ((HW5.out.below (HOF.out z)).cell HR.out).2.2.1
            have v3 : ∀ z, (of z).cell? ⟨w.heap.size + 1 + 1, i2 * 4 + 3, none⟩ = some (.int .i64 (entC r).d) := fun z => ((HW5.out.below (HOF.out z)).cell HR.out).2.2.2
            have hfw := hfT
            simp only [pickB]
            repeat (gi_big_quiet_step (first | exact place_cls (some ⟨b3, off3, none⟩) k c (some ⟨b, off, none⟩) m d t v' i2 HPI.out (by unfold maxLen; omega) w.heap.size HW5.out.bel.size (HA.out.below HW5.out.bel) HOF.out HCL.out _ | exact rplus_cls cx (entC r) HSM.out.1 HSM.out.2 HOF.out HCL.out _))
            refine wpQuietIn_nil ?_
            exact rfl
           case hf3 =>
            intro W hb
            exact ⟨fun f hf => trivial, rfl⟩
           case ht3 =>
            intro sb W hb hbb hR
            have HB3 := lh hb
            have HBB3 := lh hbb
            have HR43 := lh hR
            have hbl1 := hR.lt
            have c0 := hR.cell 0
            have c1 := hR.cell 1
            have c2 := hR.cell 2
            have c3 := hR.cell 3
            have d0 := hR.frozen 0
            have d1 := hR.frozen 1
            have d2 := hR.frozen 2
            have d3 := hR.frozen 3
            clear hb hbb hR
            simp only [pickB]
            refine wpE_cons ?_
            gi_wp2
            have R6 := lh (ret4 HR43.out HB3.out HBB3.out (.int .i64 (addC cx (entC r)).a) (.int .i64 (addC cx (entC r)).b) (.int .i64 (addC cx (entC r)).c) (.int .i64 (addC cx (entC r)).d))
            refine ⟨R6.out.2, wpE_nil ?_⟩
            have HW6 := lh (HW5.out.below R6.out.2)
            generalize (((W.setCell ⟨sb, 0, none⟩ (.int .i64 (addC cx (entC r)).a)).setCell ⟨sb, 1, none⟩ (.int .i64 (addC cx (entC r)).b)).setCell ⟨sb, 2, none⟩ (.int .i64 (addC cx (entC r)).c)).setCell ⟨sb, 3, none⟩ (.int .i64 (addC cx (entC r)).d) = W6 at *
            clear c0 c1 c2 c3 d0 d1 d2 d3
            have hbl6 := R6.out.1.lt
            obtain ⟨s, hs⟩ : ∃ s, addC cx (entC r) = s := ⟨_, rfl⟩
            rw [hs] at R6 ⊢
            have HSS := lh hs
            clear hs
            have e1 : ((j + 1 : Nat) : Int) = (j : Int) + 1 := by omega
            obtain ⟨r2, hr2⟩ : ∃ r2, E3[i]? = some r2 := ⟨_, List.getElem?_eq_getElem (by rw [HU.out.2.1.len, HLn.out]; exact hlt)⟩
            have HR2 := lh hr2
            clear hr2
            have HUQ : Hid (∀ (i' : Nat), t.places[i']? = some v' → i' = i2) := lh (fun i' h => by
             have hl := (List.getElem?_eq_some_iff.1 h).1
             exact (List.getElem?_inj hl HND.out).1 (h.trans HI2.out.symm))
            have hsbl : sb < W6.heap.size := hbl6
            have hel6 : w.heap.size + 1 + 1 < W6.heap.size := HW6.out.eb.lt
            cases r with
            | none =>
             have hsa : decide (s.a < 1000000000) = false := by
              have h1 := HCX.out
              have h2 : s.a = cx.a + 1000000000 := by rw [← HSS.out]; rfl
              simp
              omega
             have HNO : Hid (∀ n cx, leads dk p x v = some (n, cx) → ∀ (i2 : Nat) d, t.places[i2]? = some n → E3[i2]? = some (some d) → leE E3 i (addC cx d)) := lh (fun n' cx' h i' d' hp' he' => by
              rw [HLD.out] at h
              cases h
              obtain rfl := HUQ.out i' hp'
              rw [HR.out] at he'
              cases he')
             gi_wp2
             refine wpIn_region_old (AF := ?AF4) [0, 1, 2, 3, 4, 5, 6, 7, 8, 9, 10] [] [true, true, true, true, true, true, true, true, true, true, true] [false, false, false, false, false, false, false, false, false, false, false] (by kernel_rfl) (by kernel_rfl) (by kernel_rfl) (by kernel_rfl) (by kernel_rfl) (below_drewN (Below.refl _ _) 1) ?hq4 ?ht4
             case hq4 =>
              rintro σ hσ of hof hcl
              have HOF := lh hof
              have HCL := lh hcl
              clear hof hcl
              have q0 : ∀ z, (of z).cell? ⟨sb, 0, none⟩ = some (.int .i64 s.a) := fun z => (R6.out.1.below (HOF.out z) hbl6).cell 0
              have hfw := hfT
              simp only [pickB]
              repeat (gi_big_quiet_step (fail))
              refine wpQuietIn_nil ?_
              exact rfl
             case ht4 =>
              intro W hb
              have HW7 := lh (HW6.out.below hb)
              have HS7 := lh (R6.out.1.below hb hbl6)
              have hbl7 : sb < W.heap.size := HS7.out.lt
              clear hb
              simp only [pickB]
              refine wpE_nil ?_
              gi_wp2
              exact ⟨⟨ch, j + 1, M3, E3, rfl, by rw [e1], by omega, lh ⟨HW7.out, HU.out.2.1.skip HX.out HV3.out HNO.out HFI.out, by have := HU.out.2.2.1; omega, fun h => (HU.out.2.2.2.1 h).step HX.out HV3.out HNO.out, HU.out.2.2.2.2⟩⟩, by simp [intOf]; omega⟩
            | some d1 =>
             have hsb : s.a < 1000000000 := by
              have h1 := HCX.out
              have h2 : s.a = cx.a + d1.a := by rw [← HSS.out]; rfl
              have h3 := (HLT.out i2 d1 HR.out).a
              omega
             have hsa : decide (s.a < 1000000000) = true := by simpa using hsb
             have HSB := lh hsb
             clear hsb
             cases hls : lessC s (entC r2) with
             | false =>
              have HLS := lh hls
              clear hls
              have HNO : Hid (∀ n cx, leads dk p x v = some (n, cx) → ∀ (i2 : Nat) d, t.places[i2]? = some n → E3[i2]? = some (some d) → leE E3 i (addC cx d)) := lh (fun n' cx' h i' d' hp' he' => by
               rw [HLD.out] at h
               cases h
               obtain rfl := HUQ.out i' hp'
               rw [HR.out] at he'
               cases he'
               have h1 := HLS.out
               rw [lessC_cmp] at h1
               have h2 := of_decide_eq_false h1
               have hss : addC cx d1 = s := HSS.out
               rw [hss]
               cases hr2 : r2 with
               | none =>
                rw [hr2] at h2
                have h3 := HSB.out
                simp [entC, infC, cmpL, Cost.list, h3] at h2
               | some e2 =>
                rw [hr2] at h2
                refine ⟨e2, by rw [HR2.out, hr2], ?_⟩
                have h3 := cmpL_swap s.list e2.list
                simp only [entC, Option.getD_some] at h2
                omega)
              gi_wp2
              refine wpIn_region_old (AF := ?AF5) [0, 1, 2, 3, 4, 5, 6, 7, 8, 9, 10] [] [true, true, true, true, true, true, true, true, true, true, true] [false, false, false, false, false, false, false, false, false, false, false] (by kernel_rfl) (by kernel_rfl) (by kernel_rfl) (by kernel_rfl) (by kernel_rfl) (below_drewN (Below.refl _ _) 1) ?hq5 ?ht5
              case hq5 =>
               rintro σ hσ of hof hcl
               have HOF := lh hof
               have HCL := lh hcl
               clear hof hcl
               have q0 : ∀ z, (of z).cell? ⟨sb, 0, none⟩ = some (.int .i64 s.a) := fun z => (R6.out.1.below (HOF.out z) hbl6).cell 0
               have q1 : ∀ z, (of z).cell? ⟨sb, 1, none⟩ = some (.int .i64 s.b) := fun z => (R6.out.1.below (HOF.out z) hbl6).cell 1
               have q2 : ∀ z, (of z).cell? ⟨sb, 2, none⟩ = some (.int .i64 s.c) := fun z => (R6.out.1.below (HOF.out z) hbl6).cell 2
               have q3 : ∀ z, (of z).cell? ⟨sb, 3, none⟩ = some (.int .i64 s.d) := fun z => (R6.out.1.below (HOF.out z) hbl6).cell 3
               have v0 : ∀ z, (of z).cell? ⟨w.heap.size + 1 + 1, i * 4, none⟩ = some (.int .i64 (entC r2).a) := fun z => ((HW6.out.below (HOF.out z)).cell HR2.out).1
               have v1 : ∀ z, (of z).cell? ⟨w.heap.size + 1 + 1, i * 4 + 1, none⟩ = some (.int .i64 (entC r2).b) := fun z => ((HW6.out.below (HOF.out z)).cell HR2.out).2.1
               have v2 : ∀ z, (of z).cell? ⟨w.heap.size + 1 + 1, i * 4 + 2, none⟩ = some (.int .i64 (entC r2).c) := fun z => ((HW6.out.below (HOF.out z)).cell HR2.out).2.2.1
               have v3 : ∀ z, (of z).cell? ⟨w.heap.size + 1 + 1, i * 4 + 3, none⟩ = some (.int .i64 (entC r2).d) := fun z => ((HW6.out.below (HOF.out z)).cell HR2.out).2.2.2
               have hfw := hfT
               simp only [pickB]
               repeat (gi_big_quiet_step (exact rless_cls s (entC r2) _ HLS.out HOF.out HCL.out _))
               refine wpQuietIn_nil ?_
               exact rfl
              case ht5 =>
               intro W hb
               have HW7 := lh (HW6.out.below hb)
               have HS7 := lh (R6.out.1.below hb hbl6)
               have hbl7 : sb < W.heap.size := HS7.out.lt
               clear hb
               simp only [pickB]
               refine wpE_nil ?_
               gi_wp2
               exact ⟨⟨ch, j + 1, M3, E3, rfl, by rw [e1], by omega, lh ⟨HW7.out, HU.out.2.1.skip HX.out HV3.out HNO.out HFI.out, by have := HU.out.2.2.1; omega, fun h => (HU.out.2.2.2.1 h).step HX.out HV3.out HNO.out, HU.out.2.2.2.2⟩⟩, by simp [intOf]; omega⟩
             | true =>
              have HLS := lh hls
              clear hls
              have HLE : Hid (∀ e2, r2 = some e2 → cmpL s.list e2.list < 0) := lh (fun e2 he => by
               have h1 := HLS.out
               rw [lessC_cmp, he] at h1
               exact of_decide_eq_true h1)
              have HTK : Hid (BSt t dk p to q i (j + 1) (M3 + 1) (E3.set i (some s))) := lh (by
               have h := HU.out.2.1.take HX.out HV3.out HLD.out HI2.out HR.out (fun e he => by
                rw [HR2.out] at he
                have h1 := HLE.out e (Option.some.inj he)
                have hss : addC cx d1 = s := HSS.out
                rw [hss]
                omega) HND.out
               have hss : addC cx d1 = s := HSS.out
               rw [hss] at h
               exact h)
              have HQ7 : Hid (q ≤ 7) := lh (by
               apply Decidable.byContradiction
               intro hc
               obtain ⟨l, hw, _⟩ := HU.out.2.1.sound i2 v' d1 HI2.out HR.out
               have hw2 : Walk t dk p v to s (x.id :: l) := by
                have hss : addC cx d1 = s := HSS.out
                rw [← hss]
                exact .cons HXM.out HLD.out hw
               obtain ⟨e2, h1, h2⟩ := HU.out.2.1.settled (by omega) HFI.out HFA.out HV3.out hw2
               rw [HR2.out] at h1
               have h3 := HLE.out e2 (Option.some.inj h1)
               have h4 := cmpL_swap s.list e2.list
               omega)
              gi_wp2
              refine wpIn_region_old (AF := ?AF6) [0, 1, 2, 3, 4, 5, 6, 7, 8, 9, 10] [] [true, true, true, true, true, true, true, true, true, true, true] [false, false, false, false, false, false, false, false, false, false, false] (by kernel_rfl) (by kernel_rfl) (by kernel_rfl) (by kernel_rfl) (by kernel_rfl) (below_drewN (Below.refl _ _) 1) ?hq6 ?ht6
              case hq6 =>
               rintro σ hσ of hof hcl
               have HOF := lh hof
               have HCL := lh hcl
               clear hof hcl
               have q0 : ∀ z, (of z).cell? ⟨sb, 0, none⟩ = some (.int .i64 s.a) := fun z => (R6.out.1.below (HOF.out z) hbl6).cell 0
               have q1 : ∀ z, (of z).cell? ⟨sb, 1, none⟩ = some (.int .i64 s.b) := fun z => (R6.out.1.below (HOF.out z) hbl6).cell 1
               have q2 : ∀ z, (of z).cell? ⟨sb, 2, none⟩ = some (.int .i64 s.c) := fun z => (R6.out.1.below (HOF.out z) hbl6).cell 2
               have q3 : ∀ z, (of z).cell? ⟨sb, 3, none⟩ = some (.int .i64 s.d) := fun z => (R6.out.1.below (HOF.out z) hbl6).cell 3
               have v0 : ∀ z, (of z).cell? ⟨w.heap.size + 1 + 1, i * 4, none⟩ = some (.int .i64 (entC r2).a) := fun z => ((HW6.out.below (HOF.out z)).cell HR2.out).1
               have v1 : ∀ z, (of z).cell? ⟨w.heap.size + 1 + 1, i * 4 + 1, none⟩ = some (.int .i64 (entC r2).b) := fun z => ((HW6.out.below (HOF.out z)).cell HR2.out).2.1
               have v2 : ∀ z, (of z).cell? ⟨w.heap.size + 1 + 1, i * 4 + 2, none⟩ = some (.int .i64 (entC r2).c) := fun z => ((HW6.out.below (HOF.out z)).cell HR2.out).2.2.1
               have v3 : ∀ z, (of z).cell? ⟨w.heap.size + 1 + 1, i * 4 + 3, none⟩ = some (.int .i64 (entC r2).d) := fun z => ((HW6.out.below (HOF.out z)).cell HR2.out).2.2.2
               have hfw := hfT
               simp only [pickB]
               repeat (gi_big_quiet_step (exact rless_cls s (entC r2) _ HLS.out HOF.out HCL.out _))
               refine wpQuietIn_nil ?_
               exact rfl
              case ht6 =>
               intro W hb
               have HW7 := lh (HW6.out.below hb)
               have HS7 := lh (R6.out.1.below hb hbl6)
               have hbl7 : sb < W.heap.size := HS7.out.lt
               clear hb
               simp only [pickB]
               refine wpE_nil ?_
               have c0 := HS7.out.cell 0
               have c1 := HS7.out.cell 1
               have c2 := HS7.out.cell 2
               have c3 := HS7.out.cell 3
               have f0 := HW7.out.eb.frozen (i * 4)
               have f1 := HW7.out.eb.frozen (i * 4 + 1)
               have f2 := HW7.out.eb.frozen (i * 4 + 2)
               have f3 := HW7.out.eb.frozen (i * 4 + 3)
               have o0 := (HW7.out.cell HR2.out).1
               have o1 := (HW7.out.cell HR2.out).2.1
               have o2 := (HW7.out.cell HR2.out).2.2.1
               have o3 := (HW7.out.cell HR2.out).2.2.2
               have HP8 := lh (HW7.out.put (k := i) (by rw [HU.out.2.1.len, HLn.out]; exact hlt) s)
               gi_wp2
               exact ⟨⟨true, j + 1, M3 + 1, E3.set i (some s), rfl, by rw [e1], by omega, lh ⟨HP8.out, HTK.out, by have := HU.out.2.2.1; omega, fun h => (by cases h), fun _ => HQ7.out⟩⟩, by simp [intOf]; omega⟩
        ·obtain rfl : j = m := by omega
         have e1 : ((i + 1 : Nat) : Int) = (i : Int) + 1 := by omega
         gi_wp2
         refine ⟨⟨ch, i + 1, M3, E3, rfl, by rw [e1], by omega, lh ⟨HU.out.1, HU.out.2.1.next (by rw [HLm.out]; exact Nat.le_refl _), by have := HU.out.2.2.1; omega, fun h => (HU.out.2.2.2.1 h).keep (by rw [HLm.out]; exact Nat.le_refl _), HU.out.2.2.2.2⟩⟩, by simp [intOf]; omega⟩
      ·obtain rfl : i = k := by omega
       gi_wp2
       gi_roundg (if ch then 8 - q else 0)
       case rel => exact ⟨ch, q + 1, M2, E2, rfl, by cases ch <;> simp <;> omega, fun h => by have := HW.out.2.2.2.2 h; omega, lh ⟨HW.out.1, HW.out.2.1.round (by rw [HLn.out]; exact Nat.le_refl _), by have := HW.out.2.2.1; omega, by omega, fun h => HW.out.2.2.2.1 h⟩⟩
       case measure => rw [hg']; split <;> omega
theorem rcosts_any (A : Option Addr) (n c : Nat) (A' : Option Addr) (m d : Nat) (p : Price) (t : Town) (dk : Bool) (to : Int) (w : World)
  (hm : m ≤ 20) (ha : IntsAt w w.heap.size A n t.places) (ht : LinksAt w w.heap.size A' m t.links) (hp : Cheap p) (hfine : Fine t) (hfair : Fair p) (hnd : t.places.Nodup) :
  Calls Tryz.prog 111 #[.agg #[.slice A n c, .slice A' m d], .int .i64 to, .bool dk, .agg #[.int .i64 p.pace, .int .i64 p.up, .int .i64 p.step]] w (RCostsOut w t dk p to n) :=
 callsIn_wide.1 (rcosts_in A n c A' m d p t dk to w hm ha ht hp hfine hfair hnd)
end
section
open Go.RowKit Go.Shelf
theorem eql_cost (x y : Cost) (W : World) : (binOp .eql 118 (.agg #[.int .i64 x.a, .int .i64 x.b, .int .i64 x.c, .int .i64 x.d]) (.agg #[.int .i64 y.a, .int .i64 y.b, .int .i64 y.c, .int .i64 y.d])).run Tryz.prog W = .ok (.bool (decide (x = y))) W := by
 obtain ⟨i0, hi, hz0, hz1, hz2⟩ := info_parts info_int
 have hc : Tryz.prog.cellsOf 3 = 1 := by simp [Program.cellsOf, hi, hz1]
 rw [run_eql_struct, show (10000 : Nat) = 9998 + 1 + 1 from rfl, run_equalIn_array W (9998 + 1) (n := 4) (e := 3) _ _ Tryz.underlying118 hi, hc]
 have hp : ∀ (k : Nat) (a : Array Value) (z : Int), a[k]? = some (.int .i64 z) → (part 3 a k).run Tryz.prog W = .ok (.int .i64 z) W := by
  intro k a z h
  simp [part, go_sem]
  rw [h]
  rfl
 have he : ∀ (a b : Int), (Op.equalIn (9998 + 1) 3 (.int .i64 a) (.int .i64 b)).run Tryz.prog W = .ok (a == b) W := fun a b => run_equalIn_int W 9998 3 .i64 .i64 a b Tryz.underlying3
 simp only [List.range, List.range.loop, Op.eqItems, Sem.run_bind, Nat.mul_one]
 rw [hp 0 _ x.a rfl, Result.andThen_ok, hp 0 _ y.a rfl, Result.andThen_ok, he, Result.andThen_ok]
 have hxy : x = y ↔ x.a = y.a ∧ x.b = y.b ∧ x.c = y.c ∧ x.d = y.d := by
  cases x; cases y; simp
 by_cases h1 : x.a = y.a
 ·rw [if_neg (by simp [h1]), Sem.run_bind, hp 1 _ x.b rfl, Result.andThen_ok, Sem.run_bind, hp 1 _ y.b rfl, Result.andThen_ok, Sem.run_bind, he, Result.andThen_ok]
  by_cases h2 : x.b = y.b
  ·rw [if_neg (by simp [h2]), Sem.run_bind, hp 2 _ x.c rfl, Result.andThen_ok, Sem.run_bind, hp 2 _ y.c rfl, Result.andThen_ok, Sem.run_bind, he, Result.andThen_ok]
   by_cases h3 : x.c = y.c
   ·rw [if_neg (by simp [h3]), Sem.run_bind, hp 3 _ x.d rfl, Result.andThen_ok, Sem.run_bind, hp 3 _ y.d rfl, Result.andThen_ok, Sem.run_bind, he, Result.andThen_ok]
    by_cases h4 : x.d = y.d
    ·rw [if_neg (by simp [h4])]
     simp [hxy, h1, h2, h3, h4, Result.andThen]
    ·rw [if_pos (by simp [h4])]
     simp [hxy, h4, Result.andThen]
   ·rw [if_pos (by simp [h3])]
    simp [hxy, h3, Result.andThen]
  ·rw [if_pos (by simp [h2])]
   simp [hxy, h2, Result.andThen]
 ·rw [if_pos (by simp [h1])]
  simp [hxy, h1, Result.andThen]
end
end Go.Proofs.YtahkjagjcogeiaaGreatDoor
