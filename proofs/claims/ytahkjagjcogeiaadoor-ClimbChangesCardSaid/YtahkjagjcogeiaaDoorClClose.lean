/- climb.Close. -/
import Derived.Test.YtahkjagjcogeiaaDoorClLess
import Derived.Test.YtahkjagjcogeiaaDoorClAsk
namespace Go.Proofs.YtahkjagjcogeiaaDoor
open Go.RowKit
set_option linter.unusedVariables false

theorem enters_close1 (args : Array Value) (W : World) : (callFunc 61 args).run Tryd.prog W = .ok (.enter 61 args) W := by
  simp [go_sem]

theorem close1_any (A : Option Addr) (n c : Nat) (l : List Int) (g : Nat) (x : Link) (w : World) (hn : n ≤ maxLen) (hr : IntsAt w w.heap.size A n l) (h0 : w.cell? ⟨g, 0, none⟩ = some (.slice A n c)) :
    Calls Tryd.prog 61 (#[.agg #[.int .i64 x.id, .int .i64 x.fr, .int .i64 x.to, .int .i64 x.steps, .int .i64 x.paces]] ++ #[.pointer (some ⟨g, 0, none⟩)]) w fun e w' => e = .returned (.bool (memI l x.id)) ∧ Below w.heap.size w w' := by
  have hg : g < w.heap.size := World.block_lt_of_cell? w _ h0
  have hb : Below w.heap.size w (w.alloc (.cells #[.int .i64 x.id, .int .i64 x.fr, .int .i64 x.to, .int .i64 x.steps, .int .i64 x.paces] 45)) := (Below.refl _ _).alloc (Nat.le_refl _) _
  have HC := Lib.hid (contains_int A n c l x.id (w.alloc (.cells #[.int .i64 x.id, .int .i64 x.fr, .int .i64 x.to, .int .i64 x.steps, .int .i64 x.paces] 45)) ((hr.below hb).more hb.size) hn)
  have HB := Lib.hid hb
  clear hb
  go_enter Tryd.func61, Tryd.ntmps61
  go_wp2_with fail
  refine HC.out.mono ?_
  rintro e w' ⟨rfl, hb⟩
  go_wp2_with fail
  go_ret
  exact ⟨rfl, HB.out.trans (hb.mono HB.out.size)⟩

theorem pred_close1 (A : Option Addr) (n c : Nat) (l : List Int) (g : Nat) (w : World) (K : Nat) (hn : n ≤ maxLen) (hr : IntsAt w K A n l) (hg : g < K) (hK : K ≤ w.heap.size) (h0 : w.cell? ⟨g, 0, none⟩ = some (.slice A n c)) : PredL w K 61 #[.pointer (some ⟨g, 0, none⟩)] fun x => memI l x.id :=
  ⟨enters_close1, fun x W hb => close1_any A n c l g x W hn ((hr.below hb).more (Nat.le_trans hK hb.size)) ((hb.cell (p := ⟨g, 0, none⟩) hg).trans h0)⟩

/-- Whether these are Ids of links, in increasing order. -/
def closeB (t : Town) : Int → List Int → Bool
  | _, [] => true
  | last, id :: r => decide (last < id) && memI (idsOf t.links) id && closeB t id r
theorem closeB_drop {t : Town} {l : List Int} {k : Nat} {x last : Int} (hx : l[k]? = some x) : closeB t last (l.drop k) = (decide (last < x) && memI (idsOf t.links) x && closeB t x (l.drop (k + 1))) := by
  obtain ⟨hk, rfl⟩ := List.getElem?_eq_some_iff.1 hx
  rw [List.drop_eq_getElem_cons hk]; rfl
def noTown : Town := ⟨[], []⟩
def closeT (t : Town) (l : List Int) : Town := if townB t && closeB t 0 l then lessT t fun x => memI l x.id else noTown
def closeE (t : Town) (l : List Int) : Int := if townB t then (if closeB t 0 l then 0 else 34) else 30

/-- A town and an error. -/
def TownErr (w : World) (e : Ending) (w' : World) (t : Town) (k : Int) : Prop := ∃ A c A' c', e = .returned (.tuple #[.agg #[.slice A t.places.length c, .slice A' t.links.length c'], .int .i64 k]) ∧ Own w' w.heap.size 3 1 A t.places.length c (t.places.map (Value.int .i64)) ∧ Own w' w.heap.size 45 5 A' t.links.length c' (t.links.flatMap Link.vals) ∧ Apart A A' ∧ Below w.heap.size w w'
theorem TownErr.none_ {w w' : World} {k : Int} (hb : Below w.heap.size w w') : TownErr w (.returned (.tuple #[.agg #[.slice none 0 0, .slice none 0 0], .int .i64 k])) w' noTown k :=
  ⟨none, 0, none, 0, rfl, Own.none_ _ _ _ _, Own.none_ _ _ _ _, (fun _ _ h => by cases h), hb⟩

set_option maxRecDepth 100000 in
set_option maxHeartbeats 4000000 in
theorem close_any (A : Option Addr) (n c : Nat) (A' : Option Addr) (m d : Nat) (t : Town) (A2 : Option Addr) (k2 c2 : Nat) (l : List Int) (w : World) (hn : n ≤ 1000) (hm : m ≤ 1000) (hk : k2 ≤ 1000) (ht : TownAt w w.heap.size A n A' m t) (hr : IntsAt w w.heap.size A2 k2 l) (hL : Laid w) :
    Calls Tryd.prog 17 #[.agg #[.slice A n c, .slice A' m d], .slice A2 k2 c2] w fun e w' => TownErr w e w' (closeT t l) (closeE t l) := by
  have HT := Lib.hid ht
  have HR := Lib.hid hr
  have HL := Lib.hid hL
  have hl0 := hL.2.2.2
  have hn1 : n ≤ maxLen := by unfold maxLen; omega
  have hm1 : m ≤ maxLen := by unfold maxLen; omega
  clear ht hr hL
  go_enter Tryd.func17, Tryd.ntmps17
  go_wp2_with fail
  have X0 := ((Blk.new w 25 #[.slice A n c, .slice A' m d]).alloc (.cells #[.slice A2 k2 c2] 22)).alloc (.cells #[.slice none 0 0, .slice none 0 0] 25)
  have Y0 := (Blk.new (w.alloc (.cells #[.slice A n c, .slice A' m d] 25)) 22 #[.slice A2 k2 c2]).alloc (.cells #[.slice none 0 0, .slice none 0 0] 25)
  have Z0 := Blk.new ((w.alloc (.cells #[.slice A n c, .slice A' m d] 25)).alloc (.cells #[.slice A2 k2 c2] 22)) 25 #[.slice none 0 0, .slice none 0 0]
  have B0 : Below w.heap.size w (((w.alloc (.cells #[.slice A n c, .slice A' m d] 25)).alloc (.cells #[.slice A2 k2 c2] 22)).alloc (.cells #[.slice none 0 0, .slice none 0 0] 25)) := (((Below.refl _ _).alloc (Nat.le_refl _) _).alloc (by simp) _).alloc (by simp; omega) _
  rw [World.size_alloc] at Y0
  rw [World.size_alloc, World.size_alloc] at Z0
  generalize (((w.alloc (.cells #[.slice A n c, .slice A' m d] 25)).alloc (.cells #[.slice A2 k2 c2] 22)).alloc (.cells #[.slice none 0 0, .slice none 0 0] 25)) = w0 at *
  have hz := Z0.lt
  with_reducible refine (check_any A n c A' m d t w0 hn1 hm1 ((HT.out.below B0).more B0.size) (HL.out.below B0 hl0)).mono ?_
  rintro e w1 ⟨rfl, hb1⟩
  have X1 := X0.below hb1 X0.lt
  have Y1 := Y0.below hb1 Y0.lt
  have Z1 := Z0.below hb1 Z0.lt
  have B1 := B0.trans (hb1.mono B0.size)
  have x0 := X1.cell 0
  have x1 := X1.cell 1
  have y0 := Y1.cell 0
  have z0 := Z1.cell 0
  have z1 := Z1.cell 1
  have q0 := Z1.frozen 0
  have q1 := Z1.frozen 1
  clear X0 Y0 Z0 B0 hb1
  cases htb : townB t with
  | false =>
    have hc : chk t = 30 := by unfold chk; rw [htb]; rfl
    have HC := Lib.hid htb
    clear htb
    go_wp2_with fail
    have e1 : closeT t l = noTown := by unfold closeT; rw [HC.out]; rfl
    have e2 : closeE t l = 30 := by unfold closeE; rw [HC.out]; rfl
    rw [e1, e2]
    exact bodyPost_ret (v := .tuple #[.agg #[.slice none 0 0, .slice none 0 0], .int .i64 30]) (by simp [results, Tryd.results17, go_sem, z0, z1]) rfl (TownErr.none_ ((B1.setCell (p := ⟨w.heap.size + 1 + 1, 0, none⟩) (by show w.heap.size ≤ w.heap.size + 1 + 1; omega) _).setCell (p := ⟨w.heap.size + 1 + 1, 1, none⟩) (by show w.heap.size ≤ w.heap.size + 1 + 1; omega) _))
  | true =>
    have hc : chk t = 0 := by unfold chk; rw [htb]; rfl
    have HC := Lib.hid htb
    clear htb x0 x1 z0 z1 q0 q1
    go_wp2_with fail
    go_loopw [7, 18] (fun vl vi wr => ∃ (k : Nat) (last : Int), k ≤ k2 ∧ vi = .int .i64 k ∧ vl = .int .i64 last ∧ closeB t 0 l = closeB t last (l.drop k) ∧ Below w1.heap.size w1 wr)
      (fun _ vi _ => k2 - (intOf vi).toNat)
    case atStart => exact ⟨0, 0, by omega, rfl, rfl, by simp, Below.refl _ _⟩
    case round =>
      obtain ⟨k, last, hk', rfl, rfl, hcl, hb⟩ := hrel
      have HCL := Lib.hid hcl
      clear hcl
      have X2 := X1.below hb X1.lt
      have Y2 := Y1.below hb Y1.lt
      have Z2 := Z1.below hb Z1.lt
      have B2 := B1.trans (hb.mono B1.size)
      have x0 := X2.cell 0
      have x1 := X2.cell 1
      by_cases hlt : k < k2
      · obtain ⟨b, off, x, rfl, hbB, hx, hc0⟩ := (HR.out.below B2).cell hlt
        have HX := Lib.hid hx
        clear hx
        by_cases hle : x ≤ last
        · have z0 := Z2.cell 0
          have z1 := Z2.cell 1
          have q0 := Z2.frozen 0
          have q1 := Z2.frozen 1
          go_wp2_with fail
          have e0 : closeB t 0 l = false := by rw [HCL.out, closeB_drop HX.out]; simp; omega
          have e1 : closeT t l = noTown := by unfold closeT; rw [e0]; simp
          have e2 : closeE t l = 34 := by unfold closeE; rw [HC.out, e0]; simp
          rw [e1, e2]
          exact bodyPost_ret (v := .tuple #[.agg #[.slice none 0 0, .slice none 0 0], .int .i64 34]) (by simp [results, Tryd.results17, go_sem, z0, z1]) rfl (TownErr.none_ ((B2.setCell (p := ⟨w.heap.size + 1 + 1, 0, none⟩) (by show w.heap.size ≤ w.heap.size + 1 + 1; omega) _).setCell (p := ⟨w.heap.size + 1 + 1, 1, none⟩) (by show w.heap.size ≤ w.heap.size + 1 + 1; omega) _))
        · have hle' : last < x := by omega
          go_wp2_with fail
          with_reducible refine (ids_any A n c A' m d t _ hm ((HT.out.links.below B2).more B2.size)).mono ?_
          rintro e w3 ⟨Ai, ci, rfl, hOi, hb3⟩
          have hil : (idsOf t.links).length ≤ maxLen := by
            have h1 := HT.out.links.len
            unfold idsOf maxLen
            rw [List.length_map]; omega
          go_wp2_with fail
          with_reducible refine (contains_int Ai _ ci (idsOf t.links) x w3 (ints_of_own hOi (Nat.le_refl _)) hil).mono ?_
          rintro e w4 ⟨rfl, hb4⟩
          have hb5 := (hb.trans (hb3.mono hb.size)).trans (hb4.mono (Nat.le_trans hb.size hb3.size))
          have Z4 := Z1.below hb5 Z1.lt
          have B4 := B1.trans (hb5.mono B1.size)
          clear hOi hb3 hb4 X2 Y2 Z2 x0 x1
          cases hmi : memI (idsOf t.links) x with
          | true =>
            have HM := Lib.hid hmi
            clear hmi
            go_wp2_with fail
            go_roundw
            case rel => exact ⟨k + 1, x, by omega, by go_num, rfl, by rw [HCL.out, closeB_drop HX.out, HM.out]; simp [hle'], hb5⟩
            case measure => simp [intOf]; omega
          | false =>
            have HM := Lib.hid hmi
            clear hmi
            have z0 := Z4.cell 0
            have z1 := Z4.cell 1
            have q0 := Z4.frozen 0
            have q1 := Z4.frozen 1
            go_wp2_with fail
            have e0 : closeB t 0 l = false := by rw [HCL.out, closeB_drop HX.out, HM.out]; simp
            have e1 : closeT t l = noTown := by unfold closeT; rw [e0]; simp
            have e2 : closeE t l = 34 := by unfold closeE; rw [HC.out, e0]; simp
            rw [e1, e2]
            exact bodyPost_ret (v := .tuple #[.agg #[.slice none 0 0, .slice none 0 0], .int .i64 34]) (by simp [results, Tryd.results17, go_sem, z0, z1]) rfl (TownErr.none_ ((B4.setCell (p := ⟨w.heap.size + 1 + 1, 0, none⟩) (by show w.heap.size ≤ w.heap.size + 1 + 1; omega) _).setCell (p := ⟨w.heap.size + 1 + 1, 1, none⟩) (by show w.heap.size ≤ w.heap.size + 1 + 1; omega) _))
      · obtain rfl : k = k2 := by omega
        have HF : Hid (closeB t 0 l = true) := by
          have h1 := HR.out.len
          show closeB t 0 l = true
          rw [HCL.out, List.drop_eq_nil_of_le (by omega)]; rfl
        have hmf : ∀ (fn : Fn) (first cap : Array Value) (w : World), (Instr.makeFunc fn first cap).run Tryd.prog w = .ok (.func fn first cap) w := fun _ _ _ _ => rfl
        have HY := Lib.hid (show wr.cell? ⟨w.heap.size + 1, 0, none⟩ = some (.slice A2 k c2) from Y2.cell 0)
        go_wp2_with fail
        with_reducible refine (less_any A n c A' m d t _ _ (fun x => memI l x.id) wr hn hm ((HT.out.below B2).more B2.size) (pred_close1 A2 k c2 l (w.heap.size + 1) wr _ (by unfold maxLen; omega) ((HR.out.below B2).more B2.size) Y2.lt (Nat.le_refl _) HY.out)).mono ?_
        rintro e w5 ⟨A5, c5, A6, c6, rfl, hO5, hO6, hap, hb5⟩
        have Z5 := Z2.below hb5 Z2.lt
        have B5 := B2.trans (hb5.mono B2.size)
        have z0 := Z5.cell 0
        have z1 := Z5.cell 1
        have q0 := Z5.frozen 0
        have q1 := Z5.frozen 1
        have h5 := Lib.hid (fun a (h : A5 = some a) => (hO5.lt h).1)
        have h6 := Lib.hid (fun a (h : A6 = some a) => (hO6.lt h).1)
        have hZ2 := Z2.lt
        have H5 := Lib.hid (hO5.mono B2.size)
        have H6 := Lib.hid (hO6.mono B2.size)
        clear hO5 hO6 x0 x1
        go_wp2_with fail
        have e1 : closeT t l = lessT t fun x => memI l x.id := by unfold closeT; rw [HC.out, HF.out]; rfl
        have e2 : closeE t l = 0 := by unfold closeE; rw [HC.out, HF.out]; rfl
        rw [e1, e2]
        refine bodyPost_ret (v := .tuple #[.agg #[.slice A5 (lessT t fun x => memI l x.id).places.length c5, .slice A6 (lessT t fun x => memI l x.id).links.length c6], .int .i64 0]) (by simp [results, Tryd.results17, go_sem, z0, z1]) rfl ?_
        refine ⟨A5, c5, A6, c6, rfl, H5.out.grown (grown_setCell (grown_setCell (grown_refl _ (some (w.heap.size + 1 + 1))) (p := ⟨w.heap.size + 1 + 1, 0, none⟩) (.inl rfl) _) (p := ⟨w.heap.size + 1 + 1, 1, none⟩) (.inl rfl) _) (fun a ha => by have := h5.out a ha; simp; omega),
          H6.out.grown (grown_setCell (grown_setCell (grown_refl _ (some (w.heap.size + 1 + 1))) (p := ⟨w.heap.size + 1 + 1, 0, none⟩) (.inl rfl) _) (p := ⟨w.heap.size + 1 + 1, 1, none⟩) (.inl rfl) _) (fun a ha => by have := h6.out a ha; simp; omega), hap, ?_⟩
        exact (B5.setCell (p := ⟨w.heap.size + 1 + 1, 0, none⟩) (by show w.heap.size ≤ w.heap.size + 1 + 1; omega) _).setCell (p := ⟨w.heap.size + 1 + 1, 1, none⟩) (by show w.heap.size ≤ w.heap.size + 1 + 1; omega) _
end Go.Proofs.YtahkjagjcogeiaaDoor
