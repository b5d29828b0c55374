/- The answer's Close. -/
import Derived.Test.YtahkjagjcogeiaaDoorRfWithout
namespace Go.Proofs.YtahkjagjcogeiaaDoor
open Go.RowKit
set_option linter.unusedVariables false

theorem linkI_yes {l : List Link} {id : Int} (h : memI (idsOf l) id = true) : 0 ≤ linkI l id := by
  unfold linkI idxL
  rw [if_pos]
  · omega
  · rw [memI_iff] at h
    unfold idsOf at h
    obtain ⟨x, hx, he⟩ := List.mem_map.1 h
    exact List.any_eq_true.2 ⟨x, hx, by simpa using he⟩
theorem linkI_no {l : List Link} {id : Int} (h : memI (idsOf l) id = false) : linkI l id < 0 := by
  unfold linkI idxL
  rw [if_neg]
  · omega
  · intro hc
    obtain ⟨x, hx, he⟩ := List.any_eq_true.1 hc
    have : memI (idsOf l) id = true := memI_iff.2 (List.mem_map.2 ⟨x, hx, by simpa using he⟩)
    rw [this] at h; cases h
theorem ids_pos {t : Town} (ht : townB t = true) {id : Int} (h : memI (idsOf t.links) id = true) : 0 < id := by
  unfold townB at ht
  simp only [Bool.and_eq_true] at ht
  rw [memI_iff] at h
  obtain ⟨x, hx, rfl⟩ := List.mem_map.1 h
  exact (linksB_pw ht.2).1 x hx

set_option maxRecDepth 100000 in
set_option maxHeartbeats 4000000 in
theorem rclose_any (A : Option Addr) (n c : Nat) (A' : Option Addr) (m d : Nat) (t : Town) (A2 : Option Addr) (k2 c2 : Nat) (l : List Int) (w : World) (hn : n ≤ 1000) (hm : m ≤ 1000) (hk : k2 ≤ 1000) (ht : TownAt w w.heap.size A n A' m t) (hr : IntsAt w w.heap.size A2 k2 l) :
    Calls Tryd.prog 18 #[.agg #[.slice A n c, .slice A' m d], .slice A2 k2 c2] w fun e w' => TownErr w e w' (closeT t l) (closeE t l) := by
  have HT := Lib.hid ht
  have HR := Lib.hid hr
  have hn1 : n ≤ maxLen := by unfold maxLen; omega
  have hm1 : m ≤ maxLen := by unfold maxLen; omega
  have HLk := Lib.hid hr.len
  clear ht hr
  go_enter Tryd.func18, Tryd.ntmps18
  go_wp2_with fail
  have X0 := (Blk.new w 25 #[.slice A n c, .slice A' m d]).alloc (.cells #[.slice none 0 0, .slice none 0 0] 25)
  have Z0 := Blk.new (w.alloc (.cells #[.slice A n c, .slice A' m d] 25)) 25 #[.slice none 0 0, .slice none 0 0]
  have B0 : Below w.heap.size w ((w.alloc (.cells #[.slice A n c, .slice A' m d] 25)).alloc (.cells #[.slice none 0 0, .slice none 0 0] 25)) := ((Below.refl _ _).alloc (Nat.le_refl _) _).alloc (by simp) _
  rw [World.size_alloc] at Z0
  generalize ((w.alloc (.cells #[.slice A n c, .slice A' m d] 25)).alloc (.cells #[.slice none 0 0, .slice none 0 0] 25)) = w0 at *
  with_reducible refine (rtown_any A n c A' m d t w0 hn hm ((HT.out.below B0).more B0.size)).mono ?_
  rintro e w1 ⟨rfl, hb1⟩
  replace X0 := X0.below hb1 X0.lt
  replace Z0 := Z0.below hb1 Z0.lt
  replace B0 := B0.trans (hb1.mono B0.size)
  clear hb1
  cases htb : townB t with
  | false =>
    have z0 := Z0.cell 0
    have z1 := Z0.cell 1
    have q0 := Z0.frozen 0
    have q1 := Z0.frozen 1
    have HC := Lib.hid htb
    clear htb
    go_wp2_with fail
    have e1 : closeT t l = noTown := by unfold closeT; rw [HC.out]; rfl
    have e2 : closeE t l = 30 := by unfold closeE; rw [HC.out]; rfl
    rw [e1, e2]
    exact bodyPost_ret (v := .tuple #[.agg #[.slice none 0 0, .slice none 0 0], .int .i64 30]) (by simp [results, Tryd.results18, go_sem, z0, z1]) rfl (TownErr.none_ ((B0.setCell (p := ⟨w.heap.size + 1, 0, none⟩) (Nat.le_succ _) _).setCell (p := ⟨w.heap.size + 1, 1, none⟩) (Nat.le_succ _) _))
  | true =>
    have HC := Lib.hid htb
    clear htb
    go_wp2_with fail
    go_loopw [14] (fun vi wr => ∃ (k : Nat), k ≤ k2 ∧ vi = .int .i64 k ∧ closeB t 0 l = closeB t (if k = 0 then 0 else (l[k - 1]?).getD 0) (l.drop k) ∧ Below w1.heap.size w1 wr)
      (fun vi _ => k2 - (intOf vi).toNat)
    case atStart => exact ⟨0, by omega, rfl, by simp, Below.refl _ _⟩
    case round =>
      obtain ⟨k, hk', rfl, hcl, hb⟩ := hrel
      have HCL := Lib.hid hcl
      clear hcl
      have X2 := X0.below hb X0.lt
      have Z2 := Z0.below hb Z0.lt
      have B2 := B0.trans (hb.mono B0.size)
      have x0 := X2.cell 0
      have x1 := X2.cell 1
      by_cases hlt : k < k2
      · obtain ⟨b, off, x, rfl, hbB, hx, hc0⟩ := (HR.out.below B2).cell hlt
        have HX := Lib.hid hx
        clear hx
        go_wp2_with fail
        with_reducible refine (link_any A n c A' m d t x wr hm1 ((HT.out.links.below B2).more B2.size)).mono ?_
        rintro e w4 ⟨rfl, hb4⟩
        have hb5 := hb.trans (hb4.mono hb.size)
        have Z4 := Z0.below hb5 Z0.lt
        have B4 := B0.trans (hb5.mono B0.size)
        clear hb4 X2 Z2 x0 x1 hc0
        have z0 := Z4.cell 0
        have z1 := Z4.cell 1
        have q0 := Z4.frozen 0
        have q1 := Z4.frozen 1
        cases hmi : memI (idsOf t.links) x with
        | false =>
          have hneg := linkI_no hmi
          have e0 : Hid (closeB t 0 l = false) := by show _ = _; rw [HCL.out, closeB_drop HX.out, hmi]; simp
          clear hmi
          go_wp2_with fail
          have e1 : closeT t l = noTown := by unfold closeT; rw [e0.out]; simp
          have e2 : closeE t l = 34 := by unfold closeE; rw [HC.out, e0.out]; simp
          rw [e1, e2]
          exact bodyPost_ret (v := .tuple #[.agg #[.slice none 0 0, .slice none 0 0], .int .i64 34]) (by simp [results, Tryd.results18, go_sem, z0, z1]) rfl (TownErr.none_ ((B4.setCell (p := ⟨w.heap.size + 1, 0, none⟩) (Nat.le_succ _) _).setCell (p := ⟨w.heap.size + 1, 1, none⟩) (Nat.le_succ _) _))
        | true =>
          have hpos := linkI_yes hmi
          have hxp := ids_pos HC.out hmi
          have HM := Lib.hid hmi
          clear hmi
          rcases Nat.eq_zero_or_pos k with rfl | hk0
          · go_wp2_with fail
            go_roundw
            case rel => exact ⟨1, by omega, by go_num, by rw [HCL.out, closeB_drop HX.out, HM.out]; simp [hxp, HX.out], hb5⟩
            case measure => simp [intOf]; omega
          · obtain ⟨q, rfl⟩ : ∃ q, k = q + 1 := ⟨k - 1, by omega⟩
            obtain ⟨b', off', y, hA, hbB', hy, hd0⟩ := (HR.out.below B4).cell (show q < k2 by omega)
            cases hA
            have HY := Lib.hid hy
            clear hy
            have hlast : Hid ((if q + 1 = 0 then (0 : Int) else (l[q + 1 - 1]?).getD 0) = y) := by
              show _ = _
              rw [if_neg (by omega), show q + 1 - 1 = q by omega, HY.out]; rfl
            by_cases hle : x ≤ y
            · have e0 : Hid (closeB t 0 l = false) := by show _ = _; rw [HCL.out, closeB_drop HX.out, hlast.out]; simp; omega
              go_wp2_with fail
              have e1 : closeT t l = noTown := by unfold closeT; rw [e0.out]; simp
              have e2 : closeE t l = 34 := by unfold closeE; rw [HC.out, e0.out]; simp
              rw [e1, e2]
              exact bodyPost_ret (v := .tuple #[.agg #[.slice none 0 0, .slice none 0 0], .int .i64 34]) (by simp [results, Tryd.results18, go_sem, z0, z1]) rfl (TownErr.none_ ((B4.setCell (p := ⟨w.heap.size + 1, 0, none⟩) (Nat.le_succ _) _).setCell (p := ⟨w.heap.size + 1, 1, none⟩) (Nat.le_succ _) _))
            · have hle' : y < x := by omega
              go_wp2_with fail
              go_roundw
              case rel => exact ⟨q + 1 + 1, by omega, by go_num, by
                rw [HCL.out, closeB_drop HX.out, hlast.out, HM.out]
                have h2 : (if q + 1 + 1 = 0 then (0 : Int) else (l[q + 1 + 1 - 1]?).getD 0) = x := by
                  rw [if_neg (by omega), show q + 1 + 1 - 1 = q + 1 by omega, HX.out]; rfl
                rw [h2]
                simp [hle'], hb5⟩
              case measure => simp [intOf]; omega
      · obtain rfl : k = k2 := by omega
        have HF : Hid (closeB t 0 l = true) := by
          show closeB t 0 l = true
          rw [HCL.out, List.drop_eq_nil_of_le (by have := HLk.out; omega)]; rfl
        go_wp2_with fail
        with_reducible refine (without_any A n c A' m d t A2 k c2 l wr hn hm hk ((HT.out.below B2).more B2.size) ((HR.out.below B2).more B2.size)).mono ?_
        rintro e w5 ⟨A5, c5, A6, c6, rfl, hO5, hO6, hap, hb5⟩
        have Z5 := Z2.below hb5 Z2.lt
        have B5 := B2.trans (hb5.mono B2.size)
        have z0 := Z5.cell 0
        have z1 := Z5.cell 1
        have q0 := Z5.frozen 0
        have q1 := Z5.frozen 1
        have h5 := Lib.hid (fun a (h : A5 = some a) => (hO5.lt h).1)
        have h6 := Lib.hid (fun a (h : A6 = some a) => (hO6.lt h).1)
        have hZ2 := Z2.lt
        have H5 := Lib.hid (hO5.mono B2.size)
        have H6 := Lib.hid (hO6.mono B2.size)
        clear hO5 hO6 x0 x1
        go_wp2_with fail
        have e1 : closeT t l = lessT t fun x => memI l x.id := by unfold closeT; rw [HC.out, HF.out]; rfl
        have e2 : closeE t l = 0 := by unfold closeE; rw [HC.out, HF.out]; rfl
        rw [e1, e2]
        refine bodyPost_ret (v := .tuple #[.agg #[.slice A5 (lessT t fun x => memI l x.id).places.length c5, .slice A6 (lessT t fun x => memI l x.id).links.length c6], .int .i64 0]) (by simp [results, Tryd.results18, go_sem, z0, z1]) rfl ?_
        refine ⟨A5, c5, A6, c6, rfl, H5.out.grown (grown_setCell (grown_setCell (grown_refl _ (some (w.heap.size + 1))) (p := ⟨w.heap.size + 1, 0, none⟩) (.inl rfl) _) (p := ⟨w.heap.size + 1, 1, none⟩) (.inl rfl) _) (fun a ha => by have := h5.out a ha; simp; omega),
          H6.out.grown (grown_setCell (grown_setCell (grown_refl _ (some (w.heap.size + 1))) (p := ⟨w.heap.size + 1, 0, none⟩) (.inl rfl) _) (p := ⟨w.heap.size + 1, 1, none⟩) (.inl rfl) _) (fun a ha => by have := h6.out a ha; simp; omega), hap, ?_⟩
        exact (B5.setCell (p := ⟨w.heap.size + 1, 0, none⟩) (Nat.le_succ _) _).setCell (p := ⟨w.heap.size + 1, 1, none⟩) (Nat.le_succ _) _
end Go.Proofs.YtahkjagjcogeiaaDoor
