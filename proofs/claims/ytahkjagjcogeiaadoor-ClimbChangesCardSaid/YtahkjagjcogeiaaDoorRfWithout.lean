/- The answer's Without. -/
import Derived.Test.YtahkjagjcogeiaaDoorRfTwin
namespace Go.Proofs.YtahkjagjcogeiaaDoor
open Go.RowKit
set_option linter.unusedVariables false

theorem memI_snoc {l : List Int} {k : Nat} {y x : Int} (hy : l[k]? = some y) : memI (l.take (k + 1)) x = (memI (l.take k) x || (y == x)) := by
  obtain ⟨hk, rfl⟩ := List.getElem?_eq_some_iff.1 hy
  rw [List.take_succ_eq_append_getElem hk]
  unfold memI
  rw [Bool.eq_iff_iff]
  simp only [List.contains_iff_mem, Bool.or_eq_true, List.mem_append, List.mem_singleton, beq_iff_eq]
  constructor
  · rintro (h | h)
    · exact .inl h
    · exact .inr h.symm
  · rintro (h | h)
    · exact .inl h
    · exact .inr h.symm

/-- Between two rounds of Without: the places, and k links kept. -/
structure WoAt (w : World) (G : Nat) (t : Town) (n : Nat) (p : Link → Bool) (i : Nat) (wr : World) (AP : Option Addr) (cP : Nat) (AK : Option Addr) (cK : Nat) : Prop where
  box : Blk wr G 25 #[.slice AP n cP, .slice AK ((t.links.take i).filter fun x => !p x).length cK]
  places : Own wr w.heap.size 3 1 AP n cP (t.places.map (Value.int .i64))
  links : Own wr w.heap.size 45 5 AK ((t.links.take i).filter fun x => !p x).length cK (((t.links.take i).filter fun x => !p x).flatMap Link.vals)
  apart : Apart AP AK
  boxP : ∀ a, AP = some a → a.block ≠ G
  boxK : ∀ a, AK = some a → a.block ≠ G
  upP : Above (w.heap.size + 1) AP
  upK : Above (w.heap.size + 1) AK
  bel : Below w.heap.size w wr
  zbox : Blk wr (w.heap.size + 1) 25 #[.slice none 0 0, .slice none 0 0]
  hG : w.heap.size + 1 < G

section
variable {w : World} {G : Nat} {t : Town} {n : Nat} {p : Link → Bool} {i : Nat} {wr w' : World} {AP : Option Addr} {cP : Nat} {AK : Option Addr} {cK : Nat} {x : Link}
theorem WoAt.below (h : WoAt w G t n p i wr AP cP AK cK) (hb : Below wr.heap.size wr w') : WoAt w G t n p i w' AP cP AK cK :=
  ⟨h.box.below hb h.box.lt, h.places.below hb (Nat.le_refl _), h.links.below hb (Nat.le_refl _), h.apart, h.boxP, h.boxK, h.upP, h.upK, h.bel.trans (hb.mono h.bel.size), h.zbox.below hb h.zbox.lt, h.hG⟩
theorem WoAt.skip (h : WoAt w G t n p i wr AP cP AK cK) (hx : t.links[i]? = some x) (hp : p x = true) : WoAt w G t n p (i + 1) wr AP cP AK cK := by
  obtain ⟨hj, rfl⟩ := List.getElem?_eq_some_iff.1 hx
  have e1 : ((t.links.take (i + 1)).filter fun x => !p x) = (t.links.take i).filter fun x => !p x := by
    rw [List.take_succ_eq_append_getElem hj, List.filter_append]; simp [hp]
  exact ⟨by rw [e1]; exact h.box, h.places, by rw [e1]; exact h.links, h.apart, h.boxP, h.boxK, h.upP, h.upK, h.bel, h.zbox, h.hG⟩
/-- One link is kept: it is appended, and the field is stored. -/
theorem WoAt.keep (h : WoAt w G t n p i wr AP cP AK cK) (hx : t.links[i]? = some x) (hp : p x = false) {A2 : Option Addr} {c2 : Nat}
    (hown : Own w' w.heap.size 45 5 A2 (((t.links.take i).filter fun x => !p x).length + 1) c2 (((t.links.take i).filter fun x => !p x).flatMap Link.vals ++ x.vals)) (hg : wr.grownBy w' (AK.map (·.block))) (hA : A2 = AK ∨ ∃ b, wr.heap.size ≤ b ∧ A2 = some ⟨b, 0, none⟩) :
    WoAt w G t n p (i + 1) (w'.setCell ⟨G, 1, none⟩ (.slice A2 (((t.links.take i).filter fun x => !p x).length + 1) c2)) AP cP A2 c2 := by
  obtain ⟨hj, rfl⟩ := List.getElem?_eq_some_iff.1 hx
  have e1 : ((t.links.take (i + 1)).filter fun x => !p x) = ((t.links.take i).filter fun x => !p x) ++ [t.links[i]] := by
    rw [List.take_succ_eq_append_getElem hj, List.filter_append]; simp [hp]
  have e2 : (((t.links.take i).filter fun x => !p x) ++ [t.links[i]]).length = ((t.links.take i).filter fun x => !p x).length + 1 := by simp
  have e3 : (((t.links.take i).filter fun x => !p x) ++ [t.links[i]]).flatMap Link.vals = ((t.links.take i).filter fun x => !p x).flatMap Link.vals ++ t.links[i].vals := by simp
  have hrow : ∀ k, (∀ a, AK = some a → a.block ≠ k) → some k ≠ AK.map (·.block) := by
    intro k hk
    cases AK with
    | none => simp
    | some a => simpa using (hk a rfl).symm
  have nG : ∀ a, A2 = some a → a.block ≠ G := by
    intro a ha
    rcases hA with hA | ⟨b, hb, hA⟩
    · rw [hA] at ha; exact h.boxK a ha
    · rw [hA] at ha; cases ha
      have := h.box.lt
      exact fun e => by simp at e; omega
  have hs : ∀ u : Value, w'.grownBy (w'.setCell ⟨G, 1, none⟩ u) (some G) := fun u => grown_setCell (grown_refl _ _) (p := ⟨G, 1, none⟩) (.inl rfl) u
  have hGl := h.hG
  rw [← e2] at hown ⊢
  refine ⟨?_, ?_, ?_, ?_, h.boxP, nG, h.upP, ?_, ?_, ?_, h.hG⟩
  · rw [e1]
    exact (h.box.grown hg (hrow G h.boxK)).set_ 1 _
  · exact (h.places.grown hg (fun a ha => row_ne h.apart ha)).grown (hs _) (fun a ha e => h.boxP a ha (Option.some.inj e))
  · rw [e1, e3]
    exact hown.grown (hs _) (fun a ha e => nG a ha (Option.some.inj e))
  · intro a b ha hb
    rcases hA with hA | ⟨b', hb', hA⟩
    · rw [hA] at hb; exact h.apart a b ha hb
    · rw [hA] at hb; cases hb
      have := (h.places.lt ha).2
      exact fun e => by simp at e; omega
  · intro a ha
    rcases hA with hA | ⟨b, hb, hA⟩
    · rw [hA] at ha; exact h.upK a ha
    · rw [hA] at ha; cases ha
      have := h.zbox.lt
      show w.heap.size + 1 < b
      have := h.box.lt
      omega
  · refine Below.setCell (h.bel.grown hg h.bel.size (fun k hk => ?_)) (p := ⟨G, 1, none⟩) (by show w.heap.size ≤ G; omega) _
    cases AK with
    | none => cases hk
    | some a => have := h.upK a rfl; simp at hk; omega
  · exact (h.zbox.grown hg (hrow _ (fun a ha e => by have := h.upK a ha; omega))).grown (hs _) (by intro e; have := Option.some.inj e; omega)
end

set_option maxRecDepth 100000 in
set_option maxHeartbeats 4000000 in
theorem without_any (A : Option Addr) (n c : Nat) (A' : Option Addr) (m d : Nat) (t : Town) (A2 : Option Addr) (k2 c2 : Nat) (l : List Int) (w : World) (hn : n ≤ 1000) (hm : m ≤ 1000) (hk : k2 ≤ 1000) (ht : TownAt w w.heap.size A n A' m t) (hr : IntsAt w w.heap.size A2 k2 l) :
    Calls Tryd.prog 64 #[.agg #[.slice A n c, .slice A' m d], .slice A2 k2 c2] w fun e w' => TownOut w e w' (lessT t fun x => memI l x.id) := by
  have HT := Lib.hid ht
  have HR := Lib.hid hr
  have HLn := Lib.hid ht.places.len
  have HLm := Lib.hid ht.links.len
  have HLk := Lib.hid hr.len
  clear ht hr
  go_enter Tryd.func64, Tryd.ntmps64
  go_wp2_with fail
  have X0 := (Blk.new w 25 #[.slice A n c, .slice A' m d]).alloc (.cells #[.slice none 0 0, .slice none 0 0] 25)
  have Z0 := Blk.new (w.alloc (.cells #[.slice A n c, .slice A' m d] 25)) 25 #[.slice none 0 0, .slice none 0 0]
  have B0 : Below w.heap.size w ((w.alloc (.cells #[.slice A n c, .slice A' m d] 25)).alloc (.cells #[.slice none 0 0, .slice none 0 0] 25)) := ((Below.refl _ _).alloc (Nat.le_refl _) _).alloc (by simp) _
  rw [World.size_alloc] at Z0
  generalize ((w.alloc (.cells #[.slice A n c, .slice A' m d] 25)).alloc (.cells #[.slice none 0 0, .slice none 0 0] 25)) = w0 at *
  have hz0 := Z0.lt
  with_reducible refine (twin_any A n c A' m d t w0 hn hm ((HT.out.below B0).more B0.size)).mono ?_
  rintro e w1 ⟨AP, cP, AK, cK, rfl, hP, hK, hPK, hb1⟩
  have hUP : Above (w.heap.size + 1) AP := fun a ha => by have := (hP.lt ha).1; omega
  have hlP : ∀ a, AP = some a → a.block < w1.heap.size := fun a ha => (hP.lt ha).2
  have hP' := hP.mono B0.size
  clear hP hK hPK
  replace X0 := X0.below hb1 X0.lt
  replace Z0 := Z0.below hb1 Z0.lt
  replace B0 := B0.trans (hb1.mono B0.size)
  have x0 := X0.cell 0
  have x1 := X0.cell 1
  have hz1 := Z0.lt
  have hx1 := X0.lt
  have hx2 : ¬ w.heap.size = w1.heap.size := by omega
  rw [HLn.out] at hP'
  rw [HLn.out, HLm.out]
  have HP := Lib.hid hP'
  have HPl := Lib.hid hlP
  have HUP := Lib.hid hUP
  clear hP' hlP hUP hb1
  go_wp2_with fail
  have hW0 : WoAt w w1.heap.size t n (fun x => memI l x.id) 0 (w1.alloc (.cells #[.slice AP n cP, .slice none 0 0] 25)) AP cP none 0 := by
    refine ⟨Blk.new w1 _ _, HP.out.alloc _, Own.none_ _ _ _ _, (fun _ _ _ h => by cases h), (fun a ha e => by have := HPl.out a ha; omega), (fun _ h => by cases h), HUP.out, (fun _ h => by cases h), B0.alloc B0.size _, Z0.alloc _, hz1⟩
  have HW0 := Lib.hid hW0
  clear hW0 x0 x1 X0 Z0 HPl HUP HP hx1 hx2
  generalize (w1.alloc (.cells #[.slice AP n cP, .slice none 0 0] 25)) = w2 at *
  go_loopw [17] (fun vi wr => ∃ (i : Nat) (AK : Option Addr) (cK : Nat), i ≤ m ∧ vi = .int .i64 i ∧ WoAt w w1.heap.size t n (fun x => memI l x.id) i wr AP cP AK cK)
    (fun vi _ => m - (intOf vi).toNat)
  case atStart => exact ⟨0, none, 0, by omega, rfl, HW0.out⟩
  case round =>
    obtain ⟨i, AK, cK, hi, rfl, hW⟩ := hrel
    have HW := Lib.hid hW
    clear hW
    by_cases hlt : i < m
    · obtain ⟨b, off, x, rfl, hbB, hx, hc0, hc1, hc2, hc3, hc4⟩ := (HT.out.links.below HW.out.bel).cell hlt
      have HX := Lib.hid hx
      clear hx
      go_wp2_with fail
      have X1 := Blk.new wr 45 #[.int .i64 x.id, .int .i64 x.fr, .int .i64 x.to, .int .i64 x.steps, .int .i64 x.paces]
      have hb1 : Below wr.heap.size wr (wr.alloc (.cells #[.int .i64 x.id, .int .i64 x.fr, .int .i64 x.to, .int .i64 x.steps, .int .i64 x.paces] 45)) := (Below.refl _ _).alloc (Nat.le_refl _) _
      have HW1 := Lib.hid (HW.out.below hb1)
      clear hc0 hc1 hc2 hc3 hc4 HW hb1
      generalize (wr.alloc (.cells #[.int .i64 x.id, .int .i64 x.fr, .int .i64 x.to, .int .i64 x.steps, .int .i64 x.paces] 45)) = w3 at *
      have x0 := X1.cell 0
      go_loop [8, 23] (fun vb vj => ∃ j : Nat, j ≤ k2 ∧ vj = .int .i64 j ∧ vb = .bool (memI (l.take j) x.id)) (fun _ vj => k2 - (intOf vj).toNat)
      case atStart => exact ⟨0, by omega, rfl, rfl⟩
      case round =>
        obtain ⟨j, hj, rfl, rfl⟩ := hrel
        by_cases hjl : j < k2
        · obtain ⟨b', off', y, rfl, hbB', hy, hd0⟩ := (HR.out.below HW1.out.bel).cell hjl
          have HS := Lib.hid (memI_snoc (x := x.id) hy)
          clear hy
          cases hm1 : memI (l.take j) x.id with
          | true =>
            have HM := Lib.hid hm1
            clear hm1
            go_wp2_with fail
            go_round
            case rel => exact ⟨j + 1, by omega, by go_num, by rw [HS.out, HM.out]; rfl⟩
            case measure => simp [intOf]; omega
          | false =>
            have HM := Lib.hid hm1
            clear hm1
            go_wp2_with fail
            go_round
            case rel => exact ⟨j + 1, by omega, by go_num, by rw [HS.out, HM.out]; rfl⟩
            case measure => simp [intOf]; omega
        · obtain rfl : j = k2 := by omega
          have hfull : memI (l.take j) x.id = memI l x.id := by rw [List.take_of_length_le (by have := HLk.out; omega)]
          have HFull := Lib.hid hfull
          clear hfull
          cases hm1 : memI (l.take j) x.id with
          | true =>
            have HM := Lib.hid hm1
            clear hm1
            go_wp2_with fail
            go_roundw
            case rel => exact ⟨i + 1, AK, cK, by omega, by go_num, HW1.out.skip HX.out (by show memI l x.id = true; rw [← HFull.out, HM.out])⟩
            case measure => simp [intOf]; omega
          | false =>
            have HM := Lib.hid hm1
            clear hm1
            have b1 := HW1.out.box.cell 1
            have x1 := X1.cell 1
            have x2 := X1.cell 2
            have x3 := X1.cell 3
            have x4 := X1.cell 4
            have hlen : ((t.links.take i).filter fun x => !memI l x.id).length ≤ i := by
              have h1 := List.length_filter_le (fun x : Link => !memI l x.id) (t.links.take i)
              have h2 := List.length_take_le i t.links
              omega
            have HLen := Lib.hid hlen
            have HS3 := Lib.hid HW1.out.bel.size
            clear hlen
            go_wp2_with (at_builtin; refine wpList_append_any _ rfl _ _ rfl elem_link rfl (HW1.out.links.alloc _) rfl (one_link (Blk.new w3 _ _) (Nat.lt_succ_self _)) (vals_one x) (by have := HLen.out; unfold maxLen; omega) (by have := HLen.out; omega) (by have := HS3.out; simp; omega) ?_)
            all_goals
              rintro A3 c3 W1 hown hg hA
              have HW2 := HW1.out.below ((Below.refl w3.heap.size w3).alloc (Nat.le_refl _) (.cells #[.int .i64 x.id, .int .i64 x.fr, .int .i64 x.to, .int .i64 x.steps, .int .i64 x.paces] 45))
              have HGrow := Lib.hid (show w3.grownBy W1 (AK.map (·.block)) from grown_trans (grown_of_below ((Below.refl w3.heap.size w3).alloc (Nat.le_refl _) (.cells #[.int .i64 x.id, .int .i64 x.fr, .int .i64 x.to, .int .i64 x.steps, .int .i64 x.paces] 45)) _) hg)
              have hrow : some w1.heap.size ≠ AK.map (·.block) := by
                intro e
                cases AK with
                | none => cases e
                | some a => exact HW1.out.boxK a rfl (Option.some.inj e).symm
              have hbox := HW1.out.box.grown HGrow.out hrow
              have q0 := hbox.frozen 1
              have q1 := hbox.cell 1
              have HA : Hid (A3 = AK ∨ ∃ b, w3.heap.size ≤ b ∧ A3 = some ⟨b, 0, none⟩) := by
                rcases hA with h | h
                · exact .inl h
                · exact .inr ⟨_, by simp, h⟩
              have HOwn := Lib.hid hown
              clear hown hg hA x0 x1 x2 x3 x4 b1 hbox hrow HW2
              go_wp2_with fail
              go_roundw
              case rel => exact ⟨i + 1, A3, c3, by omega, by go_num, by
                have h1 := HW1.out.keep HX.out (by show memI l x.id = false; rw [← HFull.out, HM.out]) HOwn.out HGrow.out HA.out
                exact h1⟩
              case measure => simp [intOf]; omega
    · obtain rfl : i = m := by omega
      have b0 := HW.out.box.cell 0
      have b1 := HW.out.box.cell 1
      have z0 := HW.out.zbox.cell 0
      have z1 := HW.out.zbox.cell 1
      have q0 := HW.out.zbox.frozen 0
      have q1 := HW.out.zbox.frozen 1
      go_wp2_with fail
      have hfin : ((t.links.take i).filter fun x => !memI l x.id) = (lessT t fun x => memI l x.id).links := by
        rw [List.take_of_length_le (by have := HLm.out; omega)]; rfl
      have HFin := Lib.hid hfin
      clear hfin
      have hs : ∀ (u v : Value), wr.grownBy ((wr.setCell ⟨w.heap.size + 1, 0, none⟩ u).setCell ⟨w.heap.size + 1, 1, none⟩ v) (some (w.heap.size + 1)) := fun u v => grown_setCell (grown_setCell (grown_refl _ _) (p := ⟨w.heap.size + 1, 0, none⟩) (.inl rfl) _) (p := ⟨w.heap.size + 1, 1, none⟩) (.inl rfl) _
      refine bodyPost_ret (v := .agg #[.slice AP n cP, .slice AK ((t.links.take i).filter fun x => !memI l x.id).length cK]) (by simp [results, Tryd.results64, go_sem, z0, z1]) rfl ?_
      refine ⟨AP, cP, AK, cK, ?_, ?_, ?_, HW.out.apart, (HW.out.bel.setCell (p := ⟨w.heap.size + 1, 0, none⟩) (Nat.le_succ _) _).setCell (p := ⟨w.heap.size + 1, 1, none⟩) (Nat.le_succ _) _⟩
      · rw [HFin.out, show (lessT t fun x => memI l x.id).places.length = n from HLn.out]
      · rw [show (lessT t fun x => memI l x.id).places.length = n from HLn.out]
        exact HW.out.places.grown (hs _ _) (fun a ha e => by have := HW.out.upP a ha; have := Option.some.inj e; omega)
      · rw [← HFin.out]
        exact HW.out.links.grown (hs _ _) (fun a ha e => by have := HW.out.upK a ha; have := Option.some.inj e; omega)
end Go.Proofs.YtahkjagjcogeiaaDoor
