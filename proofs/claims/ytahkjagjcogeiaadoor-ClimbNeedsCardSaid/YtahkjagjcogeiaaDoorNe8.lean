/- ClimbNeeds: whatever the arguments, the law answers true. The row, and the card. -/
import Derived.Deep.Cut
import Derived.Test.YtahkjagjcogeiaaDoorRows
import Derived.ProofKit
import Derived.LaidMore
import Derived.LaidHandle
import Derived.Stop.Joined
import Derived.ChangeSame
import Derived.OpenShut
import Derived.Lib.SmallJoins
import Derived.ChangeArms
import Derived.SevenTiedAt
import Derived.Test.YtahkjagjcogeiaaDoorCards
import Derived.Test.YtahkjagjcogeiaaDoorTie
import Derived.Test.YtahkjagjcogeiaaDoorNe7
/- The answer's Without. -/
namespace Go.Proofs.YtahkjagjcogeiaaDoor
open Go.RowKit
set_option linter.unusedVariables false

theorem memI_snoc {l : List Int} {k : Nat} {y x : Int} (hy : l[k]? = some y) : memI (l.take (k + 1)) x = (memI (l.take k) x || (y == x)) := by
  obtain ⟨hk, rfl⟩ := List.getElem?_eq_some_iff.1 hy
  rw [List.take_succ_eq_append_getElem hk]
  unfold memI
  rw [Bool.eq_iff_iff]
  simp only [List.contains_iff_mem, Bool.or_eq_true, List.mem_append, List.mem_singleton, beq_iff_eq]
  constructor
  · rintro (h | h)
    · exact .inl h
    · exact .inr h.symm
  · rintro (h | h)
    · exact .inl h
    · exact .inr h.symm

/-- Between two rounds of Without: the places, and k links kept. -/
structure WoAt (w : World) (G : Nat) (t : Town) (n : Nat) (p : Link → Bool) (i : Nat) (wr : World) (AP : Option Addr) (cP : Nat) (AK : Option Addr) (cK : Nat) : Prop where
  box : Blk wr G 25 #[.slice AP n cP, .slice AK ((t.links.take i).filter fun x => !p x).length cK]
  places : Own wr w.heap.size 3 1 AP n cP (t.places.map (Value.int .i64))
  links : Own wr w.heap.size 45 5 AK ((t.links.take i).filter fun x => !p x).length cK (((t.links.take i).filter fun x => !p x).flatMap Link.vals)
  apart : Apart AP AK
  boxP : ∀ a, AP = some a → a.block ≠ G
  boxK : ∀ a, AK = some a → a.block ≠ G
  upP : Above (w.heap.size + 1) AP
  upK : Above (w.heap.size + 1) AK
  bel : Below w.heap.size w wr
  zbox : Blk wr (w.heap.size + 1) 25 #[.slice none 0 0, .slice none 0 0]
  hG : w.heap.size + 1 < G

section
variable {w : World} {G : Nat} {t : Town} {n : Nat} {p : Link → Bool} {i : Nat} {wr w' : World} {AP : Option Addr} {cP : Nat} {AK : Option Addr} {cK : Nat} {x : Link}
theorem WoAt.below (h : WoAt w G t n p i wr AP cP AK cK) (hb : Below wr.heap.size wr w') : WoAt w G t n p i w' AP cP AK cK :=
  ⟨h.box.below hb h.box.lt, h.places.below hb (Nat.le_refl _), h.links.below hb (Nat.le_refl _), h.apart, h.boxP, h.boxK, h.upP, h.upK, h.bel.trans (hb.mono h.bel.size), h.zbox.below hb h.zbox.lt, h.hG⟩
theorem WoAt.skip (h : WoAt w G t n p i wr AP cP AK cK) (hx : t.links[i]? = some x) (hp : p x = true) : WoAt w G t n p (i + 1) wr AP cP AK cK := by
  obtain ⟨hj, rfl⟩ := List.getElem?_eq_some_iff.1 hx
  have e1 : ((t.links.take (i + 1)).filter fun x => !p x) = (t.links.take i).filter fun x => !p x := by
    rw [List.take_succ_eq_append_getElem hj, List.filter_append]; simp [hp]
  exact ⟨by rw [e1]; exact h.box, h.places, by rw [e1]; exact h.links, h.apart, h.boxP, h.boxK, h.upP, h.upK, h.bel, h.zbox, h.hG⟩
/-- One link is kept: it is appended, and the field is stored. -/
theorem WoAt.keep (h : WoAt w G t n p i wr AP cP AK cK) (hx : t.links[i]? = some x) (hp : p x = false) {A2 : Option Addr} {c2 : Nat}
    (hown : Own w' w.heap.size 45 5 A2 (((t.links.take i).filter fun x => !p x).length + 1) c2 (((t.links.take i).filter fun x => !p x).flatMap Link.vals ++ x.vals)) (hg : wr.grownBy w' (AK.map (·.block))) (hA : A2 = AK ∨ ∃ b, wr.heap.size ≤ b ∧ A2 = some ⟨b, 0, none⟩) :
    WoAt w G t n p (i + 1) (w'.setCell ⟨G, 1, none⟩ (.slice A2 (((t.links.take i).filter fun x => !p x).length + 1) c2)) AP cP A2 c2 := by
  obtain ⟨hj, rfl⟩ := List.getElem?_eq_some_iff.1 hx
  have e1 : ((t.links.take (i + 1)).filter fun x => !p x) = ((t.links.take i).filter fun x => !p x) ++ [t.links[i]] := by
    rw [List.take_succ_eq_append_getElem hj, List.filter_append]; simp [hp]
  have e2 : (((t.links.take i).filter fun x => !p x) ++ [t.links[i]]).length = ((t.links.take i).filter fun x => !p x).length + 1 := by simp
  have e3 : (((t.links.take i).filter fun x => !p x) ++ [t.links[i]]).flatMap Link.vals = ((t.links.take i).filter fun x => !p x).flatMap Link.vals ++ t.links[i].vals := by simp
  have hrow : ∀ k, (∀ a, AK = some a → a.block ≠ k) → some k ≠ AK.map (·.block) := by
    intro k hk
    cases AK with
    | none => simp
    | some a => simpa using (hk a rfl).symm
  have nG : ∀ a, A2 = some a → a.block ≠ G := by
    intro a ha
    rcases hA with hA | ⟨b, hb, hA⟩
    · rw [hA] at ha; exact h.boxK a ha
    · rw [hA] at ha; cases ha
      have := h.box.lt
      exact fun e => by simp at e; omega
  have hs : ∀ u : Value, w'.grownBy (w'.setCell ⟨G, 1, none⟩ u) (some G) := fun u => grown_setCell (grown_refl _ _) (p := ⟨G, 1, none⟩) (.inl rfl) u
  have hGl := h.hG
  rw [← e2] at hown ⊢
  refine ⟨?_, ?_, ?_, ?_, h.boxP, nG, h.upP, ?_, ?_, ?_, h.hG⟩
  · rw [e1]
    exact (h.box.grown hg (hrow G h.boxK)).set_ 1 _
  · exact (h.places.grown hg (fun a ha => row_ne h.apart ha)).grown (hs _) (fun a ha e => h.boxP a ha (Option.some.inj e))
  · rw [e1, e3]
    exact hown.grown (hs _) (fun a ha e => nG a ha (Option.some.inj e))
  · intro a b ha hb
    rcases hA with hA | ⟨b', hb', hA⟩
    · rw [hA] at hb; exact h.apart a b ha hb
    · rw [hA] at hb; cases hb
      have := (h.places.lt ha).2
      exact fun e => by simp at e; omega
  · intro a ha
    rcases hA with hA | ⟨b, hb, hA⟩
    · rw [hA] at ha; exact h.upK a ha
    · rw [hA] at ha; cases ha
      have := h.zbox.lt
      show w.heap.size + 1 < b
      have := h.box.lt
      omega
  · refine Below.setCell (h.bel.grown hg h.bel.size (fun k hk => ?_)) (p := ⟨G, 1, none⟩) (by show w.heap.size ≤ G; omega) _
    cases AK with
    | none => cases hk
    | some a => have := h.upK a rfl; simp at hk; omega
  · exact (h.zbox.grown hg (hrow _ (fun a ha e => by have := h.upK a ha; omega))).grown (hs _) (by intro e; have := Option.some.inj e; omega)
end

set_option maxRecDepth 100000 in
set_option maxHeartbeats 4000000 in
theorem without_any (A : Option Addr) (n c : Nat) (A' : Option Addr) (m d : Nat) (t : Town) (A2 : Option Addr) (k2 c2 : Nat) (l : List Int) (w : World) (hn : n ≤ 1000) (hm : m ≤ 1000) (hk : k2 ≤ 1000) (ht : TownAt w w.heap.size A n A' m t) (hr : IntsAt w w.heap.size A2 k2 l) :
    Calls Tryd.prog 64 #[.agg #[.slice A n c, .slice A' m d], .slice A2 k2 c2] w fun e w' => TownOut w e w' (lessT t fun x => memI l x.id) := by
  have HT := Lib.hid ht
  have HR := Lib.hid hr
  have HLn := Lib.hid ht.places.len
  have HLm := Lib.hid ht.links.len
  have HLk := Lib.hid hr.len
  clear ht hr
  go_enter Tryd.func64, Tryd.ntmps64
  go_wp2_with fail
  have X0 := (Blk.new w 25 #[.slice A n c, .slice A' m d]).alloc (.cells #[.slice none 0 0, .slice none 0 0] 25)
  have Z0 := Blk.new (w.alloc (.cells #[.slice A n c, .slice A' m d] 25)) 25 #[.slice none 0 0, .slice none 0 0]
  have B0 : Below w.heap.size w ((w.alloc (.cells #[.slice A n c, .slice A' m d] 25)).alloc (.cells #[.slice none 0 0, .slice none 0 0] 25)) := ((Below.refl _ _).alloc (Nat.le_refl _) _).alloc (by simp) _
  rw [World.size_alloc] at Z0
  generalize ((w.alloc (.cells #[.slice A n c, .slice A' m d] 25)).alloc (.cells #[.slice none 0 0, .slice none 0 0] 25)) = w0 at *
  have hz0 := Z0.lt
  with_reducible refine (twin_any A n c A' m d t w0 hn hm ((HT.out.below B0).more B0.size)).mono ?_
  rintro e w1 ⟨AP, cP, AK, cK, rfl, hP, hK, hPK, hb1⟩
  have hUP : Above (w.heap.size + 1) AP := fun a ha => by have := (hP.lt ha).1; omega
  have hlP : ∀ a, AP = some a → a.block < w1.heap.size := fun a ha => (hP.lt ha).2
  have hP' := hP.mono B0.size
  clear hP hK hPK
  replace X0 := X0.below hb1 X0.lt
  replace Z0 := Z0.below hb1 Z0.lt
  replace B0 := B0.trans (hb1.mono B0.size)
  have x0 := X0.cell 0
  have x1 := X0.cell 1
  have hz1 := Z0.lt
  have hx1 := X0.lt
  have hx2 : ¬ w.heap.size = w1.heap.size := by omega
  rw [HLn.out] at hP'
  rw [HLn.out, HLm.out]
  have HP := Lib.hid hP'
  have HPl := Lib.hid hlP
  have HUP := Lib.hid hUP
  clear hP' hlP hUP hb1
  go_wp2_with fail
  have hW0 : WoAt w w1.heap.size t n (fun x => memI l x.id) 0 (w1.alloc (.cells #[.slice AP n cP, .slice none 0 0] 25)) AP cP none 0 := by
    refine ⟨Blk.new w1 _ _, HP.out.alloc _, Own.none_ _ _ _ _, (fun _ _ _ h => by cases h), (fun a ha e => by have := HPl.out a ha; omega), (fun _ h => by cases h), HUP.out, (fun _ h => by cases h), B0.alloc B0.size _, Z0.alloc _, hz1⟩
  have HW0 := Lib.hid hW0
  clear hW0 x0 x1 X0 Z0 HPl HUP HP hx1 hx2
  generalize (w1.alloc (.cells #[.slice AP n cP, .slice none 0 0] 25)) = w2 at *
  go_loopw [17] (fun vi wr => ∃ (i : Nat) (AK : Option Addr) (cK : Nat), i ≤ m ∧ vi = .int .i64 i ∧ WoAt w w1.heap.size t n (fun x => memI l x.id) i wr AP cP AK cK)
    (fun vi _ => m - (intOf vi).toNat)
  case atStart => exact ⟨0, none, 0, by omega, rfl, HW0.out⟩
  case round =>
    obtain ⟨i, AK, cK, hi, rfl, hW⟩ := hrel
    have HW := Lib.hid hW
    clear hW
    by_cases hlt : i < m
    · obtain ⟨b, off, x, rfl, hbB, hx, hc0, hc1, hc2, hc3, hc4⟩ := (HT.out.links.below HW.out.bel).cell hlt
      have HX := Lib.hid hx
      clear hx
      go_wp2_with fail
      have X1 := Blk.new wr 45 #[.int .i64 x.id, .int .i64 x.fr, .int .i64 x.to, .int .i64 x.steps, .int .i64 x.paces]
      have hb1 : Below wr.heap.size wr (wr.alloc (.cells #[.int .i64 x.id, .int .i64 x.fr, .int .i64 x.to, .int .i64 x.steps, .int .i64 x.paces] 45)) := (Below.refl _ _).alloc (Nat.le_refl _) _
      have HW1 := Lib.hid (HW.out.below hb1)
      clear hc0 hc1 hc2 hc3 hc4 HW hb1
      generalize (wr.alloc (.cells #[.int .i64 x.id, .int .i64 x.fr, .int .i64 x.to, .int .i64 x.steps, .int .i64 x.paces] 45)) = w3 at *
      have x0 := X1.cell 0
      go_loop [8, 23] (fun vb vj => ∃ j : Nat, j ≤ k2 ∧ vj = .int .i64 j ∧ vb = .bool (memI (l.take j) x.id)) (fun _ vj => k2 - (intOf vj).toNat)
      case atStart => exact ⟨0, by omega, rfl, rfl⟩
      case round =>
        obtain ⟨j, hj, rfl, rfl⟩ := hrel
        by_cases hjl : j < k2
        · obtain ⟨b', off', y, rfl, hbB', hy, hd0⟩ := (HR.out.below HW1.out.bel).cell hjl
          have HS := Lib.hid (memI_snoc (x := x.id) hy)
          clear hy
          cases hm1 : memI (l.take j) x.id with
          | true =>
            have HM := Lib.hid hm1
            clear hm1
            go_wp2_with fail
            go_round
            case rel => exact ⟨j + 1, by omega, by go_num, by rw [HS.out, HM.out]; rfl⟩
            case measure => simp [intOf]; omega
          | false =>
            have HM := Lib.hid hm1
            clear hm1
            go_wp2_with fail
            go_round
            case rel => exact ⟨j + 1, by omega, by go_num, by rw [HS.out, HM.out]; rfl⟩
            case measure => simp [intOf]; omega
        · obtain rfl : j = k2 := by omega
          have hfull : memI (l.take j) x.id = memI l x.id := by rw [List.take_of_length_le (by have := HLk.out; omega)]
          have HFull := Lib.hid hfull
          clear hfull
          cases hm1 : memI (l.take j) x.id with
          | true =>
            have HM := Lib.hid hm1
            clear hm1
            go_wp2_with fail
            go_roundw
            case rel => exact ⟨i + 1, AK, cK, by omega, by go_num, HW1.out.skip HX.out (by show memI l x.id = true; rw [← HFull.out, HM.out])⟩
            case measure => simp [intOf]; omega
          | false =>
            have HM := Lib.hid hm1
            clear hm1
            have b1 := HW1.out.box.cell 1
            have x1 := X1.cell 1
            have x2 := X1.cell 2
            have x3 := X1.cell 3
            have x4 := X1.cell 4
            have hlen : ((t.links.take i).filter fun x => !memI l x.id).length ≤ i := by
              have h1 := List.length_filter_le (fun x : Link => !memI l x.id) (t.links.take i)
              have h2 := List.length_take_le i t.links
              omega
            have HLen := Lib.hid hlen
            have HS3 := Lib.hid HW1.out.bel.size
            clear hlen
            go_wp2_with (at_builtin; refine wpList_append_any _ rfl _ _ rfl elem_link rfl (HW1.out.links.alloc _) rfl (one_link (Blk.new w3 _ _) (Nat.lt_succ_self _)) (vals_one x) (by have := HLen.out; unfold maxLen; omega) (by have := HLen.out; omega) (by have := HS3.out; simp; omega) ?_)
            all_goals
              rintro A3 c3 W1 hown hg hA
              have HW2 := HW1.out.below ((Below.refl w3.heap.size w3).alloc (Nat.le_refl _) (.cells #[.int .i64 x.id, .int .i64 x.fr, .int .i64 x.to, .int .i64 x.steps, .int .i64 x.paces] 45))
              have HGrow := Lib.hid (show w3.grownBy W1 (AK.map (·.block)) from grown_trans (grown_of_below ((Below.refl w3.heap.size w3).alloc (Nat.le_refl _) (.cells #[.int .i64 x.id, .int .i64 x.fr, .int .i64 x.to, .int .i64 x.steps, .int .i64 x.paces] 45)) _) hg)
              have hrow : some w1.heap.size ≠ AK.map (·.block) := by
                intro e
                cases AK with
                | none => cases e
                | some a => exact HW1.out.boxK a rfl (Option.some.inj e).symm
              have hbox := HW1.out.box.grown HGrow.out hrow
              have q0 := hbox.frozen 1
              have q1 := hbox.cell 1
              have HA : Hid (A3 = AK ∨ ∃ b, w3.heap.size ≤ b ∧ A3 = some ⟨b, 0, none⟩) := by
                rcases hA with h | h
                · exact .inl h
                · exact .inr ⟨_, by simp, h⟩
              have HOwn := Lib.hid hown
              clear hown hg hA x0 x1 x2 x3 x4 b1 hbox hrow HW2
              go_wp2_with fail
              go_roundw
              case rel => exact ⟨i + 1, A3, c3, by omega, by go_num, by
                have h1 := HW1.out.keep HX.out (by show memI l x.id = false; rw [← HFull.out, HM.out]) HOwn.out HGrow.out HA.out
                exact h1⟩
              case measure => simp [intOf]; omega
    · obtain rfl : i = m := by omega
      have b0 := HW.out.box.cell 0
      have b1 := HW.out.box.cell 1
      have z0 := HW.out.zbox.cell 0
      have z1 := HW.out.zbox.cell 1
      have q0 := HW.out.zbox.frozen 0
      have q1 := HW.out.zbox.frozen 1
      go_wp2_with fail
      have hfin : ((t.links.take i).filter fun x => !memI l x.id) = (lessT t fun x => memI l x.id).links := by
        rw [List.take_of_length_le (by have := HLm.out; omega)]; rfl
      have HFin := Lib.hid hfin
      clear hfin
      have hs : ∀ (u v : Value), wr.grownBy ((wr.setCell ⟨w.heap.size + 1, 0, none⟩ u).setCell ⟨w.heap.size + 1, 1, none⟩ v) (some (w.heap.size + 1)) := fun u v => grown_setCell (grown_setCell (grown_refl _ _) (p := ⟨w.heap.size + 1, 0, none⟩) (.inl rfl) _) (p := ⟨w.heap.size + 1, 1, none⟩) (.inl rfl) _
      refine bodyPost_ret (v := .agg #[.slice AP n cP, .slice AK ((t.links.take i).filter fun x => !memI l x.id).length cK]) (by simp [results, Tryd.results64, go_sem, z0, z1]) rfl ?_
      refine ⟨AP, cP, AK, cK, ?_, ?_, ?_, HW.out.apart, (HW.out.bel.setCell (p := ⟨w.heap.size + 1, 0, none⟩) (Nat.le_succ _) _).setCell (p := ⟨w.heap.size + 1, 1, none⟩) (Nat.le_succ _) _⟩
      · rw [HFin.out, show (lessT t fun x => memI l x.id).places.length = n from HLn.out]
      · rw [show (lessT t fun x => memI l x.id).places.length = n from HLn.out]
        exact HW.out.places.grown (hs _ _) (fun a ha e => by have := HW.out.upP a ha; have := Option.some.inj e; omega)
      · rw [← HFin.out]
        exact HW.out.links.grown (hs _ _) (fun a ha e => by have := HW.out.upK a ha; have := Option.some.inj e; omega)
end Go.Proofs.YtahkjagjcogeiaaDoor
/- The answer's Need. -/
namespace Go.Proofs.YtahkjagjcogeiaaDoor
open Go.RowKit Go.Shelf
set_option linter.unusedVariables false

theorem less_20 {t : Town} {p : Link → Bool} (h : GoodT t) : (lessT t p).links.length ≤ 20 := Nat.le_trans (List.length_filter_le _ _) h.links
theorem without_one (A : Option Addr) (n c : Nat) (A' : Option Addr) (m d : Nat) (t : Town) (id : Int) (g : Nat) (w : World) (hn : n ≤ 1000) (hm : m ≤ 1000) (ht : TownAt w w.heap.size A n A' m t) (hg : Blk w g 3 #[.int .i64 id]) :
    Calls Tryd.prog 64 #[.agg #[.slice A n c, .slice A' m d], .slice (some ⟨g, 0, none⟩) 1 1] w fun e w' => TownOut w e w' (lessT t (ofOnly id)) := by
  have h := without_any A n c A' m d t (some ⟨g, 0, none⟩) 1 1 [id] w hn hm (by omega) ht (one_int hg.lt (hg.cell 0))
  have e : (fun x : Link => memI [id] x.id) = ofOnly id := by
    funext y
    unfold memI ofOnly
    rw [Bool.eq_iff_iff]
    simp
  rwa [e] at h

set_option maxRecDepth 100000 in
set_option maxHeartbeats 16000000 in
theorem rneed_in (A : Option Addr) (n c : Nat) (A' : Option Addr) (m d : Nat) (t : Town) (u v : Int) (dk : Bool) (w : World)
    (hn : n ≤ 1000) (hm : m ≤ 1000) (ht : TownAt w w.heap.size A n A' m t) :
    CallsIn Fence.wide 9 Tryd.prog 22 #[.agg #[.slice A n c, .slice A' m d], .int .i64 u, .int .i64 v, .bool dk] w (ListOut w (neededR t u v dk (idsOf t.links) ofOnly) (wayE t u v dk)) := by
  have HT := Lib.hid ht
  have HLn := Lib.hid ht.places.len
  have HLm := Lib.hid ht.links.len
  clear ht
  refine callsIn_of_wp Tryd.func22 rfl trivial ?_ rfl
  simp only [Tryd.ntmps22, List.size_toArray, List.length_cons, List.length_nil, Nat.reduceAdd, Nat.reduceSub, Array.replicate_succ, Array.replicate_zero, List.push_toArray, List.append_toArray, List.nil_append, List.cons_append]
  gi_wp2
  have HLay := Lib.hid (Lay.one w 25 #[.slice A n c, .slice A' m d])
  generalize (w.alloc (.cells #[.slice A n c, .slice A' m d] 25)) = w0 at *
  refine ⟨trivial, (callsIn_wide.2 (rasked_any A n c A' m d t u v w0 hn hm ((HT.out.below HLay.out.1).more HLay.out.1.size))).mono ?_⟩
  rintro e W1 ⟨rfl, hb⟩
  replace HLay := Lib.hid (HLay.out.below hb)
  clear hb
  obtain ⟨ea, hea⟩ : ∃ ea, askE t [u, v] = ea := ⟨_, rfl⟩
  rw [hea]
  have HEA := Lib.hid hea
  clear hea
  have x0_0 := (HLay.out.blk 0 rfl).cell 0
  have x0_1 := (HLay.out.blk 0 rfl).cell 1
  have l0_ := HLay.out.lt 0 rfl
  by_cases h0 : ea = 0
  · subst h0
    obtain ⟨htb, hhas⟩ := askE_zero HEA.out
    have HTB := Lib.hid htb
    have HG := Lib.hid (goodT htb)
    have HUV := Lib.hid (hasB_mem hhas)
    have hm20 : m ≤ 20 := by have := HG.out.links; have := HT.out.links.len; omega
    clear htb hhas
    gi_wp2
    clear x0_0 x0_1 l0_
    refine ⟨trivial, (callsIn_wide.2 (rhas_any A n c A' m d t u v dk W1 hm20 ((HT.out.below HLay.out.1).more HLay.out.1.size) HG.out (HUV.out u (by simp)))).mono ?_⟩
    rintro e W2 ⟨rfl, hb⟩
    replace HLay := Lib.hid (HLay.out.below hb)
    clear hb
    obtain ⟨bb, hbb⟩ : ∃ b, (best t dk freeP u v).isSome = b := ⟨_, rfl⟩
    rw [hbb]
    have HBB := Lib.hid hbb
    clear hbb
    cases bb with
    | false =>
      gi_wp2
      have hw : wayE t u v dk = 6 := by unfold wayE; rw [if_pos HEA.out, HBB.out]; rfl
      have hr : neededR t u v dk (idsOf t.links) ofOnly = [] := by unfold neededR; rw [if_neg (by rw [hw]; decide)]
      refine bodyPost_ret (v := .tuple #[.slice none 0 0, .int .i64 6]) (by simp [results, Tryd.results22, go_sem]) rfl ?_
      rw [hr, hw]
      exact ⟨none, 0, 0, rfl, Reads.none_, HLay.out.1⟩
    | true =>
      have HWE := Lib.hid (show wayE t u v dk = 0 by unfold wayE; rw [if_pos HEA.out, HBB.out]; rfl)
      have x0_0 := (HLay.out.blk 0 rfl).cell 0
      have x0_1 := (HLay.out.blk 0 rfl).cell 1
      have l0_ := HLay.out.lt 0 rfl
      gi_wp2
      clear x0_0 x0_1 l0_
      gi_loopw [11, 30] (fun v11 v30 wr => ∃ (k : Nat) (B : Option Addr) (q : Nat), k ≤ m ∧ v30 = .int .i64 k ∧ v11 = .slice B (neededL t u v dk ((idsOf t.links).take k) ofOnly).length q ∧ Hid (Own wr W2.heap.size 3 1 B (neededL t u v dk ((idsOf t.links).take k) ofOnly).length q ((neededL t u v dk ((idsOf t.links).take k) ofOnly).map (Value.int .i64)) ∧ Below W2.heap.size W2 wr))
        (fun _ vi _ => m - (intOf vi).toNat)
      case atStart => exact ⟨0, none, 0, by omega, rfl, rfl, Lib.hid ⟨Own.none_ _ _ _ _, Below.refl _ _⟩⟩
      case round =>
        obtain ⟨k, B, q, hk, rfl, rfl, HS⟩ := hrel
        rename World => wr
        replace HLay := Lib.hid (HLay.out.below HS.out.2)
        have HO := Lib.hid HS.out.1
        have HB := Lib.hid HS.out.2
        have hge := HLay.out.1.size
        clear HS
        have hkl : (neededL t u v dk ((idsOf t.links).take k) ofOnly).length ≤ k := by have := needed_len t u v dk ((idsOf t.links).take k) ofOnly; rw [List.length_take] at this; omega
        by_cases hlt : k < m
        · obtain ⟨b, off, x, rfl, hbB, hx, hc0, hc1, hc2, hc3, hc4⟩ := (HT.out.links.below HLay.out.1).cell hlt
          have HX := Lib.hid (show (idsOf t.links)[k]? = some x.id by unfold idsOf; rw [List.getElem?_map, hx]; rfl)
          clear hx
          have x0_0 := (HLay.out.blk 0 rfl).cell 0
          have x0_1 := (HLay.out.blk 0 rfl).cell 1
          have l0_ := HLay.out.lt 0 rfl
          gi_wp2
          clear x0_0 x0_1 l0_
          clear hc0 hc1 hc2 hc3 hc4
          have hb : Below wr.heap.size wr ((wr.alloc (.cells #[.int .i64 x.id, .int .i64 x.fr, .int .i64 x.to, .int .i64 x.steps, .int .i64 x.paces] 45)).alloc (.cells #[.int .i64 x.id] 3)) := ((Below.refl _ _).alloc (Nat.le_refl _) _).alloc (by simp) _
          have X1 := (Blk.new wr 45 #[.int .i64 x.id, .int .i64 x.fr, .int .i64 x.to, .int .i64 x.steps, .int .i64 x.paces]).alloc (.cells #[.int .i64 x.id] 3)
          have X2 : Blk ((wr.alloc (.cells #[.int .i64 x.id, .int .i64 x.fr, .int .i64 x.to, .int .i64 x.steps, .int .i64 x.paces] 45)).alloc (.cells #[.int .i64 x.id] 3)) (wr.heap.size + 1) 3 #[.int .i64 x.id] := by
            have h := Blk.new (wr.alloc (.cells #[.int .i64 x.id, .int .i64 x.fr, .int .i64 x.to, .int .i64 x.steps, .int .i64 x.paces] 45)) 3 #[.int .i64 x.id]
            rwa [World.size_alloc] at h
          replace HLay := Lib.hid (((HLay.out.below hb).add hge X1).add (Nat.le_succ_of_le hge) X2)
          replace HO := Lib.hid (HO.out.below hb (Nat.le_refl _))
          replace HB := Lib.hid (HB.out.trans (hb.mono HB.out.size))
          generalize ((wr.alloc (.cells #[.int .i64 x.id, .int .i64 x.fr, .int .i64 x.to, .int .i64 x.steps, .int .i64 x.paces] 45)).alloc (.cells #[.int .i64 x.id] 3)) = W5 at *
          replace HLay := Lib.hid (show Lay w W5 [(w.heap.size, 25, #[.slice A n c, .slice (some ⟨b, off, none⟩) m d]), (wr.heap.size, 45, #[.int .i64 x.id, .int .i64 x.fr, .int .i64 x.to, .int .i64 x.steps, .int .i64 x.paces]), (wr.heap.size + 1, 3, #[.int .i64 x.id])] from HLay.out)
          clear hb X1 X2
          refine ⟨trivial, (callsIn_wide.2 (without_one A n c (some ⟨b, off, none⟩) m d t x.id (wr.heap.size + 1) W5 hn hm ((HT.out.below HLay.out.1).more HLay.out.1.size) (HLay.out.blk 2 rfl))).mono ?_⟩
          rintro e W41 ⟨AP, cP, AK, cK, rfl, hP, hK, hap, hb⟩
          replace HLay := Lib.hid (HLay.out.below hb)
          replace HO := Lib.hid (HO.out.below hb (Nat.le_refl _))
          replace HB := Lib.hid (HB.out.trans (hb.mono HB.out.size))
          clear hb
          have HP := Lib.hid hP
          have HK := Lib.hid hK
          clear hP hK hap
          gi_wp2
          refine ⟨trivial, (callsIn_wide.2 (rhas_any AP _ cP AK _ cK (lessT t (ofOnly x.id)) u v dk W41 (less_20 HG.out) ⟨ints_of_own HP.out (Nat.le_refl _), links_of_own HK.out (Nat.le_refl _)⟩ (goodT (townB_less HTB.out)) (HUV.out u (by simp)))).mono ?_⟩
          rintro e W42 ⟨rfl, hb⟩
          replace HLay := Lib.hid (HLay.out.below hb)
          replace HO := Lib.hid (HO.out.below hb (Nat.le_refl _))
          replace HB := Lib.hid (HB.out.trans (hb.mono HB.out.size))
          replace HP := Lib.hid (HP.out.below hb (Nat.le_refl _))
          replace HK := Lib.hid (HK.out.below hb (Nat.le_refl _))
          clear hb
          obtain ⟨gb, hgb⟩ : ∃ b, (best (lessT t (ofOnly x.id)) dk freeP u v).isSome = b := ⟨_, rfl⟩
          rw [hgb]
          have HGB := Lib.hid (show goneB t u v dk (ofOnly x.id) = !gb by unfold goneB; rw [hgb])
          clear hgb
          cases gb with
          | false =>
            have HOW := Lib.hid (HO.out.alloc (.cells #[.int .i64 x.id] 3))
            have HOB : Hid (Blk (W42.alloc (.cells #[.int .i64 x.id] 3)) W42.heap.size 3 #[.int .i64 x.id]) := Lib.hid (Blk.new _ _ _)
            have HB6 := Lib.hid (HB.out.alloc HB.out.size (.cells #[.int .i64 x.id] 3))
            have x1_0 := (HLay.out.blk 1 rfl).cell 0
            have x1_1 := (HLay.out.blk 1 rfl).cell 1
            have x1_2 := (HLay.out.blk 1 rfl).cell 2
            have x1_3 := (HLay.out.blk 1 rfl).cell 3
            have x1_4 := (HLay.out.blk 1 rfl).cell 4
            have l1_ := HLay.out.lt 1 rfl
            gi_wp2_with (first | (gi_at_builtin; refine wpListIn_append_any rfl (.tmp 44) (.tmp 47) (by rfl) elem_int rfl HOW.out rfl (one_int (x := x.id) HOB.out.lt (HOB.out.cell 0)) (ints_one _) (by unfold maxLen; omega) (by omega) HB6.out.size ?_) | fail)
            rintro A8 c8 W8 hown hgr hA8
            have HO8 := Lib.hid hown
            have HB8 := Lib.hid (HB6.out.grown hgr HB6.out.size (fun j hj => own_row HOW.out hj))
            clear hown hgr hA8
            clear x1_0 x1_1 x1_2 x1_3 x1_4 l1_
            gi_wp2
            go_roundw
            case rel =>
              have he := needed_succ (t := t) (u := u) (v := v) (dk := dk) (of := ofOnly) HX.out HGB.out
              refine ⟨k + 1, A8, c8, by omega, by go_num, by rw [he]; simp, Lib.hid ⟨?_, HB8.out⟩⟩
              rw [he]
              have h := HO8.out
              simpa using h
            case measure => simp [intOf]; omega
          | true =>
            gi_wp2
            go_roundw
            case rel =>
              have he := needed_skip (t := t) (u := u) (v := v) (dk := dk) (of := ofOnly) HX.out HGB.out
              refine ⟨k + 1, B, q, by omega, by go_num, by rw [he], Lib.hid ⟨?_, HB.out⟩⟩
              rw [he]
              exact HO.out
            case measure => simp [intOf]; omega
        · obtain rfl : k = m := by omega
          gi_wp2
          have hl : neededL t u v dk ((idsOf t.links).take k) ofOnly = neededR t u v dk (idsOf t.links) ofOnly := by unfold neededR; rw [if_pos HWE.out]; rw [List.take_of_length_le (by unfold idsOf; rw [List.length_map, HLm.out]; exact Nat.le_refl _)]
          rw [hl]
          have hO := HO.out
          rw [hl] at hO
          refine bodyPost_ret (v := .tuple #[.slice B (neededR t u v dk (idsOf t.links) ofOnly).length q, .int .i64 0]) (by simp [results, Tryd.results22, go_sem]) rfl ?_
          rw [HWE.out]
          exact ⟨B, _, q, rfl, ints_of_own hO (Nat.le_refl _), HLay.out.1⟩
  · have h1 : (ea != 0) = true := by simpa using h0
    have HE0 := Lib.hid h0
    clear h0
    gi_wp2
    clear x0_0 x0_1 l0_
    have hw : wayE t u v dk = ea := (way_bad (t := t) (u := u) (v := v) (dk := dk) HEA.out HE0.out).1
    have hr : neededR t u v dk (idsOf t.links) ofOnly = [] := by unfold neededR; rw [if_neg (by rw [hw]; exact HE0.out)]
    refine bodyPost_ret (v := .tuple #[.slice none 0 0, .int .i64 ea]) (by simp [results, Tryd.results22, go_sem]) rfl ?_
    rw [hr, hw]
    exact ⟨none, 0, 0, rfl, Reads.none_, HLay.out.1⟩

theorem rneed_any (A : Option Addr) (n c : Nat) (A' : Option Addr) (m d : Nat) (t : Town) (u v : Int) (dk : Bool) (w : World)
    (hn : n ≤ 1000) (hm : m ≤ 1000) (ht : TownAt w w.heap.size A n A' m t) :
    Calls Tryd.prog 22 #[.agg #[.slice A n c, .slice A' m d], .int .i64 u, .int .i64 v, .bool dk] w (ListOut w (neededR t u v dk (idsOf t.links) ofOnly) (wayE t u v dk)) :=
  callsIn_wide.1 (rneed_in A n c A' m d t u v dk w hn hm ht)
end Go.Proofs.YtahkjagjcogeiaaDoor
/- The answer's Shut. -/
namespace Go.Proofs.YtahkjagjcogeiaaDoor
open Go.RowKit
set_option linter.unusedVariables false

set_option maxRecDepth 100000 in
set_option maxHeartbeats 4000000 in
theorem shut_any (A : Option Addr) (n c : Nat) (A' : Option Addr) (m d : Nat) (t : Town) (place : Int) (w : World) (hn : n ≤ 1000) (hm : m ≤ 1000) (ht : TownAt w w.heap.size A n A' m t) :
    Calls Tryd.prog 78 #[.agg #[.slice A n c, .slice A' m d], .int .i64 place] w fun e w' => TownOut w e w' (lessT t (ofGate place)) := by
  have HT := Lib.hid ht
  have HLn := Lib.hid ht.places.len
  have HLm := Lib.hid ht.links.len
  clear ht
  go_enter Tryd.func78, Tryd.ntmps78
  go_wp2_with fail
  have X0 := (Blk.new w 25 #[.slice A n c, .slice A' m d]).alloc (.cells #[.slice none 0 0, .slice none 0 0] 25)
  have Z0 := Blk.new (w.alloc (.cells #[.slice A n c, .slice A' m d] 25)) 25 #[.slice none 0 0, .slice none 0 0]
  have B0 : Below w.heap.size w ((w.alloc (.cells #[.slice A n c, .slice A' m d] 25)).alloc (.cells #[.slice none 0 0, .slice none 0 0] 25)) := ((Below.refl _ _).alloc (Nat.le_refl _) _).alloc (by simp) _
  rw [World.size_alloc] at Z0
  generalize ((w.alloc (.cells #[.slice A n c, .slice A' m d] 25)).alloc (.cells #[.slice none 0 0, .slice none 0 0] 25)) = w0 at *
  have hz0 := Z0.lt
  with_reducible refine (twin_any A n c A' m d t w0 hn hm ((HT.out.below B0).more B0.size)).mono ?_
  rintro e w1 ⟨AP, cP, AK, cK, rfl, hP, hK, hPK, hb1⟩
  have hUP : Above (w.heap.size + 1) AP := fun a ha => by have := (hP.lt ha).1; omega
  have hlP : ∀ a, AP = some a → a.block < w1.heap.size := fun a ha => (hP.lt ha).2
  have hP' := hP.mono B0.size
  clear hP hK hPK
  replace X0 := X0.below hb1 X0.lt
  replace Z0 := Z0.below hb1 Z0.lt
  replace B0 := B0.trans (hb1.mono B0.size)
  have x0 := X0.cell 0
  have x1 := X0.cell 1
  have hz1 := Z0.lt
  have hx1 := X0.lt
  have hx2 : ¬ w.heap.size = w1.heap.size := by omega
  rw [HLn.out] at hP'
  rw [HLn.out, HLm.out]
  have HP := Lib.hid hP'
  have HPl := Lib.hid hlP
  have HUP := Lib.hid hUP
  clear hP' hlP hUP hb1
  go_wp2_with fail
  have hW0 : WoAt w w1.heap.size t n (ofGate place) 0 (w1.alloc (.cells #[.slice AP n cP, .slice none 0 0] 25)) AP cP none 0 := by
    refine ⟨Blk.new w1 _ _, HP.out.alloc _, Own.none_ _ _ _ _, (fun _ _ _ h => by cases h), (fun a ha e => by have := HPl.out a ha; omega), (fun _ h => by cases h), HUP.out, (fun _ h => by cases h), B0.alloc B0.size _, Z0.alloc _, hz1⟩
  have HW0 := Lib.hid hW0
  clear hW0 x0 x1 X0 Z0 HPl HUP HP hx1 hx2
  generalize (w1.alloc (.cells #[.slice AP n cP, .slice none 0 0] 25)) = w2 at *
  go_loopw [14] (fun vi wr => ∃ (i : Nat) (AK : Option Addr) (cK : Nat), i ≤ m ∧ vi = .int .i64 i ∧ WoAt w w1.heap.size t n (ofGate place) i wr AP cP AK cK)
    (fun vi _ => m - (intOf vi).toNat)
  case atStart => exact ⟨0, none, 0, by omega, rfl, HW0.out⟩
  case round =>
    obtain ⟨i, AK, cK, hi, rfl, hW⟩ := hrel
    have HW := Lib.hid hW
    clear hW
    by_cases hlt : i < m
    · obtain ⟨b, off, x, rfl, hbB, hx, hc0, hc1, hc2, hc3, hc4⟩ := (HT.out.links.below HW.out.bel).cell hlt
      have HX := Lib.hid hx
      clear hx
      go_upto_region 6 with fail
      have X1 := Blk.new wr 45 #[.int .i64 x.id, .int .i64 x.fr, .int .i64 x.to, .int .i64 x.steps, .int .i64 x.paces]
      have hb1 : Below wr.heap.size wr (wr.alloc (.cells #[.int .i64 x.id, .int .i64 x.fr, .int .i64 x.to, .int .i64 x.steps, .int .i64 x.paces] 45)) := (Below.refl _ _).alloc (Nat.le_refl _) _
      have HW1 := Lib.hid (HW.out.below hb1)
      clear hc0 hc1 hc2 hc3 hc4 HW hb1
      generalize (wr.alloc (.cells #[.int .i64 x.id, .int .i64 x.fr, .int .i64 x.to, .int .i64 x.steps, .int .i64 x.paces] 45)) = w3 at *
      have x0 := X1.cell 0
      have x1 := X1.cell 1
      have x2 := X1.cell 2
      have x3 := X1.cell 3
      have x4 := X1.cell 4
      have hxl := X1.lt
      cases hfr : (x.fr == place) with
      | true =>
        have hfr' : (x.fr != place) = false := by simp only [bne, hfr]; rfl
        have HP := Lib.hid (show ofGate place x = true by unfold ofGate; rw [hfr]; rfl)
        clear hfr
        go_wp2_with fail
        go_roundw
        case rel => exact ⟨i + 1, AK, cK, by omega, by go_num, HW1.out.skip HX.out HP.out⟩
        case measure => simp [intOf]; omega
      | false =>
        have hfr' : (x.fr != place) = true := by simp only [bne, hfr]; rfl
        cases hto : (x.to == place) with
        | true =>
          have hto' : (x.to != place) = false := by simp only [bne, hto]; rfl
          have HP := Lib.hid (show ofGate place x = true by unfold ofGate; rw [hto]; simp)
          clear hfr hto
          go_wp2_with fail
          go_roundw
          case rel => exact ⟨i + 1, AK, cK, by omega, by go_num, HW1.out.skip HX.out HP.out⟩
          case measure => simp [intOf]; omega
        | false =>
          have hto' : (x.to != place) = true := by simp only [bne, hto]; rfl
          have HP := Lib.hid (show ofGate place x = false by unfold ofGate; rw [hfr, hto]; rfl)
          clear hfr hto
          have b1 := HW1.out.box.cell 1
          have hlen : ((t.links.take i).filter fun x => !ofGate place x).length ≤ i := by
            have h1 := List.length_filter_le (fun x : Link => !ofGate place x) (t.links.take i)
            have h2 := List.length_take_le i t.links
            omega
          have HLen := Lib.hid hlen
          have HS3 := Lib.hid HW1.out.bel.size
          clear hlen
          go_wp2_with (at_builtin; refine wpList_append_any _ rfl _ _ rfl elem_link rfl (HW1.out.links.alloc _) rfl (one_link (Blk.new w3 _ _) (Nat.lt_succ_self _)) (vals_one x) (by have := HLen.out; unfold maxLen; omega) (by have := HLen.out; omega) (by have := HS3.out; simp; omega) ?_)
          all_goals
            rintro A3 c3 W1 hown hg hA
            have HW2 := HW1.out.below ((Below.refl w3.heap.size w3).alloc (Nat.le_refl _) (.cells #[.int .i64 x.id, .int .i64 x.fr, .int .i64 x.to, .int .i64 x.steps, .int .i64 x.paces] 45))
            have HGrow := Lib.hid (show w3.grownBy W1 (AK.map (·.block)) from grown_trans (grown_of_below ((Below.refl w3.heap.size w3).alloc (Nat.le_refl _) (.cells #[.int .i64 x.id, .int .i64 x.fr, .int .i64 x.to, .int .i64 x.steps, .int .i64 x.paces] 45)) _) hg)
            have hrow : some w1.heap.size ≠ AK.map (·.block) := by
              intro e
              cases AK with
              | none => cases e
              | some a => exact HW1.out.boxK a rfl (Option.some.inj e).symm
            have hbox := HW1.out.box.grown HGrow.out hrow
            have q0 := hbox.frozen 1
            have q1 := hbox.cell 1
            have HA : Hid (A3 = AK ∨ ∃ b, w3.heap.size ≤ b ∧ A3 = some ⟨b, 0, none⟩) := by
              rcases hA with h | h
              · exact .inl h
              · exact .inr ⟨_, by simp, h⟩
            have HOwn := Lib.hid hown
            clear hown hg hA x0 x1 x2 x3 x4 b1 hbox hrow HW2 hxl
            go_wp2_with fail
            go_roundw
            case rel => exact ⟨i + 1, A3, c3, by omega, by go_num, by
              have h1 := HW1.out.keep HX.out (HP.out) HOwn.out HGrow.out HA.out
              exact h1⟩
            case measure => simp [intOf]; omega
    · obtain rfl : i = m := by omega
      have b0 := HW.out.box.cell 0
      have b1 := HW.out.box.cell 1
      have z0 := HW.out.zbox.cell 0
      have z1 := HW.out.zbox.cell 1
      have q0 := HW.out.zbox.frozen 0
      have q1 := HW.out.zbox.frozen 1
      go_wp2_with fail
      have hfin : ((t.links.take i).filter fun x => !ofGate place x) = (lessT t (ofGate place)).links := by
        rw [List.take_of_length_le (by have := HLm.out; omega)]; rfl
      have HFin := Lib.hid hfin
      clear hfin
      have hs : ∀ (u v : Value), wr.grownBy ((wr.setCell ⟨w.heap.size + 1, 0, none⟩ u).setCell ⟨w.heap.size + 1, 1, none⟩ v) (some (w.heap.size + 1)) := fun u v => grown_setCell (grown_setCell (grown_refl _ _) (p := ⟨w.heap.size + 1, 0, none⟩) (.inl rfl) _) (p := ⟨w.heap.size + 1, 1, none⟩) (.inl rfl) _
      refine bodyPost_ret (v := .agg #[.slice AP n cP, .slice AK ((t.links.take i).filter fun x => !ofGate place x).length cK]) (by simp [results, Tryd.results78, go_sem, z0, z1]) rfl ?_
      refine ⟨AP, cP, AK, cK, ?_, ?_, ?_, HW.out.apart, (HW.out.bel.setCell (p := ⟨w.heap.size + 1, 0, none⟩) (Nat.le_succ _) _).setCell (p := ⟨w.heap.size + 1, 1, none⟩) (Nat.le_succ _) _⟩
      · rw [HFin.out, show (lessT t (ofGate place)).places.length = n from HLn.out]
      · rw [show (lessT t (ofGate place)).places.length = n from HLn.out]
        exact HW.out.places.grown (hs _ _) (fun a ha e => by have := HW.out.upP a ha; have := Option.some.inj e; omega)
      · rw [← HFin.out]
        exact HW.out.links.grown (hs _ _) (fun a ha e => by have := HW.out.upK a ha; have := Option.some.inj e; omega)
end Go.Proofs.YtahkjagjcogeiaaDoor
/- The answer's Gate. -/
namespace Go.Proofs.YtahkjagjcogeiaaDoor
open Go.RowKit Go.Shelf
set_option linter.unusedVariables false

def othersK (t : Town) (u v : Int) (k : Nat) : List Int := (t.places.take k).filter fun x => !inUV u v x
theorem othersK_succ {t : Town} {u v x : Int} {k : Nat} (hx : t.places[k]? = some x) : othersK t u v (k + 1) = othersK t u v k ++ (if inUV u v x then [] else [x]) := by
  obtain ⟨hk, rfl⟩ := List.getElem?_eq_some_iff.1 hx
  unfold othersK
  rw [List.take_succ_eq_append_getElem hk, List.filter_append]
  cases h : inUV u v t.places[k] <;> simp [h]
theorem others_skip {t : Town} {u v x : Int} {dk : Bool} {k : Nat} (hx : t.places[k]? = some x) (hi : inUV u v x = true) : neededL t u v dk (othersK t u v (k + 1)) ofGate = neededL t u v dk (othersK t u v k) ofGate := by
  rw [othersK_succ hx, if_pos hi, List.append_nil]
theorem others_gone {t : Town} {u v x : Int} {dk : Bool} {k : Nat} (hx : t.places[k]? = some x) (hi : inUV u v x = false) (hg : goneB t u v dk (ofGate x) = true) : neededL t u v dk (othersK t u v (k + 1)) ofGate = neededL t u v dk (othersK t u v k) ofGate ++ [x] := by
  rw [othersK_succ hx, if_neg (by rw [hi]; decide)]
  unfold neededL
  rw [List.filter_append]
  simp [hg]
theorem others_left {t : Town} {u v x : Int} {dk : Bool} {k : Nat} (hx : t.places[k]? = some x) (hi : inUV u v x = false) (hg : goneB t u v dk (ofGate x) = false) : neededL t u v dk (othersK t u v (k + 1)) ofGate = neededL t u v dk (othersK t u v k) ofGate := by
  rw [othersK_succ hx, if_neg (by rw [hi]; decide)]
  unfold neededL
  rw [List.filter_append]
  simp [hg]

set_option maxRecDepth 100000 in
set_option maxHeartbeats 16000000 in
theorem rgate_in (A : Option Addr) (n c : Nat) (A' : Option Addr) (m d : Nat) (t : Town) (u v : Int) (dk : Bool) (w : World)
    (hn : n ≤ 1000) (hm : m ≤ 1000) (ht : TownAt w w.heap.size A n A' m t) :
    CallsIn Fence.wide 9 Tryd.prog 24 #[.agg #[.slice A n c, .slice A' m d], .int .i64 u, .int .i64 v, .bool dk] w (ListOut w (neededR t u v dk (othersL t u v) ofGate) (wayE t u v dk)) := by
  have HT := Lib.hid ht
  have HLn := Lib.hid ht.places.len
  have HLm := Lib.hid ht.links.len
  clear ht
  refine callsIn_of_wp Tryd.func24 rfl trivial ?_ rfl
  simp only [Tryd.ntmps24, List.size_toArray, List.length_cons, List.length_nil, Nat.reduceAdd, Nat.reduceSub, Array.replicate_succ, Array.replicate_zero, List.push_toArray, List.append_toArray, List.nil_append, List.cons_append]
  gi_wp2
  have HLay := Lib.hid (Lay.one w 25 #[.slice A n c, .slice A' m d])
  generalize (w.alloc (.cells #[.slice A n c, .slice A' m d] 25)) = w0 at *
  refine ⟨trivial, (callsIn_wide.2 (rasked_any A n c A' m d t u v w0 hn hm ((HT.out.below HLay.out.1).more HLay.out.1.size))).mono ?_⟩
  rintro e W1 ⟨rfl, hb⟩
  replace HLay := Lib.hid (HLay.out.below hb)
  clear hb
  obtain ⟨ea, hea⟩ : ∃ ea, askE t [u, v] = ea := ⟨_, rfl⟩
  rw [hea]
  have HEA := Lib.hid hea
  clear hea
  have x0_0 := (HLay.out.blk 0 rfl).cell 0
  have x0_1 := (HLay.out.blk 0 rfl).cell 1
  have l0_ := HLay.out.lt 0 rfl
  by_cases h0 : ea = 0
  · subst h0
    obtain ⟨htb, hhas⟩ := askE_zero HEA.out
    have HTB := Lib.hid htb
    have HG := Lib.hid (goodT htb)
    have HUV := Lib.hid (hasB_mem hhas)
    have hm20 : m ≤ 20 := by have := HG.out.links; have := HT.out.links.len; omega
    clear htb hhas
    gi_wp2
    clear x0_0 x0_1 l0_
    refine ⟨trivial, (callsIn_wide.2 (rhas_any A n c A' m d t u v dk W1 hm20 ((HT.out.below HLay.out.1).more HLay.out.1.size) HG.out (HUV.out u (by simp)))).mono ?_⟩
    rintro e W2 ⟨rfl, hb⟩
    replace HLay := Lib.hid (HLay.out.below hb)
    clear hb
    obtain ⟨bb, hbb⟩ : ∃ b, (best t dk freeP u v).isSome = b := ⟨_, rfl⟩
    rw [hbb]
    have HBB := Lib.hid hbb
    clear hbb
    cases bb with
    | false =>
      gi_wp2
      have hw : wayE t u v dk = 6 := by unfold wayE; rw [if_pos HEA.out, HBB.out]; rfl
      have hr : neededR t u v dk (othersL t u v) ofGate = [] := by unfold neededR; rw [if_neg (by rw [hw]; decide)]
      refine bodyPost_ret (v := .tuple #[.slice none 0 0, .int .i64 6]) (by simp [results, Tryd.results24, go_sem]) rfl ?_
      rw [hr, hw]
      exact ⟨none, 0, 0, rfl, Reads.none_, HLay.out.1⟩
    | true =>
      have HWE := Lib.hid (show wayE t u v dk = 0 by unfold wayE; rw [if_pos HEA.out, HBB.out]; rfl)
      have x0_0 := (HLay.out.blk 0 rfl).cell 0
      have x0_1 := (HLay.out.blk 0 rfl).cell 1
      have l0_ := HLay.out.lt 0 rfl
      gi_wp2
      clear x0_0 x0_1 l0_
      gi_loopw [11, 30] (fun v11 v30 wr => ∃ (k : Nat) (B : Option Addr) (q : Nat), k ≤ n ∧ v30 = .int .i64 k ∧ v11 = .slice B (neededL t u v dk (othersK t u v k) ofGate).length q ∧ Hid (Own wr W2.heap.size 3 1 B (neededL t u v dk (othersK t u v k) ofGate).length q ((neededL t u v dk (othersK t u v k) ofGate).map (Value.int .i64)) ∧ Below W2.heap.size W2 wr))
        (fun _ vi _ => n - (intOf vi).toNat)
      case atStart => exact ⟨0, none, 0, by omega, rfl, rfl, Lib.hid ⟨Own.none_ _ _ _ _, Below.refl _ _⟩⟩
      case round =>
        obtain ⟨k, B, q, hk, rfl, rfl, HS⟩ := hrel
        rename World => wr
        replace HLay := Lib.hid (HLay.out.below HS.out.2)
        have HO := Lib.hid HS.out.1
        have HB := Lib.hid HS.out.2
        have hge := HLay.out.1.size
        clear HS
        have hkl : (neededL t u v dk (othersK t u v k) ofGate).length ≤ k := by have h1 := needed_len t u v dk (othersK t u v k) ofGate; have h2 : (othersK t u v k).length ≤ (t.places.take k).length := List.length_filter_le _ _; rw [List.length_take] at h2; omega
        by_cases hlt : k < n
        · obtain ⟨b, off, x, rfl, hbB, hx, hc⟩ := (HT.out.places.below HLay.out.1).cell hlt
          have HX := Lib.hid hx
          clear hx
          cases hxu : (x == u) with
          | true =>
            have hxe : u = x := (show x = u by simpa using hxu).symm
            clear hxu
            subst hxe
            have hs : (u != u) = false := by simp
            have HIN := Lib.hid (show inUV u v u = true by unfold inUV; simp)
            have x0_0 := (HLay.out.blk 0 rfl).cell 0
            have x0_1 := (HLay.out.blk 0 rfl).cell 1
            have l0_ := HLay.out.lt 0 rfl
            gi_wp2
            refine ⟨trivial, ?_⟩
            gi_wp2
            refine ⟨trivial, ?_⟩
            gi_wp2
            clear x0_0 x0_1 l0_
            go_roundw
            case rel =>
              have he := others_skip (dk := dk) HX.out HIN.out
              refine ⟨k + 1, B, q, by omega, by go_num, by rw [he], Lib.hid ⟨?_, HB.out⟩⟩
              rw [he]
              exact HO.out
            case measure => simp [intOf]; omega
          | false =>
          have hxu' : (x != u) = true := by simp only [bne, hxu]; rfl
          cases hxv : (x == v) with
          | true =>
            have hxe : v = x := (show x = v by simpa using hxv).symm
            clear hxu hxv
            subst hxe
            have hs : (v != v) = false := by simp
            have HIN := Lib.hid (show inUV u v v = true by unfold inUV; simp)
            have x0_0 := (HLay.out.blk 0 rfl).cell 0
            have x0_1 := (HLay.out.blk 0 rfl).cell 1
            have l0_ := HLay.out.lt 0 rfl
            gi_wp2
            refine ⟨trivial, ?_⟩
            gi_wp2
            refine ⟨trivial, ?_⟩
            gi_wp2
            clear x0_0 x0_1 l0_
            go_roundw
            case rel =>
              have he := others_skip (dk := dk) HX.out HIN.out
              refine ⟨k + 1, B, q, by omega, by go_num, by rw [he], Lib.hid ⟨?_, HB.out⟩⟩
              rw [he]
              exact HO.out
            case measure => simp [intOf]; omega
          | false =>
          have hxv' : (x != v) = true := by simp only [bne, hxv]; rfl
          have HIN := Lib.hid (show inUV u v x = false by unfold inUV; rw [hxu, hxv]; rfl)
          clear hxu hxv
          have x0_0 := (HLay.out.blk 0 rfl).cell 0
          have x0_1 := (HLay.out.blk 0 rfl).cell 1
          have l0_ := HLay.out.lt 0 rfl
          gi_wp2
          clear x0_0 x0_1 l0_
          clear hc
          refine ⟨trivial, (callsIn_wide.2 (shut_any (some ⟨b, off, none⟩) n c A' m d t x wr hn hm ((HT.out.below HLay.out.1).more HLay.out.1.size))).mono ?_⟩
          rintro e W41 ⟨AP, cP, AK, cK, rfl, hP, hK, hap, hb⟩
          replace HLay := Lib.hid (HLay.out.below hb)
          replace HO := Lib.hid (HO.out.below hb (Nat.le_refl _))
          replace HB := Lib.hid (HB.out.trans (hb.mono HB.out.size))
          clear hb
          have HP := Lib.hid hP
          have HK := Lib.hid hK
          clear hP hK hap
          gi_wp2
          refine ⟨trivial, (callsIn_wide.2 (rhas_any AP _ cP AK _ cK (lessT t (ofGate x)) u v dk W41 (less_20 HG.out) ⟨ints_of_own HP.out (Nat.le_refl _), links_of_own HK.out (Nat.le_refl _)⟩ (goodT (townB_less HTB.out)) (HUV.out u (by simp)))).mono ?_⟩
          rintro e W42 ⟨rfl, hb⟩
          replace HLay := Lib.hid (HLay.out.below hb)
          replace HO := Lib.hid (HO.out.below hb (Nat.le_refl _))
          replace HB := Lib.hid (HB.out.trans (hb.mono HB.out.size))
          replace HP := Lib.hid (HP.out.below hb (Nat.le_refl _))
          replace HK := Lib.hid (HK.out.below hb (Nat.le_refl _))
          clear hb
          obtain ⟨gb, hgb⟩ : ∃ b, (best (lessT t (ofGate x)) dk freeP u v).isSome = b := ⟨_, rfl⟩
          rw [hgb]
          have HGB := Lib.hid (show goneB t u v dk (ofGate x) = !gb by unfold goneB; rw [hgb])
          clear hgb
          cases gb with
          | false =>
            have HOW := Lib.hid (HO.out.alloc (.cells #[.int .i64 x] 3))
            have HOB : Hid (Blk (W42.alloc (.cells #[.int .i64 x] 3)) W42.heap.size 3 #[.int .i64 x]) := Lib.hid (Blk.new _ _ _)
            have HB6 := Lib.hid (HB.out.alloc HB.out.size (.cells #[.int .i64 x] 3))
            gi_wp2_with (first | (gi_at_builtin; refine wpListIn_append_any rfl (.tmp 52) (.tmp 54) (by rfl) elem_int rfl HOW.out rfl (one_int (x := x) HOB.out.lt (HOB.out.cell 0)) (ints_one _) (by unfold maxLen; omega) (by omega) HB6.out.size ?_) | fail)
            rintro A8 c8 W8 hown hgr hA8
            have HO8 := Lib.hid hown
            have HB8 := Lib.hid (HB6.out.grown hgr HB6.out.size (fun j hj => own_row HOW.out hj))
            clear hown hgr hA8
            gi_wp2
            go_roundw
            case rel =>
              have he := others_gone HX.out HIN.out HGB.out
              refine ⟨k + 1, A8, c8, by omega, by go_num, by rw [he]; simp, Lib.hid ⟨?_, HB8.out⟩⟩
              rw [he]
              have h := HO8.out
              simpa using h
            case measure => simp [intOf]; omega
          | true =>
            gi_wp2
            go_roundw
            case rel =>
              have he := others_left HX.out HIN.out HGB.out
              refine ⟨k + 1, B, q, by omega, by go_num, by rw [he], Lib.hid ⟨?_, HB.out⟩⟩
              rw [he]
              exact HO.out
            case measure => simp [intOf]; omega
        · obtain rfl : k = n := by omega
          gi_wp2
          have hl : neededL t u v dk (othersK t u v k) ofGate = neededR t u v dk (othersL t u v) ofGate := by unfold neededR; rw [if_pos HWE.out]; unfold othersK othersL; rw [List.take_of_length_le (by rw [HLn.out]; exact Nat.le_refl _)]
          rw [hl]
          have hO := HO.out
          rw [hl] at hO
          refine bodyPost_ret (v := .tuple #[.slice B (neededR t u v dk (othersL t u v) ofGate).length q, .int .i64 0]) (by simp [results, Tryd.results24, go_sem]) rfl ?_
          rw [HWE.out]
          exact ⟨B, _, q, rfl, ints_of_own hO (Nat.le_refl _), HLay.out.1⟩
  · have h1 : (ea != 0) = true := by simpa using h0
    have HE0 := Lib.hid h0
    clear h0
    gi_wp2
    clear x0_0 x0_1 l0_
    have hw : wayE t u v dk = ea := (way_bad (t := t) (u := u) (v := v) (dk := dk) HEA.out HE0.out).1
    have hr : neededR t u v dk (othersL t u v) ofGate = [] := by unfold neededR; rw [if_neg (by rw [hw]; exact HE0.out)]
    refine bodyPost_ret (v := .tuple #[.slice none 0 0, .int .i64 ea]) (by simp [results, Tryd.results24, go_sem]) rfl ?_
    rw [hr, hw]
    exact ⟨none, 0, 0, rfl, Reads.none_, HLay.out.1⟩

theorem rgate_any (A : Option Addr) (n c : Nat) (A' : Option Addr) (m d : Nat) (t : Town) (u v : Int) (dk : Bool) (w : World)
    (hn : n ≤ 1000) (hm : m ≤ 1000) (ht : TownAt w w.heap.size A n A' m t) :
    Calls Tryd.prog 24 #[.agg #[.slice A n c, .slice A' m d], .int .i64 u, .int .i64 v, .bool dk] w (ListOut w (neededR t u v dk (othersL t u v) ofGate) (wayE t u v dk)) :=
  callsIn_wide.1 (rgate_in A n c A' m d t u v dk w hn hm ht)
end Go.Proofs.YtahkjagjcogeiaaDoor
/- The answer's Toil. -/
namespace Go.Proofs.YtahkjagjcogeiaaDoor
open Go.RowKit Go.Shelf
set_option linter.unusedVariables false

set_option maxRecDepth 100000 in
set_option maxHeartbeats 16000000 in
theorem rtoil_in (A : Option Addr) (n c : Nat) (A' : Option Addr) (m d : Nat) (t : Town) (u v : Int) (dk : Bool) (w : World)
    (hn : n ≤ 1000) (hm : m ≤ 1000) (ht : TownAt w w.heap.size A n A' m t) :
    CallsIn Fence.wide 9 Tryd.prog 36 #[.agg #[.slice A n c, .slice A' m d], .int .i64 u, .int .i64 v, .bool dk] w (ToilOut w (wayT t u v dk) (wayE t u v dk)) := by
  have HT := Lib.hid ht
  clear ht
  refine callsIn_of_wp Tryd.func36 rfl trivial ?_ rfl
  simp only [Tryd.ntmps36, List.size_toArray, List.length_cons, List.length_nil, Nat.reduceAdd, Nat.reduceSub, Array.replicate_succ, Array.replicate_zero, List.push_toArray, List.append_toArray, List.nil_append, List.cons_append]
  gi_wp2
  have HLay := Lib.hid (Lay.two w 25 #[.slice A n c, .slice A' m d] 59 #[.int .i64 0, .int .i64 0])
  generalize ((w.alloc (.cells #[.slice A n c, .slice A' m d] 25)).alloc (.cells #[.int .i64 0, .int .i64 0] 59)) = w0 at *
  refine ⟨trivial, (callsIn_wide.2 (rasked_any A n c A' m d t u v w0 hn hm ((HT.out.below HLay.out.1).more HLay.out.1.size))).mono ?_⟩
  rintro e W1 ⟨rfl, hb⟩
  replace HLay := Lib.hid (HLay.out.below hb)
  clear hb
  obtain ⟨ea, hea⟩ : ∃ ea, askE t [u, v] = ea := ⟨_, rfl⟩
  rw [hea]
  have HEA := Lib.hid hea
  clear hea
  have x0_0 := (HLay.out.blk 0 rfl).cell 0
  have x0_1 := (HLay.out.blk 0 rfl).cell 1
  have l0_ := HLay.out.lt 0 rfl
  have x1_0 := (HLay.out.blk 1 rfl).cell 0
  have z1_0 := (HLay.out.blk 1 rfl).frozen 0
  have x1_1 := (HLay.out.blk 1 rfl).cell 1
  have z1_1 := (HLay.out.blk 1 rfl).frozen 1
  have l1_ := HLay.out.lt 1 rfl
  by_cases h0 : ea = 0
  · subst h0
    obtain ⟨htb, hhas⟩ := askE_zero HEA.out
    have HG := Lib.hid (goodT htb)
    have HUV := Lib.hid (hasB_mem hhas)
    have hm20 : m ≤ 20 := by have := HG.out.links; have := HT.out.links.len; omega
    clear htb hhas
    gi_wp2
    clear x0_0 x0_1 l0_ x1_0 z1_0 x1_1 z1_1 l1_
    refine ⟨trivial, (callsIn_wide.2 (rfirst_any A n c A' m d freeP t dk u v W1 hm20 ((HT.out.places.below HLay.out.1).more HLay.out.1.size) ((HT.out.links.below HLay.out.1).more HLay.out.1.size) freeP_cheap HG.out.fine freeP_fair HG.out.nodup (HUV.out u (by simp)))).mono ?_⟩
    rintro e W2 ⟨AO, nO, cO, co, rfl, hno, hq, hfr, hb⟩
    replace HLay := Lib.hid (HLay.out.below hb)
    clear hb
    have HNO := Lib.hid hno
    have HQ := Lib.hid hq
    clear hno hq hfr
    obtain ⟨rr, hrr⟩ : ∃ rr, best t dk freeP u v = rr := ⟨_, rfl⟩
    rw [hrr] at HNO HQ ⊢
    have HBE := Lib.hid hrr
    clear hrr
    cases rr with
    | none =>
      obtain ⟨rfl, rfl, rfl, rfl⟩ := HNO.out rfl
      have x0_0 := (HLay.out.blk 0 rfl).cell 0
      have x0_1 := (HLay.out.blk 0 rfl).cell 1
      have l0_ := HLay.out.lt 0 rfl
      have x1_0 := (HLay.out.blk 1 rfl).cell 0
      have z1_0 := (HLay.out.blk 1 rfl).frozen 0
      have x1_1 := (HLay.out.blk 1 rfl).cell 1
      have z1_1 := (HLay.out.blk 1 rfl).frozen 1
      have l1_ := HLay.out.lt 1 rfl
      gi_wp2
      clear x0_0 x0_1 l0_ x1_0 z1_0 x1_1 z1_1 l1_
      obtain ⟨e1, e2, e3⟩ := way_none (t := t) (u := u) (v := v) (dk := dk) HEA.out HBE.out
      have R1 := ret2 (HLay.out.blk 1 rfl) HLay.out.1 (by omega) (.int .i64 (0)) (.int .i64 (0))
      have R2 := R1.1.alloc (.cells #[.int .i64 zeroC.a, .int .i64 zeroC.b, .int .i64 zeroC.c, .int .i64 zeroC.d] 103)
      have y0 := R2.cell 0
      have y1 := R2.cell 1
      exact bodyPost_ret (v := .tuple #[.agg #[.int .i64 (0), .int .i64 (0)], .int .i64 6]) (by simp [results, Tryd.results36, go_sem, y0, y1]) rfl ⟨by rw [e1, e3], R1.2.alloc R1.2.size _⟩
    | some q0 =>
      obtain ⟨q1, l⟩ := q0
      obtain ⟨rfl, hql⟩ := HQ.out _ rfl
      have HQL := Lib.hid (show IntsAt W2 W2.heap.size AO nO l from hql)
      clear hql
      have x0_0 := (HLay.out.blk 0 rfl).cell 0
      have x0_1 := (HLay.out.blk 0 rfl).cell 1
      have l0_ := HLay.out.lt 0 rfl
      have x1_0 := (HLay.out.blk 1 rfl).cell 0
      have z1_0 := (HLay.out.blk 1 rfl).frozen 0
      have x1_1 := (HLay.out.blk 1 rfl).cell 1
      have z1_1 := (HLay.out.blk 1 rfl).frozen 1
      have l1_ := HLay.out.lt 1 rfl
      gi_wp2
      clear x0_0 x0_1 l0_ x1_0 z1_0 x1_1 z1_1 l1_
      obtain ⟨e1, e2, e3⟩ := way_some (t := t) (u := u) (v := v) (dk := dk) HEA.out HBE.out
      have R1 := ret2 (HLay.out.blk 1 rfl) HLay.out.1 (by omega) (.int .i64 (q1.b)) (.int .i64 (q1.c))
      have R2 := R1.1.alloc (.cells #[.int .i64 q1.a, .int .i64 q1.b, .int .i64 q1.c, .int .i64 q1.d] 103)
      have y0 := R2.cell 0
      have y1 := R2.cell 1
      exact bodyPost_ret (v := .tuple #[.agg #[.int .i64 (q1.b), .int .i64 (q1.c)], .int .i64 0]) (by simp [results, Tryd.results36, go_sem, y0, y1]) rfl ⟨by rw [e1, e3], R1.2.alloc R1.2.size _⟩
  · have h1 : (ea != 0) = true := by simpa using h0
    have HE0 := Lib.hid h0
    clear h0
    gi_wp2
    clear x0_0 x0_1 l0_ x1_0 z1_0 x1_1 z1_1 l1_
    obtain ⟨e1, e2, e3⟩ := way_bad (t := t) (u := u) (v := v) (dk := dk) HEA.out HE0.out
    have R1 := ret2 (HLay.out.blk 1 rfl) HLay.out.1 (by omega) (.int .i64 (0)) (.int .i64 (0))
    have y0 := R1.1.cell 0
    have y1 := R1.1.cell 1
    exact bodyPost_ret (v := .tuple #[.agg #[.int .i64 (0), .int .i64 (0)], .int .i64 ea]) (by simp [results, Tryd.results36, go_sem, y0, y1]) rfl ⟨by rw [e1, e3], R1.2⟩

theorem rtoil_any (A : Option Addr) (n c : Nat) (A' : Option Addr) (m d : Nat) (t : Town) (u v : Int) (dk : Bool) (w : World)
    (hn : n ≤ 1000) (hm : m ≤ 1000) (ht : TownAt w w.heap.size A n A' m t) :
    Calls Tryd.prog 36 #[.agg #[.slice A n c, .slice A' m d], .int .i64 u, .int .i64 v, .bool dk] w (ToilOut w (wayT t u v dk) (wayE t u v dk)) :=
  callsIn_wide.1 (rtoil_in A n c A' m d t u v dk w hn hm ht)
end Go.Proofs.YtahkjagjcogeiaaDoor
/- The answer's Less. -/
namespace Go.Proofs.YtahkjagjcogeiaaDoor
open Go.RowKit
set_option linter.unusedVariables false

set_option maxRecDepth 100000 in
set_option maxHeartbeats 4000000 in
theorem lessToil_any (a1 a2 b1 b2 : Int) (w : World) :
    Calls Tryd.prog 82 #[.agg #[.int .i64 a1, .int .i64 a2], .agg #[.int .i64 b1, .int .i64 b2]] w fun e w' => e = .returned (.bool (lessP a1 a2 b1 b2)) ∧ Below w.heap.size w w' := by
  have hb : Below w.heap.size w ((w.alloc (.cells #[.int .i64 a1, .int .i64 a2] 59)).alloc (.cells #[.int .i64 b1, .int .i64 b2] 59)) := ((Below.refl _ _).alloc (Nat.le_refl _) _).alloc (by simp) _
  by_cases h1 : a1 < b1
  · have e : lessP a1 a2 b1 b2 = true := by unfold lessP; simp [h1]
    have HE := Lib.hid e
    have HB := Lib.hid hb
    clear e hb
    go_enter Tryd.func82, Tryd.ntmps82
    go_wp2_with fail
    go_ret
    exact ⟨ret_bool HE.out.symm, HB.out⟩
  · by_cases h2 : a1 = b1
    · subst h2
      have e : lessP a1 a2 a1 b2 = decide (a2 < b2) := by unfold lessP; simp
      have HE := Lib.hid e
      have HB := Lib.hid hb
      clear e hb h1
      go_enter Tryd.func82, Tryd.ntmps82
      go_wp2_with fail
      go_ret
      exact ⟨ret_bool HE.out.symm, HB.out⟩
    · have e : lessP a1 a2 b1 b2 = false := by unfold lessP; simp [h1, h2]
      have h2' : (a1 == b1) = false := by simpa using h2
      have HE := Lib.hid e
      have HB := Lib.hid hb
      clear e hb h2
      go_enter Tryd.func82, Tryd.ntmps82
      go_wp2_with fail
      go_ret
      exact ⟨ret_bool HE.out.symm, HB.out⟩
end Go.Proofs.YtahkjagjcogeiaaDoor
/- The answer's Worst. -/
namespace Go.Proofs.YtahkjagjcogeiaaDoor
open Go.RowKit Go.Shelf
set_option linter.unusedVariables false

set_option maxRecDepth 100000 in
set_option maxHeartbeats 16000000 in
theorem rworst_in (A : Option Addr) (n c : Nat) (A' : Option Addr) (m d : Nat) (t : Town) (u v : Int) (dk : Bool) (w : World)
    (hn : n ≤ 1000) (hm : m ≤ 1000) (ht : TownAt w w.heap.size A n A' m t) :
    CallsIn Fence.wide 9 Tryd.prog 26 #[.agg #[.slice A n c, .slice A' m d], .int .i64 u, .int .i64 v, .bool dk] w (WorstOut w (worstV t u v dk)) := by
  have HT := Lib.hid ht
  have HLn := Lib.hid ht.places.len
  have HLm := Lib.hid ht.links.len
  clear ht
  refine callsIn_of_wp Tryd.func26 rfl trivial ?_ rfl
  simp only [Tryd.ntmps26, List.size_toArray, List.length_cons, List.length_nil, Nat.reduceAdd, Nat.reduceSub, Array.replicate_succ, Array.replicate_zero, List.push_toArray, List.append_toArray, List.nil_append, List.cons_append]
  gi_wp2
  have HLay := Lib.hid (Lay.two w 25 #[.slice A n c, .slice A' m d] 59 #[.int .i64 0, .int .i64 0])
  generalize ((w.alloc (.cells #[.slice A n c, .slice A' m d] 25)).alloc (.cells #[.int .i64 0, .int .i64 0] 59)) = w0 at *
  refine ⟨trivial, (callsIn_wide.2 (rasked_any A n c A' m d t u v w0 hn hm ((HT.out.below HLay.out.1).more HLay.out.1.size))).mono ?_⟩
  rintro e W1 ⟨rfl, hb⟩
  replace HLay := Lib.hid (HLay.out.below hb)
  clear hb
  obtain ⟨ea, hea⟩ : ∃ ea, askE t [u, v] = ea := ⟨_, rfl⟩
  rw [hea]
  have HEA := Lib.hid hea
  clear hea
  have x0_0 := (HLay.out.blk 0 rfl).cell 0
  have x0_1 := (HLay.out.blk 0 rfl).cell 1
  have l0_ := HLay.out.lt 0 rfl
  have x1_0 := (HLay.out.blk 1 rfl).cell 0
  have z1_0 := (HLay.out.blk 1 rfl).frozen 0
  have x1_1 := (HLay.out.blk 1 rfl).cell 1
  have z1_1 := (HLay.out.blk 1 rfl).frozen 1
  have l1_ := HLay.out.lt 1 rfl
  by_cases h0 : ea = 0
  · subst h0
    obtain ⟨htb, hhas⟩ := askE_zero HEA.out
    have HG := Lib.hid (goodT htb)
    have HUV := Lib.hid (hasB_mem hhas)
    have hm20 : m ≤ 20 := by have := HG.out.links; have := HT.out.links.len; omega
    clear htb hhas
    gi_wp2
    clear x0_0 x0_1 l0_ x1_0 z1_0 x1_1 z1_1 l1_
    gi_loopw [12, 30] (fun v12 v30 wr => ∃ k : Nat, k ≤ m ∧ v30 = .int .i64 k ∧ v12 = .int .i64 (worstF t u v dk ((idsOf t.links).take k)).1 ∧ Hid (Blk wr W1.heap.size 59 #[.int .i64 (worstF t u v dk ((idsOf t.links).take k)).2.1, .int .i64 (worstF t u v dk ((idsOf t.links).take k)).2.2] ∧ Below W1.heap.size W1 wr))
      (fun _ vi _ => m - (intOf vi).toNat)
    case atStart => exact ⟨0, by omega, rfl, rfl, Lib.hid ⟨Blk.new _ _ _, (Below.refl _ _).alloc (Nat.le_refl _) _⟩⟩
    case round =>
      obtain ⟨k, hk, rfl, rfl, HS⟩ := hrel
      rename World => wr
      obtain ⟨s, hs⟩ : ∃ s, worstF t u v dk ((idsOf t.links).take k) = s := ⟨_, rfl⟩
      rw [hs] at HS ⊢
      obtain ⟨s1, s2, s3⟩ := s
      simp only at HS ⊢
      have HWF := Lib.hid hs
      clear hs
      have hbase := HLay.out.1.size
      replace HLay := Lib.hid ((HLay.out.below HS.out.2).add hbase HS.out.1)
      replace HLay := Lib.hid (show Lay w wr [(w.heap.size, 25, #[.slice A n c, .slice A' m d]), (w.heap.size + 1, 59, #[.int .i64 0, .int .i64 0]), (W1.heap.size, 59, #[.int .i64 s2, .int .i64 s3])] from HLay.out)
      have HBk := Lib.hid HS.out.1
      have HB := Lib.hid HS.out.2
      have hge := HLay.out.1.size
      clear HS
      by_cases hlt : k < m
      · obtain ⟨b, off, x, rfl, hbB, hx, hc0, hc1, hc2, hc3, hc4⟩ := (HT.out.links.below HLay.out.1).cell hlt
        have HX := Lib.hid (show (idsOf t.links)[k]? = some x.id by unfold idsOf; rw [List.getElem?_map, hx]; rfl)
        clear hx
        have x0_0 := (HLay.out.blk 0 rfl).cell 0
        have x0_1 := (HLay.out.blk 0 rfl).cell 1
        have l0_ := HLay.out.lt 0 rfl
        gi_wp2
        clear x0_0 x0_1 l0_
        clear hc0 hc1 hc2 hc3 hc4
        have hb : Below wr.heap.size wr ((wr.alloc (.cells #[.int .i64 x.id, .int .i64 x.fr, .int .i64 x.to, .int .i64 x.steps, .int .i64 x.paces] 45)).alloc (.cells #[.int .i64 x.id] 3)) := ((Below.refl _ _).alloc (Nat.le_refl _) _).alloc (by simp) _
        have X1 := (Blk.new wr 45 #[.int .i64 x.id, .int .i64 x.fr, .int .i64 x.to, .int .i64 x.steps, .int .i64 x.paces]).alloc (.cells #[.int .i64 x.id] 3)
        have X2 : Blk ((wr.alloc (.cells #[.int .i64 x.id, .int .i64 x.fr, .int .i64 x.to, .int .i64 x.steps, .int .i64 x.paces] 45)).alloc (.cells #[.int .i64 x.id] 3)) (wr.heap.size + 1) 3 #[.int .i64 x.id] := by
          have h := Blk.new (wr.alloc (.cells #[.int .i64 x.id, .int .i64 x.fr, .int .i64 x.to, .int .i64 x.steps, .int .i64 x.paces] 45)) 3 #[.int .i64 x.id]
          rwa [World.size_alloc] at h
        replace HLay := Lib.hid (((HLay.out.below hb).add hge X1).add (Nat.le_succ_of_le hge) X2)
        replace HBk := Lib.hid (HBk.out.below hb HBk.out.lt)
        replace HB := Lib.hid (HB.out.trans (hb.mono HB.out.size))
        generalize ((wr.alloc (.cells #[.int .i64 x.id, .int .i64 x.fr, .int .i64 x.to, .int .i64 x.steps, .int .i64 x.paces] 45)).alloc (.cells #[.int .i64 x.id] 3)) = W5 at *
        replace HLay := Lib.hid (show Lay w W5 [(w.heap.size, 25, #[.slice A n c, .slice (some ⟨b, off, none⟩) m d]), (w.heap.size + 1, 59, #[.int .i64 0, .int .i64 0]), (W1.heap.size, 59, #[.int .i64 s2, .int .i64 s3]), (wr.heap.size, 45, #[.int .i64 x.id, .int .i64 x.fr, .int .i64 x.to, .int .i64 x.steps, .int .i64 x.paces]), (wr.heap.size + 1, 3, #[.int .i64 x.id])] from HLay.out)
        clear hb X1 X2
        refine ⟨trivial, (callsIn_wide.2 (without_one A n c (some ⟨b, off, none⟩) m d t x.id (wr.heap.size + 1) W5 hn hm ((HT.out.below HLay.out.1).more HLay.out.1.size) (HLay.out.blk 4 rfl))).mono ?_⟩
        rintro e W41 ⟨AP, cP, AK, cK, rfl, hP, hK, hap, hb⟩
        replace HLay := Lib.hid (HLay.out.below hb)
        replace HBk := Lib.hid (HBk.out.below hb HBk.out.lt)
        replace HB := Lib.hid (HB.out.trans (hb.mono HB.out.size))
        clear hb
        have HP := Lib.hid hP
        have HK := Lib.hid hK
        clear hP hK hap
        gi_wp2
        refine ⟨trivial, (callsIn_wide.2 (rtoil_any AP _ cP AK _ cK (lessT t (ofOnly x.id)) u v dk W41 (less_n HLn.out hn) (less_m HLm.out hm) ⟨ints_of_own HP.out (Nat.le_refl _), links_of_own HK.out (Nat.le_refl _)⟩)).mono ?_⟩
        rintro e W42 ⟨rfl, hb⟩
        replace HLay := Lib.hid (HLay.out.below hb)
        replace HBk := Lib.hid (HBk.out.below hb HBk.out.lt)
        replace HB := Lib.hid (HB.out.trans (hb.mono HB.out.size))
        replace HP := Lib.hid (HP.out.below hb (Nat.le_refl _))
        replace HK := Lib.hid (HK.out.below hb (Nat.le_refl _))
        clear hb
        obtain ⟨q, hq⟩ : ∃ q, wayT (lessT t (ofOnly x.id)) u v dk = q := ⟨_, rfl⟩
        obtain ⟨ev, hev⟩ : ∃ e, wayE (lessT t (ofOnly x.id)) u v dk = e := ⟨_, rfl⟩
        rw [hq, hev]
        obtain ⟨qa, qb⟩ := q
        simp only
        have HQ := Lib.hid hq
        have HEV := Lib.hid hev
        clear hq hev
        have hsucc := worst_succ (t := t) (u := u) (v := v) (dk := dk) HX.out
        rw [HWF.out] at hsucc
        have HSU := Lib.hid hsucc
        clear hsucc
        clear HP HK
        by_cases hv0 : ev = 0
        · subst hv0
          have HY := Lib.hid (worst_yes (s := (s1, s2, s3)) HEA.out HEV.out HQ.out)
          by_cases hs0 : s1 = 0
          · subst hs0
            have he : worstF t u v dk ((idsOf t.links).take (k + 1)) = (x.id, qa, qb) := by rw [HSU.out, HY.out, if_pos rfl]
            have x2_0 := (HLay.out.blk 2 rfl).cell 0
            have x2_1 := (HLay.out.blk 2 rfl).cell 1
            have l2_ := HLay.out.lt 2 rfl
            gi_wp2
            clear x2_0 x2_1 l2_
            have hb : Below W42.heap.size W42 (W42.alloc (.cells #[.int .i64 qa, .int .i64 qb] 59)) := (Below.refl _ _).alloc (Nat.le_refl _) _
            have hnew := Blk.new W42 59 #[.int .i64 qa, .int .i64 qb]
            have hge := HLay.out.bel.size
            replace HLay := Lib.hid (HLay.out.below hb)
            replace HBk := Lib.hid (HBk.out.below hb HBk.out.lt)
            replace HB := Lib.hid (HB.out.trans (hb.mono HB.out.size))
            replace HLay := Lib.hid (HLay.out.add hge hnew)
            clear hnew hge hb
            obtain ⟨G44, hG⟩ : ∃ g, W42.heap.size = g := ⟨_, rfl⟩
            rw [hG] at HLay ⊢
            generalize (W42.alloc (.cells #[.int .i64 qa, .int .i64 qb] 59)) = V43 at *
            clear hG
            replace HLay := Lib.hid (show Lay w V43 [(w.heap.size, 25, #[.slice A n c, .slice (some ⟨b, off, none⟩) m d]), (w.heap.size + 1, 59, #[.int .i64 0, .int .i64 0]), (W1.heap.size, 59, #[.int .i64 s2, .int .i64 s3]), (wr.heap.size, 45, #[.int .i64 x.id, .int .i64 x.fr, .int .i64 x.to, .int .i64 x.steps, .int .i64 x.paces]), (wr.heap.size + 1, 3, #[.int .i64 x.id]), (G44, 59, #[.int .i64 qa, .int .i64 qb])] from HLay.out)
            refine ⟨trivial, ?_⟩
            gi_wp2
            refine wpIn_flow_old [] [true, true, true, true] [false, false, false, false, true] (by kernel_rfl) (by kernel_rfl) (by kernel_rfl) (below_drewN (Below.refl _ _) 1) ?_
            refine wpFlow_nil (A := ?AF1) ?hq1 ?_
            case hq1 =>
              rintro σ hσ of hof hcl
              have HOF := Lib.hid hof
              have HCL := Lib.hid hcl
              clear hof hcl
              have c0_ : ∀ z, (of z).cell? ⟨wr.heap.size, 0, none⟩ = some (.int .i64 x.id) := fun z => ((HLay.out.below (HOF.out z)).blk 3 rfl).cell 0
              have c1_ : ∀ z, (of z).cell? ⟨G44, 0, none⟩ = some (.int .i64 qa) := fun z => ((HLay.out.below (HOF.out z)).blk 5 rfl).cell 0
              have c2_ : ∀ z, (of z).cell? ⟨G44, 1, none⟩ = some (.int .i64 qb) := fun z => ((HLay.out.below (HOF.out z)).blk 5 rfl).cell 1
              have hfw : ∀ f, Fence.wide.fn f := fun _ => trivial
              simp only [pickB]
              repeat (gi_big_quiet_step (fail))
              refine wpQuietIn_nil ?_
              exact rfl
            intro W45 hW
            replace HLay := Lib.hid (HLay.out.below hW)
            replace HBk := Lib.hid (HBk.out.below hW HBk.out.lt)
            replace HB := Lib.hid (HB.out.trans (hW.mono HB.out.size))
            clear hW
            simp only [pickB]
            have x2_0 := (HLay.out.blk 2 rfl).cell 0
            have z2_0 := (HLay.out.blk 2 rfl).frozen 0
            have x2_1 := (HLay.out.blk 2 rfl).cell 1
            have z2_1 := (HLay.out.blk 2 rfl).frozen 1
            have l2_ := HLay.out.lt 2 rfl
            refine wpT_cons ?_
            gi_wp2
            refine wpT_nil ?_
            clear x2_0 z2_0 x2_1 z2_1 l2_
            have R1 := ret2 HBk.out HB.out (Nat.le_refl _) (.int .i64 qa) (.int .i64 qb)
            gi_wp2
            go_roundw
            case rel => exact ⟨k + 1, by omega, by go_num, by rw [he], Lib.hid ⟨by rw [he]; exact R1.1, R1.2⟩⟩
            case measure => simp [intOf]; omega
          · have hs1 : (s1 == 0) = false := by simpa using hs0
            have x2_0 := (HLay.out.blk 2 rfl).cell 0
            have x2_1 := (HLay.out.blk 2 rfl).cell 1
            have l2_ := HLay.out.lt 2 rfl
            gi_wp2
            clear x2_0 x2_1 l2_
            have hb : Below W42.heap.size W42 (W42.alloc (.cells #[.int .i64 qa, .int .i64 qb] 59)) := (Below.refl _ _).alloc (Nat.le_refl _) _
            have hnew := Blk.new W42 59 #[.int .i64 qa, .int .i64 qb]
            have hge := HLay.out.bel.size
            replace HLay := Lib.hid (HLay.out.below hb)
            replace HBk := Lib.hid (HBk.out.below hb HBk.out.lt)
            replace HB := Lib.hid (HB.out.trans (hb.mono HB.out.size))
            replace HLay := Lib.hid (HLay.out.add hge hnew)
            clear hnew hge hb
            obtain ⟨G64, hG⟩ : ∃ g, W42.heap.size = g := ⟨_, rfl⟩
            rw [hG] at HLay ⊢
            generalize (W42.alloc (.cells #[.int .i64 qa, .int .i64 qb] 59)) = V63 at *
            clear hG
            replace HLay := Lib.hid (show Lay w V63 [(w.heap.size, 25, #[.slice A n c, .slice (some ⟨b, off, none⟩) m d]), (w.heap.size + 1, 59, #[.int .i64 0, .int .i64 0]), (W1.heap.size, 59, #[.int .i64 s2, .int .i64 s3]), (wr.heap.size, 45, #[.int .i64 x.id, .int .i64 x.fr, .int .i64 x.to, .int .i64 x.steps, .int .i64 x.paces]), (wr.heap.size + 1, 3, #[.int .i64 x.id]), (G64, 59, #[.int .i64 qa, .int .i64 qb])] from HLay.out)
            refine ⟨trivial, (callsIn_wide.2 (lessToil_any s2 s3 qa qb V63)).mono ?_⟩
            rintro e W65 ⟨rfl, hb⟩
            replace HLay := Lib.hid (HLay.out.below hb)
            replace HBk := Lib.hid (HBk.out.below hb HBk.out.lt)
            replace HB := Lib.hid (HB.out.trans (hb.mono HB.out.size))
            clear hb
            cases hle : lessP s2 s3 qa qb with
            | true =>
              have he : worstF t u v dk ((idsOf t.links).take (k + 1)) = (x.id, qa, qb) := by rw [HSU.out, HY.out, if_neg hs0]; simp only [hle]; rfl
              clear hle
              gi_wp2
              refine wpIn_flow_old [] [true, true, true, true] [false, false, false, false, true] (by kernel_rfl) (by kernel_rfl) (by kernel_rfl) (below_drewN (Below.refl _ _) 1) ?_
              refine wpFlow_nil (A := ?AF2) ?hq2 ?_
              case hq2 =>
                rintro σ hσ of hof hcl
                have HOF := Lib.hid hof
                have HCL := Lib.hid hcl
                clear hof hcl
                have c0_ : ∀ z, (of z).cell? ⟨wr.heap.size, 0, none⟩ = some (.int .i64 x.id) := fun z => ((HLay.out.below (HOF.out z)).blk 3 rfl).cell 0
                have c1_ : ∀ z, (of z).cell? ⟨G64, 0, none⟩ = some (.int .i64 qa) := fun z => ((HLay.out.below (HOF.out z)).blk 5 rfl).cell 0
                have c2_ : ∀ z, (of z).cell? ⟨G64, 1, none⟩ = some (.int .i64 qb) := fun z => ((HLay.out.below (HOF.out z)).blk 5 rfl).cell 1
                have hfw : ∀ f, Fence.wide.fn f := fun _ => trivial
                simp only [pickB]
                repeat (gi_big_quiet_step (fail))
                refine wpQuietIn_nil ?_
                exact rfl
              intro W66 hW
              replace HLay := Lib.hid (HLay.out.below hW)
              replace HBk := Lib.hid (HBk.out.below hW HBk.out.lt)
              replace HB := Lib.hid (HB.out.trans (hW.mono HB.out.size))
              clear hW
              simp only [pickB]
              have x2_0 := (HLay.out.blk 2 rfl).cell 0
              have z2_0 := (HLay.out.blk 2 rfl).frozen 0
              have x2_1 := (HLay.out.blk 2 rfl).cell 1
              have z2_1 := (HLay.out.blk 2 rfl).frozen 1
              have l2_ := HLay.out.lt 2 rfl
              refine wpT_cons ?_
              gi_wp2
              refine wpT_nil ?_
              clear x2_0 z2_0 x2_1 z2_1 l2_
              have R1 := ret2 HBk.out HB.out (Nat.le_refl _) (.int .i64 qa) (.int .i64 qb)
              gi_wp2
              go_roundw
              case rel => exact ⟨k + 1, by omega, by go_num, by rw [he], Lib.hid ⟨by rw [he]; exact R1.1, R1.2⟩⟩
              case measure => simp [intOf]; omega
            | false =>
              have he : worstF t u v dk ((idsOf t.links).take (k + 1)) = (s1, s2, s3) := by rw [HSU.out, HY.out, if_neg hs0]; simp only [hle]; rfl
              clear hle
              gi_wp2
              go_roundw
              case rel => exact ⟨k + 1, by omega, by go_num, by rw [he], Lib.hid ⟨by rw [he]; exact HBk.out, HB.out⟩⟩
              case measure => simp [intOf]; omega
        · have hv1 : (ev == 0) = false := by simpa using hv0
          have he : worstF t u v dk ((idsOf t.links).take (k + 1)) = (s1, s2, s3) := by rw [HSU.out, worst_no HEA.out HEV.out hv0]
          have x2_0 := (HLay.out.blk 2 rfl).cell 0
          have x2_1 := (HLay.out.blk 2 rfl).cell 1
          have l2_ := HLay.out.lt 2 rfl
          gi_wp2
          any_goals (exfalso; have hu := ‹some undef = some (Value.bool _)›; first | cases hu | (simp [undef] at hu; done) | exact absurd hu (by decide))
          clear x2_0 x2_1 l2_
          have hb : Below W42.heap.size W42 (W42.alloc (.cells #[.int .i64 qa, .int .i64 qb] 59)) := (Below.refl _ _).alloc (Nat.le_refl _) _
          have hnew := Blk.new W42 59 #[.int .i64 qa, .int .i64 qb]
          have hge := HLay.out.bel.size
          replace HLay := Lib.hid (HLay.out.below hb)
          replace HBk := Lib.hid (HBk.out.below hb HBk.out.lt)
          replace HB := Lib.hid (HB.out.trans (hb.mono HB.out.size))
          replace HLay := Lib.hid (HLay.out.add hge hnew)
          clear hnew hge hb
          obtain ⟨G104, hG⟩ : ∃ g, W42.heap.size = g := ⟨_, rfl⟩
          rw [hG] at HLay ⊢
          generalize (W42.alloc (.cells #[.int .i64 qa, .int .i64 qb] 59)) = V103 at *
          clear hG
          replace HLay := Lib.hid (show Lay w V103 [(w.heap.size, 25, #[.slice A n c, .slice (some ⟨b, off, none⟩) m d]), (w.heap.size + 1, 59, #[.int .i64 0, .int .i64 0]), (W1.heap.size, 59, #[.int .i64 s2, .int .i64 s3]), (wr.heap.size, 45, #[.int .i64 x.id, .int .i64 x.fr, .int .i64 x.to, .int .i64 x.steps, .int .i64 x.paces]), (wr.heap.size + 1, 3, #[.int .i64 x.id]), (G104, 59, #[.int .i64 qa, .int .i64 qb])] from HLay.out)
          refine ⟨trivial, ?_⟩
          gi_wp2
          go_roundw
          case rel => exact ⟨k + 1, by omega, by go_num, by rw [he], Lib.hid ⟨by rw [he]; exact HBk.out, HB.out⟩⟩
          case measure => simp [intOf]; omega
      · obtain rfl : k = m := by omega
        have hf : worstF t u v dk (idsOf t.links) = (s1, s2, s3) := by
          have h := HWF.out
          rwa [List.take_of_length_le (by unfold idsOf; rw [List.length_map, HLm.out]; exact Nat.le_refl _)] at h
        have HF := Lib.hid hf
        clear hf
        by_cases hs0 : s1 = 0
        · subst hs0
          have x1_0 := (HLay.out.blk 1 rfl).cell 0
          have z1_0 := (HLay.out.blk 1 rfl).frozen 0
          have x1_1 := (HLay.out.blk 1 rfl).cell 1
          have z1_1 := (HLay.out.blk 1 rfl).frozen 1
          have l1_ := HLay.out.lt 1 rfl
          gi_wp2
          clear x1_0 z1_0 x1_1 z1_1 l1_
          have R1 := ret2 (HLay.out.blk 1 rfl) HLay.out.1 (by omega) (.int .i64 (0)) (.int .i64 (0))
          have y0 := R1.1.cell 0
          have y1 := R1.1.cell 1
          have hV := worstV_zero HEA.out HF.out
          exact bodyPost_ret (v := .tuple #[.int .i64 0, .agg #[.int .i64 (0), .int .i64 (0)], .int .i64 6]) (by simp [results, Tryd.results26, go_sem, y0, y1]) rfl ⟨by rw [hV], R1.2⟩
        · have hs1 : (s1 == 0) = false := by simpa using hs0
          gi_wp2
          refine wpIn_flow_old [] [true, true, true, false, true] [false, false, false, true] (by kernel_rfl) (by kernel_rfl) (by kernel_rfl) (below_drewN (Below.refl _ _) 1) ?_
          refine wpFlow_nil (A := ?AF3) ?hq3 ?_
          case hq3 =>
            rintro σ hσ of hof hcl
            have HOF := Lib.hid hof
            have HCL := Lib.hid hcl
            clear hof hcl
            have c0_ : ∀ z, (of z).cell? ⟨W1.heap.size, 0, none⟩ = some (.int .i64 s2) := fun z => ((HLay.out.below (HOF.out z)).blk 2 rfl).cell 0
            have c1_ : ∀ z, (of z).cell? ⟨W1.heap.size, 1, none⟩ = some (.int .i64 s3) := fun z => ((HLay.out.below (HOF.out z)).blk 2 rfl).cell 1
            have hfw : ∀ f, Fence.wide.fn f := fun _ => trivial
            simp only [pickB]
            repeat (gi_big_quiet_step (fail))
            refine wpQuietIn_nil ?_
            exact rfl
          intro W201 hW
          replace HLay := Lib.hid (HLay.out.below hW)
          clear hW
          simp only [pickB]
          have x1_0 := (HLay.out.blk 1 rfl).cell 0
          have z1_0 := (HLay.out.blk 1 rfl).frozen 0
          have x1_1 := (HLay.out.blk 1 rfl).cell 1
          have z1_1 := (HLay.out.blk 1 rfl).frozen 1
          have l1_ := HLay.out.lt 1 rfl
          refine wpT_cons ?_
          gi_wp2
          refine wpT_nil ?_
          clear x1_0 z1_0 x1_1 z1_1 l1_
          gi_wp2
          have R1 := ret2 (HLay.out.blk 1 rfl) HLay.out.1 (by omega) (.int .i64 (s2)) (.int .i64 (s3))
          have y0 := R1.1.cell 0
          have y1 := R1.1.cell 1
          have hV := worstV_some HEA.out HF.out hs0
          exact bodyPost_ret (v := .tuple #[.int .i64 s1, .agg #[.int .i64 (s2), .int .i64 (s3)], .int .i64 0]) (by simp [results, Tryd.results26, go_sem, y0, y1]) rfl ⟨by rw [hV], R1.2⟩
  · have h1 : (ea != 0) = true := by simpa using h0
    have HE0 := Lib.hid h0
    clear h0
    gi_wp2
    clear x0_0 x0_1 l0_ x1_0 z1_0 x1_1 z1_1 l1_
    have R1 := ret2 (HLay.out.blk 1 rfl) HLay.out.1 (by omega) (.int .i64 (0)) (.int .i64 (0))
    have y0 := R1.1.cell 0
    have y1 := R1.1.cell 1
    have hV := worstV_bad (dk := dk) HEA.out HE0.out
    exact bodyPost_ret (v := .tuple #[.int .i64 0, .agg #[.int .i64 (0), .int .i64 (0)], .int .i64 ea]) (by simp [results, Tryd.results26, go_sem, y0, y1]) rfl ⟨by rw [hV], R1.2⟩

theorem rworst_any (A : Option Addr) (n c : Nat) (A' : Option Addr) (m d : Nat) (t : Town) (u v : Int) (dk : Bool) (w : World)
    (hn : n ≤ 1000) (hm : m ≤ 1000) (ht : TownAt w w.heap.size A n A' m t) :
    Calls Tryd.prog 26 #[.agg #[.slice A n c, .slice A' m d], .int .i64 u, .int .i64 v, .bool dk] w (WorstOut w (worstV t u v dk)) :=
  callsIn_wide.1 (rworst_in A n c A' m d t u v dk w hn hm ht)
end Go.Proofs.YtahkjagjcogeiaaDoor
/- Spans and toils compared. -/
namespace Go.Proofs.YtahkjagjcogeiaaDoor
open Go.RowKit
set_option linter.unusedVariables false
theorem sameT_refl' (t : Town) : sameT t t = true := by simp [sameT]
theorem sameI_refl' (l : List Int) : sameI l l = true := by simp [sameI]
theorem eqSpan_run (a1 a2 b1 b2 : Int) (w : World) : (Op.equalIn 10000 27 (.agg #[.int .i64 a1, .int .i64 a2]) (.agg #[.int .i64 b1, .int .i64 b2])).run Tryd.prog w = .ok (a1 == b1 && a2 == b2) w := by
  rw [Op.equalIn]
  simp [go_sem, run_underlying Tryd.underlying27, eqi_run', Std.Legacy.Range.forIn_eq_forIn_range', part]
  by_cases h1 : a1 = b1 <;> by_cases h2 : a2 = b2 <;> simp [h1, h2]
theorem eqSpan_same (a b : Int) (w : World) : (Op.equalIn 10000 27 (.agg #[.int .i64 a, .int .i64 b]) (.agg #[.int .i64 a, .int .i64 b])).run Tryd.prog w = .ok true w := by
  rw [eqSpan_run]; simp
theorem eqToil_run (a1 a2 b1 b2 : Int) (w : World) : (Op.equalIn 10000 59 (.agg #[.int .i64 a1, .int .i64 a2]) (.agg #[.int .i64 b1, .int .i64 b2])).run Tryd.prog w = .ok (a1 == b1 && a2 == b2) w := by
  rw [Op.equalIn]
  simp [go_sem, run_underlying Tryd.underlying59, eqi_run', Std.Legacy.Range.forIn_eq_forIn_range', part]
  by_cases h1 : a1 = b1 <;> by_cases h2 : a2 = b2 <;> simp [h1, h2]
theorem eqToil_same (a b : Int) (w : World) : (Op.equalIn 10000 59 (.agg #[.int .i64 a, .int .i64 b]) (.agg #[.int .i64 a, .int .i64 b])).run Tryd.prog w = .ok true w := by
  rw [eqToil_run]; simp
end Go.Proofs.YtahkjagjcogeiaaDoor
/- The law ClimbNeeds, walked. -/
namespace Go.Proofs.YtahkjagjcogeiaaDoor
open Go.RowKit Go.Shelf
set_option linter.unusedVariables false

theorem neededR_len (t : Town) (u v : Int) (dk : Bool) (l : List Int) (of : Int → Link → Bool) : (neededR t u v dk l of).length ≤ l.length := by
  unfold neededR
  split
  · exact needed_len t u v dk l of
  · simp

set_option maxRecDepth 100000 in
set_option maxHeartbeats 16000000 in
theorem needs_walk_in (A : Option Addr) (n c : Nat) (A' : Option Addr) (m d : Nat) (t : Town) (u v : Int) (dk : Bool) (w : World) (hn : n ≤ maxLen) (hm : m ≤ maxLen)  (ht : TownAt w w.heap.size A n A' m t)  (hL : Laid w) :
    CallsIn Fence.wide 9 Tryd.prog 5 #[.agg #[.slice A n c, .slice A' m d], .int .i64 u, .int .i64 v, .bool dk] w fun e w' => e = .returned (.bool true) ∧ Below w.heap.size w w' := by
  have HT := Lib.hid ht
  have HL := Lib.hid hL
  have hl0 := hL.2.2.2
  have HLn := Lib.hid ht.places.len
  have HLm := Lib.hid ht.links.len
  clear ht hL
  unfold maxLen at hn hm
  refine callsIn_of_wp Tryd.func5 rfl trivial ?_ rfl
  simp only [Tryd.ntmps5, List.size_toArray, List.length_cons, List.length_nil, Nat.reduceAdd, Nat.reduceSub, Array.replicate_succ, Array.replicate_zero, List.push_toArray, List.append_toArray, List.nil_append, List.cons_append]
  gi_wp2
  have HLay := Lib.hid (Lay.one w 25 #[.slice A n c, .slice A' m d])
  generalize (w.alloc (.cells #[.slice A n c, .slice A' m d] 25)) = w0 at *
  refine ⟨trivial, (callsIn_wide.2 (great_any A n c A' m d w0)).mono ?_⟩
  rintro e W1 ⟨rfl, hb⟩
  replace HLay := Lib.hid (HLay.out.below hb)
  clear hb
  cases hgr : greatB n m with
  | true =>
    clear hgr
    gi_wp2
    exact bodyPost_ret (v := .bool true) (by simp [results, Tryd.results5, go_sem]) rfl ⟨rfl, HLay.out.bel⟩
  | false =>
  have hsz : n ≤ 20 ∧ m ≤ 40 := by unfold greatB at hgr; simp at hgr; omega
  clear hgr
  obtain ⟨hn20, hm40⟩ := hsz
  have hn1 : n ≤ 1000 := by omega
  have hm1 : m ≤ 1000 := by omega
  have x0_0 := (HLay.out.blk 0 rfl).cell 0
  have x0_1 := (HLay.out.blk 0 rfl).cell 1
  have l0_ := HLay.out.lt 0 rfl
  gi_wp2
  clear x0_0 x0_1 l0_
  have HLW := Lib.hid (HLay.out.bel.size)
  refine ⟨trivial, (callsIn_wide.2 (twin_any A n c A' m d t W1 hn1 hm1 ((HT.out.below HLay.out.bel).more HLay.out.bel.size))).mono ?_⟩
  rintro e W2 ⟨A1, c1, A1', c1', rfl, hO1, hO2, _, hb⟩
  replace HLay := Lib.hid (HLay.out.below hb)
  clear hb
  have HO1 := Lib.hid (hO1.mono (HLW.out))
  have HO2 := Lib.hid (hO2.mono (HLW.out))
  rw [HLn.out] at HO1
  rw [HLm.out] at HO2
  rw [HLn.out, HLm.out]
  clear hO1 hO2 HLW
  have x0_0 := (HLay.out.blk 0 rfl).cell 0
  have x0_1 := (HLay.out.blk 0 rfl).cell 1
  have l0_ := HLay.out.lt 0 rfl
  gi_wp2
  clear x0_0 x0_1 l0_
  have hb : Below W2.heap.size W2 (W2.alloc (.cells #[.slice A1 n c1, .slice A1' m c1'] 25)) := (Below.refl _ _).alloc (Nat.le_refl _) _
  have hnew := Blk.new W2 25 #[.slice A1 n c1, .slice A1' m c1']
  have hge := HLay.out.bel.size
  replace HLay := Lib.hid (HLay.out.below hb)
  replace HO1 := Lib.hid (HO1.out.below hb (Nat.le_refl _))
  replace HO2 := Lib.hid (HO2.out.below hb (Nat.le_refl _))
  replace HLay := Lib.hid (HLay.out.add hge hnew)
  clear hnew hge hb
  obtain ⟨G4, hG⟩ : ∃ g, W2.heap.size = g := ⟨_, rfl⟩
  rw [hG] at HLay ⊢
  generalize (W2.alloc (.cells #[.slice A1 n c1, .slice A1' m c1'] 25)) = V3 at *
  clear hG
  replace HLay := Lib.hid (show Lay w V3 [(w.heap.size, 25, #[.slice A n c, .slice A' m d]), (G4, 25, #[.slice A1 n c1, .slice A1' m c1'])] from HLay.out)
  refine ⟨trivial, (callsIn_wide.2 (need_any A1 n c1 A1' m c1' t u v dk V3 hn1 hm1 ⟨ints_of_own HO1.out (Nat.le_refl _), links_of_own HO2.out (Nat.le_refl _)⟩ (HL.out.below HLay.out.bel hl0))).mono ?_⟩
  rintro e W5 ⟨AX0, nAX0, cAX0, rfl, hi, hb⟩
  replace HLay := Lib.hid (HLay.out.below hb)
  replace HO1 := Lib.hid (HO1.out.below hb (Nat.le_refl _))
  replace HO2 := Lib.hid (HO2.out.below hb (Nat.le_refl _))
  clear hb
  have hlen := neededR_len t u v dk (idsOf t.links) ofOnly
  have hll : (idsOf t.links).length ≤ 40 := by unfold idsOf; rw [List.length_map, HLm.out]; exact hm40
  obtain ⟨l1, hl1⟩ : ∃ y, neededR t u v dk (idsOf t.links) ofOnly = y := ⟨_, rfl⟩
  rw [hl1] at hi hlen
  have Hl1 := Lib.hid hl1
  clear hl1
  obtain ⟨e1, he1⟩ : ∃ y, wayE t u v dk = y := ⟨_, rfl⟩
  rw [he1]
  have He1 := Lib.hid he1
  clear he1
  have HAX0 := Lib.hid hi
  clear hi
  have hnAX0 : nAX0 ≤ maxLen := by have := HAX0.out.len; unfold maxLen; omega
  clear hll hlen
  have x0_0 := (HLay.out.blk 0 rfl).cell 0
  have x0_1 := (HLay.out.blk 0 rfl).cell 1
  have l0_ := HLay.out.lt 0 rfl
  have x1_0 := (HLay.out.blk 1 rfl).cell 0
  have x1_1 := (HLay.out.blk 1 rfl).cell 1
  have l1_ := HLay.out.lt 1 rfl
  gi_wp2
  clear x0_0 x0_1 l0_ x1_0 x1_1 l1_
  refine ⟨trivial, (callsIn_wide.2 (rneed_any A n c A' m d t u v dk W5 hn1 hm1 ((HT.out.below HLay.out.bel).more HLay.out.bel.size))).mono ?_⟩
  rintro e W6 ⟨AY0, nAY0, cAY0, rfl, hi, hb⟩
  replace HLay := Lib.hid (HLay.out.below hb)
  replace HO1 := Lib.hid (HO1.out.below hb (Nat.le_refl _))
  replace HO2 := Lib.hid (HO2.out.below hb (Nat.le_refl _))
  replace HAX0 := Lib.hid ((HAX0.out.below hb).more hb.size)
  clear hb
  rw [Hl1.out] at hi
  rw [He1.out]
  have HAY0 := Lib.hid hi
  clear hi
  have hnAY0 : nAY0 ≤ maxLen := by have h1 := HAY0.out.len; have h2 := HAX0.out.len; omega
  have x0_0 := (HLay.out.blk 0 rfl).cell 0
  have x0_1 := (HLay.out.blk 0 rfl).cell 1
  have l0_ := HLay.out.lt 0 rfl
  have x1_0 := (HLay.out.blk 1 rfl).cell 0
  have x1_1 := (HLay.out.blk 1 rfl).cell 1
  have l1_ := HLay.out.lt 1 rfl
  gi_wp2
  clear x0_0 x0_1 l0_ x1_0 x1_1 l1_
  refine ⟨trivial, (callsIn_wide.2 (gate_any A1 n c1 A1' m c1' t u v dk W6 hn1 hm1 ⟨ints_of_own HO1.out (Nat.le_refl _), links_of_own HO2.out (Nat.le_refl _)⟩ (HL.out.below HLay.out.bel hl0))).mono ?_⟩
  rintro e W7 ⟨AX1, nAX1, cAX1, rfl, hi, hb⟩
  replace HLay := Lib.hid (HLay.out.below hb)
  replace HO1 := Lib.hid (HO1.out.below hb (Nat.le_refl _))
  replace HO2 := Lib.hid (HO2.out.below hb (Nat.le_refl _))
  replace HAX0 := Lib.hid ((HAX0.out.below hb).more hb.size)
  replace HAY0 := Lib.hid ((HAY0.out.below hb).more hb.size)
  clear hb
  have hlen := neededR_len t u v dk (othersL t u v) ofGate
  have hll : (othersL t u v).length ≤ 40 := Nat.le_trans (List.length_filter_le _ _) (by rw [HLn.out]; omega)
  obtain ⟨l2, hl2⟩ : ∃ y, neededR t u v dk (othersL t u v) ofGate = y := ⟨_, rfl⟩
  rw [hl2] at hi hlen
  have Hl2 := Lib.hid hl2
  clear hl2
  rw [He1.out]
  have HAX1 := Lib.hid hi
  clear hi
  have hnAX1 : nAX1 ≤ maxLen := by have := HAX1.out.len; unfold maxLen; omega
  clear hll hlen
  have x0_0 := (HLay.out.blk 0 rfl).cell 0
  have x0_1 := (HLay.out.blk 0 rfl).cell 1
  have l0_ := HLay.out.lt 0 rfl
  have x1_0 := (HLay.out.blk 1 rfl).cell 0
  have x1_1 := (HLay.out.blk 1 rfl).cell 1
  have l1_ := HLay.out.lt 1 rfl
  gi_wp2
  clear x0_0 x0_1 l0_ x1_0 x1_1 l1_
  refine ⟨trivial, (callsIn_wide.2 (rgate_any A n c A' m d t u v dk W7 hn1 hm1 ((HT.out.below HLay.out.bel).more HLay.out.bel.size))).mono ?_⟩
  rintro e W8 ⟨AY1, nAY1, cAY1, rfl, hi, hb⟩
  replace HLay := Lib.hid (HLay.out.below hb)
  replace HO1 := Lib.hid (HO1.out.below hb (Nat.le_refl _))
  replace HO2 := Lib.hid (HO2.out.below hb (Nat.le_refl _))
  replace HAX0 := Lib.hid ((HAX0.out.below hb).more hb.size)
  replace HAY0 := Lib.hid ((HAY0.out.below hb).more hb.size)
  replace HAX1 := Lib.hid ((HAX1.out.below hb).more hb.size)
  clear hb
  rw [Hl2.out] at hi
  rw [He1.out]
  have HAY1 := Lib.hid hi
  clear hi
  have hnAY1 : nAY1 ≤ maxLen := by have h1 := HAY1.out.len; have h2 := HAX1.out.len; omega
  have x0_0 := (HLay.out.blk 0 rfl).cell 0
  have x0_1 := (HLay.out.blk 0 rfl).cell 1
  have l0_ := HLay.out.lt 0 rfl
  have x1_0 := (HLay.out.blk 1 rfl).cell 0
  have x1_1 := (HLay.out.blk 1 rfl).cell 1
  have l1_ := HLay.out.lt 1 rfl
  gi_wp2
  clear x0_0 x0_1 l0_ x1_0 x1_1 l1_
  refine ⟨trivial, (callsIn_wide.2 (worst_any A1 n c1 A1' m c1' t u v dk W8 hn1 hm1 ⟨ints_of_own HO1.out (Nat.le_refl _), links_of_own HO2.out (Nat.le_refl _)⟩ (HL.out.below HLay.out.bel hl0))).mono ?_⟩
  rintro e W9 ⟨rfl, hb⟩
  replace HLay := Lib.hid (HLay.out.below hb)
  replace HO1 := Lib.hid (HO1.out.below hb (Nat.le_refl _))
  replace HO2 := Lib.hid (HO2.out.below hb (Nat.le_refl _))
  replace HAX0 := Lib.hid ((HAX0.out.below hb).more hb.size)
  replace HAY0 := Lib.hid ((HAY0.out.below hb).more hb.size)
  replace HAX1 := Lib.hid ((HAX1.out.below hb).more hb.size)
  replace HAY1 := Lib.hid ((HAY1.out.below hb).more hb.size)
  clear hb
  obtain ⟨q, hq⟩ : ∃ y, worstV t u v dk = y := ⟨_, rfl⟩
  rw [hq]
  have Hq := Lib.hid hq
  clear hq
  have x0_0 := (HLay.out.blk 0 rfl).cell 0
  have x0_1 := (HLay.out.blk 0 rfl).cell 1
  have l0_ := HLay.out.lt 0 rfl
  have x1_0 := (HLay.out.blk 1 rfl).cell 0
  have x1_1 := (HLay.out.blk 1 rfl).cell 1
  have l1_ := HLay.out.lt 1 rfl
  gi_wp2
  clear x0_0 x0_1 l0_ x1_0 x1_1 l1_
  have hb : Below W9.heap.size W9 (W9.alloc (.cells #[.int .i64 q.2.1, .int .i64 q.2.2.1] 59)) := (Below.refl _ _).alloc (Nat.le_refl _) _
  have hnew := Blk.new W9 59 #[.int .i64 q.2.1, .int .i64 q.2.2.1]
  have hge := HLay.out.bel.size
  replace HLay := Lib.hid (HLay.out.below hb)
  replace HO1 := Lib.hid (HO1.out.below hb (Nat.le_refl _))
  replace HO2 := Lib.hid (HO2.out.below hb (Nat.le_refl _))
  replace HAX0 := Lib.hid ((HAX0.out.below hb).more hb.size)
  replace HAY0 := Lib.hid ((HAY0.out.below hb).more hb.size)
  replace HAX1 := Lib.hid ((HAX1.out.below hb).more hb.size)
  replace HAY1 := Lib.hid ((HAY1.out.below hb).more hb.size)
  replace HLay := Lib.hid (HLay.out.add hge hnew)
  clear hnew hge hb
  obtain ⟨G11, hG⟩ : ∃ g, W9.heap.size = g := ⟨_, rfl⟩
  rw [hG] at HLay ⊢
  generalize (W9.alloc (.cells #[.int .i64 q.2.1, .int .i64 q.2.2.1] 59)) = V10 at *
  clear hG
  replace HLay := Lib.hid (show Lay w V10 [(w.heap.size, 25, #[.slice A n c, .slice A' m d]), (G4, 25, #[.slice A1 n c1, .slice A1' m c1']), (G11, 59, #[.int .i64 q.2.1, .int .i64 q.2.2.1])] from HLay.out)
  refine ⟨trivial, (callsIn_wide.2 (rworst_any A n c A' m d t u v dk V10 hn1 hm1 ((HT.out.below HLay.out.bel).more HLay.out.bel.size))).mono ?_⟩
  rintro e W12 ⟨rfl, hb⟩
  replace HLay := Lib.hid (HLay.out.below hb)
  replace HO1 := Lib.hid (HO1.out.below hb (Nat.le_refl _))
  replace HO2 := Lib.hid (HO2.out.below hb (Nat.le_refl _))
  replace HAX0 := Lib.hid ((HAX0.out.below hb).more hb.size)
  replace HAY0 := Lib.hid ((HAY0.out.below hb).more hb.size)
  replace HAX1 := Lib.hid ((HAX1.out.below hb).more hb.size)
  replace HAY1 := Lib.hid ((HAY1.out.below hb).more hb.size)
  clear hb
  rw [Hq.out]
  have hs2 := eqToil_same q.2.1 q.2.2.1
  have he1 : (e1 == e1) = true := by simp
  have he3 : (q.1 == q.1) = true := by simp
  have he4 : (q.2.2.2 == q.2.2.2) = true := by simp
  have x0_0 := (HLay.out.blk 0 rfl).cell 0
  have x0_1 := (HLay.out.blk 0 rfl).cell 1
  have l0_ := HLay.out.lt 0 rfl
  have x1_0 := (HLay.out.blk 1 rfl).cell 0
  have x1_1 := (HLay.out.blk 1 rfl).cell 1
  have l1_ := HLay.out.lt 1 rfl
  gi_wp2
  clear x0_0 x0_1 l0_ x1_0 x1_1 l1_
  have hb : Below W12.heap.size W12 (W12.alloc (.cells #[.int .i64 q.2.1, .int .i64 q.2.2.1] 59)) := (Below.refl _ _).alloc (Nat.le_refl _) _
  have hnew := Blk.new W12 59 #[.int .i64 q.2.1, .int .i64 q.2.2.1]
  have hge := HLay.out.bel.size
  replace HLay := Lib.hid (HLay.out.below hb)
  replace HO1 := Lib.hid (HO1.out.below hb (Nat.le_refl _))
  replace HO2 := Lib.hid (HO2.out.below hb (Nat.le_refl _))
  replace HAX0 := Lib.hid ((HAX0.out.below hb).more hb.size)
  replace HAY0 := Lib.hid ((HAY0.out.below hb).more hb.size)
  replace HAX1 := Lib.hid ((HAX1.out.below hb).more hb.size)
  replace HAY1 := Lib.hid ((HAY1.out.below hb).more hb.size)
  replace HLay := Lib.hid (HLay.out.add hge hnew)
  clear hnew hge hb
  obtain ⟨G14, hG⟩ : ∃ g, W12.heap.size = g := ⟨_, rfl⟩
  rw [hG] at HLay ⊢
  generalize (W12.alloc (.cells #[.int .i64 q.2.1, .int .i64 q.2.2.1] 59)) = V13 at *
  clear hG
  replace HLay := Lib.hid (show Lay w V13 [(w.heap.size, 25, #[.slice A n c, .slice A' m d]), (G4, 25, #[.slice A1 n c1, .slice A1' m c1']), (G11, 59, #[.int .i64 q.2.1, .int .i64 q.2.2.1]), (G14, 59, #[.int .i64 q.2.1, .int .i64 q.2.2.1])] from HLay.out)
  refine ⟨trivial, (callsIn_wide.2 (sameInts_any AX0 nAX0 cAX0 l1 AY0 nAY0 cAY0 l1 V13 hnAX0 hnAY0 HAX0.out HAY0.out)).mono ?_⟩
  rintro e W15 ⟨rfl, hb⟩
  replace HLay := Lib.hid (HLay.out.below hb)
  replace HO1 := Lib.hid (HO1.out.below hb (Nat.le_refl _))
  replace HO2 := Lib.hid (HO2.out.below hb (Nat.le_refl _))
  replace HAX0 := Lib.hid ((HAX0.out.below hb).more hb.size)
  replace HAY0 := Lib.hid ((HAY0.out.below hb).more hb.size)
  replace HAX1 := Lib.hid ((HAX1.out.below hb).more hb.size)
  replace HAY1 := Lib.hid ((HAY1.out.below hb).more hb.size)
  clear hb
  rw [sameI_refl']
  have x0_0 := (HLay.out.blk 0 rfl).cell 0
  have x0_1 := (HLay.out.blk 0 rfl).cell 1
  have l0_ := HLay.out.lt 0 rfl
  have x1_0 := (HLay.out.blk 1 rfl).cell 0
  have x1_1 := (HLay.out.blk 1 rfl).cell 1
  have l1_ := HLay.out.lt 1 rfl
  have x2_0 := (HLay.out.blk 2 rfl).cell 0
  have x2_1 := (HLay.out.blk 2 rfl).cell 1
  have l2_ := HLay.out.lt 2 rfl
  have x3_0 := (HLay.out.blk 3 rfl).cell 0
  have x3_1 := (HLay.out.blk 3 rfl).cell 1
  have l3_ := HLay.out.lt 3 rfl
  gi_wp2
  clear x0_0 x0_1 l0_ x1_0 x1_1 l1_ x2_0 x2_1 l2_ x3_0 x3_1 l3_
  refine ⟨trivial, (callsIn_wide.2 (sameInts_any AX1 nAX1 cAX1 l2 AY1 nAY1 cAY1 l2 W15 hnAX1 hnAY1 HAX1.out HAY1.out)).mono ?_⟩
  rintro e W16 ⟨rfl, hb⟩
  replace HLay := Lib.hid (HLay.out.below hb)
  replace HO1 := Lib.hid (HO1.out.below hb (Nat.le_refl _))
  replace HO2 := Lib.hid (HO2.out.below hb (Nat.le_refl _))
  replace HAX0 := Lib.hid ((HAX0.out.below hb).more hb.size)
  replace HAY0 := Lib.hid ((HAY0.out.below hb).more hb.size)
  replace HAX1 := Lib.hid ((HAX1.out.below hb).more hb.size)
  replace HAY1 := Lib.hid ((HAY1.out.below hb).more hb.size)
  clear hb
  rw [sameI_refl']
  have x0_0 := (HLay.out.blk 0 rfl).cell 0
  have x0_1 := (HLay.out.blk 0 rfl).cell 1
  have l0_ := HLay.out.lt 0 rfl
  have x1_0 := (HLay.out.blk 1 rfl).cell 0
  have x1_1 := (HLay.out.blk 1 rfl).cell 1
  have l1_ := HLay.out.lt 1 rfl
  have x2_0 := (HLay.out.blk 2 rfl).cell 0
  have x2_1 := (HLay.out.blk 2 rfl).cell 1
  have l2_ := HLay.out.lt 2 rfl
  have x3_0 := (HLay.out.blk 3 rfl).cell 0
  have x3_1 := (HLay.out.blk 3 rfl).cell 1
  have l3_ := HLay.out.lt 3 rfl
  gi_wp2
  clear x0_0 x0_1 l0_ x1_0 x1_1 l1_ x2_0 x2_1 l2_ x3_0 x3_1 l3_
  refine ⟨trivial, (callsIn_wide.2 (same_any A1 n c1 A1' m c1' t A n c A' m d t W16 (by unfold maxLen; omega) (by unfold maxLen; omega) (by unfold maxLen; omega) (by unfold maxLen; omega) ⟨ints_of_own HO1.out (Nat.le_refl _), links_of_own HO2.out (Nat.le_refl _)⟩ ((HT.out.below HLay.out.bel).more HLay.out.bel.size))).mono ?_⟩
  rintro e W17 ⟨rfl, hb⟩
  replace HLay := Lib.hid (HLay.out.below hb)
  replace HO1 := Lib.hid (HO1.out.below hb (Nat.le_refl _))
  replace HO2 := Lib.hid (HO2.out.below hb (Nat.le_refl _))
  replace HAX0 := Lib.hid ((HAX0.out.below hb).more hb.size)
  replace HAY0 := Lib.hid ((HAY0.out.below hb).more hb.size)
  replace HAX1 := Lib.hid ((HAX1.out.below hb).more hb.size)
  replace HAY1 := Lib.hid ((HAY1.out.below hb).more hb.size)
  clear hb
  rw [sameT_refl']
  gi_wp2
  exact bodyPost_ret (v := .bool true) (by simp [results, Tryd.results5, go_sem]) rfl ⟨rfl, HLay.out.bel⟩
theorem needs_walk (A : Option Addr) (n c : Nat) (A' : Option Addr) (m d : Nat) (t : Town) (u v : Int) (dk : Bool) (w : World) (hn : n ≤ maxLen) (hm : m ≤ maxLen)  (ht : TownAt w w.heap.size A n A' m t)  (hL : Laid w) :
    Calls Tryd.prog 5 #[.agg #[.slice A n c, .slice A' m d], .int .i64 u, .int .i64 v, .bool dk] w fun e w' => e = .returned (.bool true) ∧ Below w.heap.size w w' :=
  callsIn_wide.1 (needs_walk_in A n c A' m d t u v dk w hn hm  ht  hL)
end Go.Proofs.YtahkjagjcogeiaaDoor
/- The table of checks as the row lists it: its three cells. The door's own heap meets the condition. -/
namespace Go.Proofs.YtahkjagjcogeiaaDoor
open Go.ChangeShapes Go.WideShapes Go.ChangeAt Go.RowKit
set_option linter.unusedVariables false
set_option maxRecDepth 100000

def laidL : List (String × DataW Unit) := [("aguador/climb.checks", Rows.laid_aguador_climb_checks)]
theorem gChecks : Tryd.prog.globalNamed "aguador/climb.checks" = some 0 := by kernel_rfl
theorem tChecks : (Tryd.prog.globals[0]?).map (·.type) = some 149 := by kernel_rfl
theorem cellsCheck : Tryd.prog.cellsOf 148 = 1 := by kernel_rfl
theorem cellsFuncB : Tryd.prog.cellsOf 30 = 1 := by kernel_rfl
theorem checkUnd : ∃ f, Tryd.prog.underlying 148 = some (.struct #[f]) ∧ f.type = 30 ∧ f.offset = 0 := ⟨_, Tryd.underlying148, rfl, rfl⟩

/-- The door's own heap meets the condition. -/
theorem door_met (os : Os) (args : Array Value) : laidMetH Tryd.prog laidL ((World.doorLaid Tryd.prog 800 os).forCall (fun _ _ => 0) ⟨#[], args, []⟩).memory :=
  laidMetH_of_parts3 (fuel := 8) (laidMet_of_run' 8 (by kernel_rfl) (by kernel_rfl)) (by kernel_rfl) (by kernel_rfl)

theorem check_cell {W : World} {fuel : Nat} {cs : List Value} {b : UInt8} {r : List UInt8} {q : List MemPlace} {f0 : FuncId} (h : DataW.trod (funcToken Tryd.prog) Tryd.prog W 0 (fun _ => true) true fuel 148 cs = some (.agg [.held (b :: r)], q))
    (hone : ((List.range Tryd.prog.funcs.size).filter fun f => (Tryd.prog.funcs[f]?).any (·.name.toUTF8.data.toList == b :: r)) = [f0]) : cs = [.func (.func f0) #[] #[]] := by
  obtain ⟨f, hu, ht, ho⟩ := checkUnd
  obtain ⟨y0, n, hx, hl, h0⟩ := trod_struct1 hu h
  rw [cellsCheck] at hl
  match cs, hl with
  | [c], _ =>
    have h1 : DataW.trod (funcToken Tryd.prog) Tryd.prog W 0 (fun _ => true) true n 30 [c] = some y0 := by simpa [ht, ho, cellsFuncB] using h0
    simp only [Prod.mk.injEq, DataW.agg.injEq, List.cons.injEq, and_true] at hx
    obtain ⟨z, p⟩ := y0
    obtain ⟨e1, e2⟩ := hx
    simp only at e1
    subst e1
    rw [func_of_trod Tryd.underlying30 hone h1]

theorem of_laid {W : World} (h : laidMetH Tryd.prog laidL W) : Laid W := by
  obtain ⟨g, t, cs, fuel, p, hg, ht, hv, hd⟩ := h.funcs (List.mem_singleton.2 rfl)
  obtain rfl := Option.some.inj (gChecks.symm.trans hg)
  obtain rfl := Option.some.inj (tChecks.symm.trans ht)
  obtain ⟨xs, m, _, hx, hlen, hn, hel⟩ := DataW.trod_array Tryd.underlying149 hd
  rw [cellsCheck] at hel
  match xs, hn with
  | [x0, x1, x2], _ =>
    have h0 := hel 0 (by decide)
    have h1 := hel 1 (by decide)
    have h2 := hel 2 (by decide)
    simp only [Prod.mk.injEq] at hx
    have hx1 := hx.1
    simp only [DataW.funcsOut, DataW.funcsOutAll, List.map_cons, List.map_nil, DataW.agg.injEq, List.cons.injEq, and_true] at hx1
    obtain ⟨e0, e1, e2⟩ := hx1
    obtain ⟨x0, p0⟩ := x0
    obtain ⟨x1, p1⟩ := x1
    obtain ⟨x2, p2⟩ := x2
    simp only at e0 e1 e2
    subst e0 e1 e2
    have k0 := check_cell (f0 := 182) h0 (by kernel_rfl)
    have k1 := check_cell (f0 := 183) h1 (by kernel_rfl)
    have k2 := check_cell (f0 := 184) h2 (by kernel_rfl)
    have at_ : ∀ i, W.cell? ⟨0, i, none⟩ = cs[i]? := fun i => by simpa using World.var?_cell hg hv i
    obtain ⟨l⟩ := cs
    have c0 : W.cell? ⟨0, 0, none⟩ = some (.func (.func 182) #[] #[]) := by
      rw [at_]
      have := congrArg (·[0]?) k0
      simpa [List.getElem?_take, List.getElem?_drop] using this
    have c1 : W.cell? ⟨0, 1, none⟩ = some (.func (.func 183) #[] #[]) := by
      rw [at_]
      have := congrArg (·[0]?) k1
      simpa [List.getElem?_take, List.getElem?_drop] using this
    have c2 : W.cell? ⟨0, 2, none⟩ = some (.func (.func 184) #[] #[]) := by
      rw [at_]
      have := congrArg (·[0]?) k2
      simpa [List.getElem?_take, List.getElem?_drop] using this
    exact ⟨c0, c1, c2, World.block_lt_of_cell? W _ c0⟩

end Go.Proofs.YtahkjagjcogeiaaDoor
/- The laws' arguments, opened: lists of whole numbers, lists of links, towns, a link; the table of checks. -/
namespace Go.Proofs.YtahkjagjcogeiaaDoor
open Go.ChangeShapes Go.WideShapes Go.RowKit Go.Deep Go.Joins
set_option linter.unusedVariables false
set_option maxRecDepth 100000

section
variable {H : Type} {enc : TypeId × Value → H} {P : Program} {w : World} {base : Nat} {spare : Nat → Bool} {held : Bool}
/-- A struct of five one-cell fields, opened. -/
theorem opened5 {r : Reach} {b0 : Nat} {t : TypeId} {f0 f1 f2 f3 f4 : Field} {v : Value} {d : DataW H} {p : List MemPlace} (hs : P.underlying t = some (.struct #[f0, f1, f2, f3, f4])) (hone : oneCellFields P #[f0, f1, f2, f3, f4] = true) (hC : P.cellsOf t = 5)
    (hv : Value.okWide P w r b0 t v) (h : DataW.Trod enc P w base spare held t v d p) :
    ∃ (v0 v1 v2 v3 v4 : Value) (y0 y1 y2 y3 y4 : DataW H × List MemPlace) (n : Nat), v = .agg #[v0, v1, v2, v3, v4] ∧
      DataW.trod enc P w base spare held n f0.type [v0] = some y0 ∧ DataW.trod enc P w base spare held n f1.type [v1] = some y1 ∧ DataW.trod enc P w base spare held n f2.type [v2] = some y2 ∧ DataW.trod enc P w base spare held n f3.type [v3] = some y3 ∧ DataW.trod enc P w base spare held n f4.type [v4] = some y4 := by
  obtain ⟨cs, rfl, hsz⟩ := okWide_struct hs hv
  obtain ⟨l⟩ := cs
  match l, hsz.trans hC with
  | [c0, c1, c2, c3, c4], _ =>
    obtain ⟨fuel, hf⟩ := h
    obtain ⟨xs, n, _, hx, _, hlen, hg⟩ := DataW.trod_struct hs hf
    obtain ⟨o0, k0⟩ := hone_of hone 0 f0 rfl
    obtain ⟨o1, k1⟩ := hone_of hone 1 f1 rfl
    obtain ⟨o2, k2⟩ := hone_of hone 2 f2 rfl
    obtain ⟨o3, k3⟩ := hone_of hone 3 f3 rfl
    obtain ⟨o4, k4⟩ := hone_of hone 4 f4 rfl
    match xs, hlen with
    | [y0, y1, y2, y3, y4], _ =>
      exact ⟨c0, c1, c2, c3, c4, y0, y1, y2, y3, y4, n, rfl, by simpa [Value.cells, o0, k0] using hg 0 f0 rfl, by simpa [Value.cells, o1, k1] using hg 1 f1 rfl, by simpa [Value.cells, o2, k2] using hg 2 f2 rfl, by simpa [Value.cells, o3, k3] using hg 3 f3 rfl, by simpa [Value.cells, o4, k4] using hg 4 f4 rfl⟩
end

section
variable {H : Type} {enc : TypeId × Value → H} {w : World}

theorem linkUnd : ∃ f0 f1 f2 f3 f4, Tryd.prog.underlying 45 = some (.struct #[f0, f1, f2, f3, f4]) ∧ oneCellFields Tryd.prog #[f0, f1, f2, f3, f4] = true ∧ f0.type = 3 ∧ f1.type = 3 ∧ f2.type = 3 ∧ f3.type = 3 ∧ f4.type = 3 ∧ f0.offset = 0 ∧ f1.offset = 1 ∧ f2.offset = 2 ∧ f3.offset = 3 ∧ f4.offset = 4 :=
  ⟨_, _, _, _, _, Tryd.underlying45, by kernel_rfl, rfl, rfl, rfl, rfl, rfl, rfl, rfl, rfl, rfl, rfl⟩
theorem cellsLink : Tryd.prog.cellsOf 45 = 5 := by kernel_rfl
theorem cellsInt1 : Tryd.prog.cellsOf 3 = 1 := by kernel_rfl
theorem cellsTown2 : Tryd.prog.cellsOf 25 = 2 := by kernel_rfl

theorem flat1 {f : Nat → Int} (n : Nat) : (List.map (Value.int .i64) ((List.range n).map f)) = (List.range n).map fun i => Value.int .i64 (f i) := by simp

/-- A list of whole numbers. -/
theorem ints_open {v : Value} {fuel : Nat} {x : DataW H × List MemPlace} (h : DataW.trod enc Tryd.prog w 0 (fun _ => true) true fuel 22 [v] = some x) :
    ∃ A n c l, v = .slice A n c ∧ n ≤ c ∧ n ≤ maxLen ∧ c ≤ maxLen ∧ IntsAt w w.heap.size A n l := by
  rcases open_slice1 Tryd.underlying22 cellsInt1 h with ⟨e, _⟩ | ⟨a, len, cap, m, k, V, D, Pl, e, _, hl, hm, hmm, _, hx⟩
  · simp only [List.cons.injEq, and_true] at e
    exact ⟨none, 0, 0, [], e, Nat.le_refl _, Nat.zero_le _, Nat.zero_le _, Reads.none_⟩
  · simp only [List.cons.injEq, and_true] at e
    have hmc : m = cap := by simpa using hmm
    subst hmc
    have hn : ∀ i, i < m → ∃ z : Int, V i = .int .i64 z := fun i hi => by
      obtain ⟨z, f0, _, _⟩ := DataW.trod_int Tryd.underlying3 (hx i hi).2
      simp only [List.cons.injEq, and_true] at f0
      exact ⟨z, f0⟩
    obtain ⟨Z, hZ⟩ := choose_lt hn
    refine ⟨some a, len, m, (List.range len).map Z, e, hl, by omega, hm, by simp, fun h0 => ⟨a, rfl, ?_, fun j u hu => ?_⟩⟩
    · have := World.block_lt_of_cell? w _ (hx 0 (by omega)).1
      rwa [block_of_add] at this
    · simp only [List.getElem?_map, Option.map_map] at hu
      have hj : j < len := by
        rcases Nat.lt_or_ge j len with h' | h'
        · exact h'
        · rw [List.getElem?_eq_none (by simpa using h')] at hu; cases hu
      rw [List.getElem?_range hj] at hu
      simp only [Option.map_some, Option.some.injEq, Function.comp] at hu
      rw [(hx j (by omega)).1, hZ j (by omega), ← hu]

/-- A link's five cells. -/
theorem link_cells {fuel : Nat} {cs : List Value} {x : DataW H × List MemPlace} (h : DataW.trod enc Tryd.prog w 0 (fun _ => true) true fuel 45 cs = some x) (hl : cs.length = 5) : ∃ l : Link, cs = l.vals := by
  obtain ⟨f0, f1, f2, f3, f4, hu, hone, t0, t1, t2, t3, t4, z0, z1, z2, z3, z4⟩ := linkUnd
  obtain ⟨xs, n, _, _, _, hlen, hg⟩ := DataW.trod_struct hu h
  match cs, hl, xs, hlen with
  | [c0, c1, c2, c3, c4], _, [y0, y1, y2, y3, y4], _ =>
    have h0 : DataW.trod enc Tryd.prog w 0 (fun _ => true) true n 3 [c0] = some y0 := by simpa [t0, z0, cellsInt1] using hg 0 f0 rfl
    have h1 : DataW.trod enc Tryd.prog w 0 (fun _ => true) true n 3 [c1] = some y1 := by simpa [t1, z1, cellsInt1] using hg 1 f1 rfl
    have h2 : DataW.trod enc Tryd.prog w 0 (fun _ => true) true n 3 [c2] = some y2 := by simpa [t2, z2, cellsInt1] using hg 2 f2 rfl
    have h3 : DataW.trod enc Tryd.prog w 0 (fun _ => true) true n 3 [c3] = some y3 := by simpa [t3, z3, cellsInt1] using hg 3 f3 rfl
    have h4 : DataW.trod enc Tryd.prog w 0 (fun _ => true) true n 3 [c4] = some y4 := by simpa [t4, z4, cellsInt1] using hg 4 f4 rfl
    obtain ⟨n0, e0, _, _⟩ := DataW.trod_int Tryd.underlying3 h0
    obtain ⟨n1, e1, _, _⟩ := DataW.trod_int Tryd.underlying3 h1
    obtain ⟨n2, e2, _, _⟩ := DataW.trod_int Tryd.underlying3 h2
    obtain ⟨n3, e3, _, _⟩ := DataW.trod_int Tryd.underlying3 h3
    obtain ⟨n4, e4, _, _⟩ := DataW.trod_int Tryd.underlying3 h4
    simp only [List.cons.injEq, and_true] at e0 e1 e2 e3 e4
    subst e0 e1 e2 e3 e4
    exact ⟨⟨n0, n1, n2, n3, n4⟩, rfl⟩

/-- A list of links. -/
theorem links_open {v : Value} {fuel : Nat} {x : DataW H × List MemPlace} (h : DataW.trod enc Tryd.prog w 0 (fun _ => true) true fuel 23 [v] = some x) :
    ∃ A n c l, v = .slice A n c ∧ n ≤ c ∧ n ≤ maxLen ∧ c ≤ maxLen ∧ LinksAt w w.heap.size A n l := by
  rcases open_slice Tryd.underlying23 h with ⟨e, _⟩ | ⟨a, len, cap, m, k, D, Pl, e, _, hl, hm, hmm, _, hx⟩
  · simp only [List.cons.injEq, and_true] at e
    exact ⟨none, 0, 0, [], e, Nat.le_refl _, Nat.zero_le _, Nat.zero_le _, Reads.none_⟩
  · simp only [List.cons.injEq, and_true] at e
    have hmc : m = cap := by simpa using hmm
    subst hmc
    have hn : ∀ i, i < m → ∃ z : Link, ∀ j, j < 5 → w.cell? (a.add (i * 5 + j)) = z.vals[j]? := fun i hi => by
      obtain ⟨cs', h1, h2⟩ := hx i hi
      rw [cellsLink] at h1
      obtain ⟨_, hcl, hat⟩ := World.cells?_some h1
      obtain ⟨z, rfl⟩ := link_cells h2 hcl
      exact ⟨z, fun j hj => by rw [← Go.Deep.add_add, hat j hj]⟩
    letI : Inhabited Link := ⟨⟨0, 0, 0, 0, 0⟩⟩
    obtain ⟨Z, hZ⟩ := choose_lt hn
    refine ⟨some a, len, m, (List.range len).map Z, e, hl, by omega, hm, by rw [flat_len]; simp, fun h0 => ⟨a, rfl, ?_, fun j u hu => ?_⟩⟩
    · have := World.block_lt_of_cell? w _ (hZ 0 (by omega) 0 (by omega))
      rwa [block_of_add] at this
    · have hj : j < len * 5 := by
        rcases Nat.lt_or_ge j (len * 5) with h' | h'
        · exact h'
        · rw [List.getElem?_eq_none (by rw [flat_len]; simpa using h')] at hu; cases hu
      have hz := hZ (j / 5) (by omega) (j % 5) (by omega)
      have ha : ((List.range len).map Z)[j / 5]? = some (Z (j / 5)) := by rw [List.getElem?_map, List.getElem?_range (by omega)]; rfl
      have hf := flat_at ha (show j % 5 < 5 by omega)
      rw [show j / 5 * 5 + j % 5 = j by omega] at hf hz
      rw [hz, ← hf, hu]

/-- A link, by value. -/
theorem linkArg_open {r : Reach} {b0 : Nat} {v : Value} {d : DataW H} {p : List MemPlace} (hv : Value.okWide Tryd.prog w r b0 45 v) (h : DataW.Trod enc Tryd.prog w 0 (fun _ => true) true 45 v d p) :
    ∃ l : Link, v = .agg l.vals.toArray := by
  obtain ⟨f0, f1, f2, f3, f4, hu, hone, t0, t1, t2, t3, t4, z0, z1, z2, z3, z4⟩ := linkUnd
  obtain ⟨cs, rfl, hsz⟩ := okWide_struct hu hv
  obtain ⟨fuel, hf⟩ := h
  obtain ⟨l, e⟩ := link_cells (cs := cs.toList) hf (by simpa [cellsLink] using hsz)
  exact ⟨l, by rw [← e]⟩

/-- A town, by value. -/
theorem town_open {r : Reach} {b0 : Nat} {v : Value} {d : DataW H} {p : List MemPlace} (hv : Value.okWide Tryd.prog w r b0 25 v) (h : DataW.Trod enc Tryd.prog w 0 (fun _ => true) true 25 v d p) :
    ∃ A n c A' m d' t, v = .agg #[.slice A n c, .slice A' m d'] ∧ n ≤ maxLen ∧ m ≤ maxLen ∧ n ≤ c ∧ m ≤ d' ∧ TownAt w w.heap.size A n A' m t := by
  obtain ⟨v0, v1, y0, y1, k, rfl, _, _, h0, h1⟩ := open_agg2 Tryd.underlying25 (by kernel_rfl) cellsTown2 hv h
  obtain ⟨A, n, c, l, rfl, hn, hx, _, hr⟩ := ints_open h0
  obtain ⟨A', m, d', l', rfl, hm, hx', _, hr'⟩ := links_open h1
  exact ⟨A, n, c, A', m, d', ⟨l, l'⟩, rfl, hx, hx', hn, hm, ⟨hr, hr'⟩⟩
end

end Go.Proofs.YtahkjagjcogeiaaDoor
/- The laws' arguments, opened: skins and gaits. What every row's proof wants. -/
namespace Go.Proofs.YtahkjagjcogeiaaDoor
open Go.ChangeShapes Go.WideShapes Go.RowKit Go.Deep Go.Joins
set_option linter.unusedVariables false
set_option maxRecDepth 100000
theorem ownT' : ownKnob Tryd.prog.godebug = none := by kernel_rfl
theorem laidOutT' : laidOutB Tryd.prog = true := by kernel_rfl
section
variable {H : Type} {enc : TypeId × Value → H} {w : World}
theorem spanUnd : ∃ f0 f1, Tryd.prog.underlying 27 = some (.struct #[f0, f1]) ∧ f0.type = 3 ∧ f1.type = 3 ∧ f0.offset = 0 ∧ f1.offset = 1 := ⟨_, _, Tryd.underlying27, rfl, rfl, rfl, rfl⟩
theorem skinUnd : ∃ f0 f1 f2, Tryd.prog.underlying 29 = some (.struct #[f0, f1, f2]) ∧ f0.type = 3 ∧ f1.type = 27 ∧ f2.type = 27 ∧ f0.offset = 0 ∧ f1.offset = 1 ∧ f2.offset = 3 := ⟨_, _, _, Tryd.underlying29, rfl, rfl, rfl, rfl, rfl, rfl⟩
theorem gaitUnd : ∃ f0 f1, Tryd.prog.underlying 66 = some (.struct #[f0, f1]) ∧ f0.type = 27 ∧ f1.type = 27 ∧ f0.offset = 0 ∧ f1.offset = 2 := ⟨_, _, Tryd.underlying66, rfl, rfl, rfl, rfl⟩
theorem cellsSpan : Tryd.prog.cellsOf 27 = 2 := by kernel_rfl
theorem cellsSkin : Tryd.prog.cellsOf 29 = 5 := by kernel_rfl
theorem cellsGait : Tryd.prog.cellsOf 66 = 4 := by kernel_rfl
theorem span_cells {fuel : Nat} {cs : List Value} {x : DataW H × List MemPlace} (h : DataW.trod enc Tryd.prog w 0 (fun _ => true) true fuel 27 cs = some x) (hl : cs.length = 2) : ∃ s : Span, cs = s.vals := by
  obtain ⟨f0, f1, hu, t0, t1, z0, z1⟩ := spanUnd
  obtain ⟨xs, n, _, _, _, hlen, hg⟩ := DataW.trod_struct hu h
  match cs, hl, xs, hlen with
  | [c0, c1], _, [y0, y1], _ =>
    have h0 : DataW.trod enc Tryd.prog w 0 (fun _ => true) true n 3 [c0] = some y0 := by simpa [t0, z0, cellsInt1] using hg 0 f0 rfl
    have h1 : DataW.trod enc Tryd.prog w 0 (fun _ => true) true n 3 [c1] = some y1 := by simpa [t1, z1, cellsInt1] using hg 1 f1 rfl
    obtain ⟨n0, e0, _, _⟩ := DataW.trod_int Tryd.underlying3 h0
    obtain ⟨n1, e1, _, _⟩ := DataW.trod_int Tryd.underlying3 h1
    simp only [List.cons.injEq, and_true] at e0 e1
    subst e0 e1
    exact ⟨⟨n0, n1⟩, rfl⟩
theorem skinArg_open {r : Reach} {b0 : Nat} {v : Value} {d : DataW H} {p : List MemPlace} (hv : Value.okWide Tryd.prog w r b0 29 v) (h : DataW.Trod enc Tryd.prog w 0 (fun _ => true) true 29 v d p) :
    ∃ s : Skin, v = .agg #[.int .i64 s.drops, .int .i64 s.pace.lo, .int .i64 s.pace.hi, .int .i64 s.step.lo, .int .i64 s.step.hi] := by
  obtain ⟨f0, f1, f2, hu, t0, t1, t2, z0, z1, z2⟩ := skinUnd
  obtain ⟨cs, rfl, hsz⟩ := okWide_struct hu hv
  obtain ⟨fuel, hf⟩ := h
  obtain ⟨l⟩ := cs
  obtain ⟨xs, n, _, _, _, hlen, hg⟩ := DataW.trod_struct hu hf
  rw [cellsSkin] at hsz
  match l, hsz, xs, hlen with
  | [c0, c1, c2, c3, c4], _, [y0, y1, y2], _ =>
    have h0 : DataW.trod enc Tryd.prog w 0 (fun _ => true) true n 3 [c0] = some y0 := by simpa [t0, z0, cellsInt1, Value.cells] using hg 0 f0 rfl
    have h1 : DataW.trod enc Tryd.prog w 0 (fun _ => true) true n 27 [c1, c2] = some y1 := by simpa [t1, z1, cellsSpan, Value.cells] using hg 1 f1 rfl
    have h2 : DataW.trod enc Tryd.prog w 0 (fun _ => true) true n 27 [c3, c4] = some y2 := by simpa [t2, z2, cellsSpan, Value.cells] using hg 2 f2 rfl
    obtain ⟨n0, e0, _, _⟩ := DataW.trod_int Tryd.underlying3 h0
    obtain ⟨s1, e1⟩ := span_cells h1 rfl
    obtain ⟨s2, e2⟩ := span_cells h2 rfl
    simp only [Span.vals, List.cons.injEq, and_true] at e0 e1 e2
    obtain ⟨rfl, rfl⟩ := e1
    obtain ⟨rfl, rfl⟩ := e2
    subst e0
    exact ⟨⟨n0, s1, s2⟩, rfl⟩
theorem gaitArg_open {r : Reach} {b0 : Nat} {v : Value} {d : DataW H} {p : List MemPlace} (hv : Value.okWide Tryd.prog w r b0 66 v) (h : DataW.Trod enc Tryd.prog w 0 (fun _ => true) true 66 v d p) :
    ∃ s : Gait, v = .agg #[.int .i64 s.pace.lo, .int .i64 s.pace.hi, .int .i64 s.step.lo, .int .i64 s.step.hi] := by
  obtain ⟨f0, f1, hu, t0, t1, z0, z1⟩ := gaitUnd
  obtain ⟨cs, rfl, hsz⟩ := okWide_struct hu hv
  obtain ⟨fuel, hf⟩ := h
  obtain ⟨l⟩ := cs
  obtain ⟨xs, n, _, _, _, hlen, hg⟩ := DataW.trod_struct hu hf
  rw [cellsGait] at hsz
  match l, hsz, xs, hlen with
  | [c1, c2, c3, c4], _, [y1, y2], _ =>
    have h1 : DataW.trod enc Tryd.prog w 0 (fun _ => true) true n 27 [c1, c2] = some y1 := by simpa [t0, z0, cellsSpan, Value.cells] using hg 0 f0 rfl
    have h2 : DataW.trod enc Tryd.prog w 0 (fun _ => true) true n 27 [c3, c4] = some y2 := by simpa [t1, z1, cellsSpan, Value.cells] using hg 1 f1 rfl
    obtain ⟨s1, e1⟩ := span_cells h1 rfl
    obtain ⟨s2, e2⟩ := span_cells h2 rfl
    simp only [Span.vals, List.cons.injEq, and_true] at e1 e2
    obtain ⟨rfl, rfl⟩ := e1
    obtain ⟨rfl, rfl⟩ := e2
    exact ⟨⟨s1, s2⟩, rfl⟩
end
end Go.Proofs.YtahkjagjcogeiaaDoor
/- ClimbNeeds: whatever the arguments, the law answers true. The row, and the card. -/
namespace Go.Proofs.YtahkjagjcogeiaaDoor
open Go.ChangeShapes Go.WideShapes Go.ChangeAt Go.RowKit Go.Joins
set_option linter.unusedVariables false

set_option maxRecDepth 100000 in
theorem needs_lifted (os : Os) (started : os.Started) (H : Type) (enc : TypeId × Value → H) :
    ReturnsInHanded {} Tryd.checked os 5 .any (fun w args => (Rows.climbNeedsSpec.pre enc Tryd.prog Tryd.f5 [] false w args ∧ laidMetH Tryd.prog laidL w) ∧ sizedMet enc Tryd.prog Tryd.f5 (OpenSpec.ofChange Rows.climbNeedsSpec) false w args)
      (Rows.climbNeedsSpec.post enc Tryd.prog Tryd.f5 false true false false) := by
  refine returnsInHanded_of_change_and (C := Tryd.checked) (X := fun w _ => laidMetH Tryd.prog laidL w) (fun _ _ _ hh h => h.of_heap hh) ownT' started (by kernel_rfl) Tryd.func5
    (ChangeSpec.witness_shaped (enc := enc) (C := Tryd.checked) (os := os) (X := fun w _ => laidMetH Tryd.prog laidL w) false (World.doorLaid Tryd.prog 800 os) #[.agg #[.slice none 0 0, .slice none 0 0], .int .i64 0, .int .i64 0, .bool false] 8 rfl (World.shaped_of_RefB (by kernel_rfl) (by kernel_rfl)) (by kernel_rfl) (by kernel_rfl) (by kernel_rfl) (door_met os _)) ?_
  intro W base args ds gs before hval0 hW _ _ hL _
  have hval : ∀ (j : Nat) t v, Tryd.f5.params[j]? = some t → args[j]? = some v → Value.okWide Tryd.prog W .any base t v := hval0
  have hW' := hW
  obtain ⟨p, q, hA0, hV, rfl, hfz, hnd⟩ := hW
  have hA : DataW.TrodAll enc Tryd.prog W 0 (fun _ => true) true Tryd.f5.params.toList args.toList ds p := hA0
  rw [Tryd.params5] at hA hval
  obtain ⟨v0, vs0, d0, ds0, p0, q0, hargs, rfl, rfl, h0, r0⟩ := trodAll_cons hA
  obtain ⟨v1, vs1, d1, ds1, p1, q1, rfl, rfl, rfl, h1, r1⟩ := trodAll_cons r0
  obtain ⟨v2, vs2, d2, ds2, p2, q2, rfl, rfl, rfl, h2, r2⟩ := trodAll_cons r1
  obtain ⟨v3, vs3, d3, ds3, p3, q3, rfl, rfl, rfl, h3, r3⟩ := trodAll_cons r2
  obtain ⟨rfl, rfl, rfl⟩ := trodAll_nil r3
  obtain rfl : args = #[v0, v1, v2, v3] := by cases args; simp_all
  obtain ⟨rfl, rfl⟩ := trodVars_none hV
  have lt0 : ∀ x ∈ p0, x.block < W.heap.size := by obtain ⟨m, hm⟩ := h0; exact DataW.trod_lt m _ _ _ hm
  have lt1 : ∀ x ∈ p1, x.block < W.heap.size := by obtain ⟨m, hm⟩ := h1; exact DataW.trod_lt m _ _ _ hm
  have lt2 : ∀ x ∈ p2, x.block < W.heap.size := by obtain ⟨m, hm⟩ := h2; exact DataW.trod_lt m _ _ _ hm
  have lt3 : ∀ x ∈ p3, x.block < W.heap.size := by obtain ⟨m, hm⟩ := h3; exact DataW.trod_lt m _ _ _ hm
  have hl := of_laid hL
  obtain ⟨A, n, c, A', m, d, t, e0, hn, hm, hnc, hmd, ht⟩ := town_open (hval 0 25 v0 rfl rfl) h0
  obtain ⟨s1, e1⟩ := okWide_int Tryd.underlying3 (hval 1 3 v1 rfl rfl)
  obtain ⟨s2, e2⟩ := okWide_int Tryd.underlying3 (hval 2 3 v2 rfl rfl)
  obtain ⟨s3, e3⟩ := okWide_bool Tryd.underlying4 (hval 3 4 v3 rfl rfl)
  clear hA0 hval0 hval
  subst e0 e1 e2 e3
  refine (needs_walk A n c A' m d t s1 s2 s3 W hn hm ht hl).mono fun e W' ⟨he, bel⟩ => ?_
  subst he
  exact ⟨_, rfl, _, _, _, [], _, [], hW', trodAll_mk1 (shut_bool Tryd.underlying4 _), (trodAll_cons_mk (Below.trod laidOutT' (by kernel_rfl) (of_decide_eq_true (by kernel_rfl)) h0 bel lt0) (trodAll_cons_mk (Below.trod laidOutT' (by kernel_rfl) (of_decide_eq_true (by kernel_rfl)) h1 bel lt1) (trodAll_cons_mk (Below.trod laidOutT' (by kernel_rfl) (of_decide_eq_true (by kernel_rfl)) h2 bel lt2) (trodAll_cons_mk (Below.trod laidOutT' (by kernel_rfl) (of_decide_eq_true (by kernel_rfl)) h3 bel lt3) trodAll_mk0)))), rfl, bel.frame _, fun h => by cases h⟩

theorem needs_holds : Rows.ClimbNeedsSaid :=
  OpenClaim.holds_of_wide 5 Tryd.f5 rfl rfl rfl rfl rfl rfl rfl ⟨rfl, rfl, rfl, rfl, rfl⟩ rfl rfl rfl rfl rfl (by kernel_rfl) Tryd.func5 (by kernel_rfl)
    (of_decide_eq_true (by kernel_rfl)) (by unfold Func.isWrapper; first | (rw [if_pos (by decide +kernel)]; kernel_rfl) | (rw [if_neg (by decide +kernel)]; exact ⟨rfl, rfl⟩))
    (fun os started H enc _ => needs_lifted os started H enc)

theorem needs_card : Rows.ClimbNeedsCardSaid :=
  Claim7.holds_tied_plain_at .later [] [.funcs] true (true, "35db601371cf4e3db72291b0fffac302dc4738302ccce79cad216ebd535e90b1") false
    needs_holds (fun _ h => by cases h) (by kernel_rfl) (fun _ h => by cases h) climbNeeds_row_tie rfl ⟨rfl, rfl⟩ (by kernel_rfl) rfl
    (fun f fn hf hfn => by
      obtain rfl : f = 5 := Option.some.inj ((show Tryd.prog.funcNamed "aguador/aguadorlaw03.ClimbNeeds" = some 5 by kernel_rfl).symm.trans hf) |>.symm
      obtain rfl : fn = Tryd.f5 := (Option.some.inj (Tryd.func5.symm.trans hfn)).symm
      exact ⟨by kernel_rfl, fun j t ht => by
        rw [Tryd.params5] at ht
        have hm : t ∈ [25, 3, 3, 4] := by simpa using Array.mem_of_getElem? ht
        have hall : ([25, 3, 3, 4].all fun u => !Tryd.prog.wantsStandIn u) = true := by kernel_rfl
        exact (show Tryd.prog.wantsStandIn t = false by simpa using List.all_eq_true.1 hall t hm)⟩)
    (by kernel_rfl)
#print axioms needs_card
end Go.Proofs.YtahkjagjcogeiaaDoor
