/- climb.less. -/
import Derived.Test.YtahkjagjcogeiaaDoorClIds
import Derived.Deep.RegionHeld3
namespace Go.Proofs.YtahkjagjcogeiaaDoor
open Go.RowKit
set_option linter.unusedVariables false

/-- Two slices do not meet. -/
def Apart (A B : Option Addr) : Prop := ∀ a b, A = some a → B = some b → a.block ≠ b.block
theorem apart_new {w w' : World} {base base' n cap size n' cap' size' : Nat} {e e' : TypeId} {A B : Option Addr} {xs ys : List Value} (h : Own w base e size A n cap xs) (h' : Own w' base' e' size' B n' cap' ys) (hb : w.heap.size ≤ base') : Apart A B := by
  intro a b ha hb'
  have h1 := h.lt ha
  have h2 := h'.lt hb'
  omega
theorem Apart.symm {A B : Option Addr} (h : Apart A B) : Apart B A := fun a b ha hb => (h b a hb ha).symm

/-- A town of the call's own is returned. -/
def TownOut (w : World) (e : Ending) (w' : World) (t : Town) : Prop := ∃ A c A' c', e = .returned (.agg #[.slice A t.places.length c, .slice A' t.links.length c']) ∧ Own w' w.heap.size 3 1 A t.places.length c (t.places.map (Value.int .i64)) ∧ Own w' w.heap.size 45 5 A' t.links.length c' (t.links.flatMap Link.vals) ∧ Apart A A' ∧ Below w.heap.size w w'

def lessT (t : Town) (p : Link → Bool) : Town := ⟨t.places, t.links.filter fun x => !p x⟩

set_option maxRecDepth 100000 in
set_option maxHeartbeats 4000000 in
theorem less_any (A : Option Addr) (n c : Nat) (A' : Option Addr) (m d : Nat) (t : Town) (F : FuncId) (C : Array Value) (p : Link → Bool) (w : World) (hn : n ≤ 1000) (hm : m ≤ 1000) (ht : TownAt w w.heap.size A n A' m t) (hp : PredL w w.heap.size F C p) :
    Calls Tryd.prog 60 #[.agg #[.slice A n c, .slice A' m d], .func (.func F) #[] C] w fun e w' => TownOut w e w' (lessT t p) := by
  have hen := hp.enters
  have HT := Lib.hid ht
  have HP := Lib.hid hp
  have hn1 : n ≤ maxLen := by unfold maxLen; omega
  have hm1 : m ≤ maxLen := by unfold maxLen; omega
  have hn2 : n * 8 ≤ 140737488355328 := by omega
  have hm2 : m * 40 ≤ 140737488355328 := by omega
  have HLn := Lib.hid ht.places.len
  have HLm := Lib.hid ht.links.len
  clear ht hp
  go_enter Tryd.func60, Tryd.ntmps60
  go_wp2_with fail
  have X0 := (Blk.new w 25 #[.slice A n c, .slice A' m d]).alloc (.cells #[.slice none 0 0, .slice none 0 0] 25)
  have Z0 := Blk.new (w.alloc (.cells #[.slice A n c, .slice A' m d] 25)) 25 #[.slice none 0 0, .slice none 0 0]
  have B0 : Below w.heap.size w ((w.alloc (.cells #[.slice A n c, .slice A' m d] 25)).alloc (.cells #[.slice none 0 0, .slice none 0 0] 25)) := ((Below.refl _ _).alloc (Nat.le_refl _) _).alloc (by simp) _
  rw [World.size_alloc] at Z0
  generalize ((w.alloc (.cells #[.slice A n c, .slice A' m d] 25)).alloc (.cells #[.slice none 0 0, .slice none 0 0] 25)) = w0 at *
  have XB := Lib.hid (X0.drew)
  have ZB := Lib.hid (Z0.drew)
  have BB := Lib.hid B0.drew
  have K0 : w0.drew.cell? ⟨w.heap.size, 0, none⟩ = some (.slice A n c) ∧ w0.drew.cell? ⟨w.heap.size, 1, none⟩ = some (.slice A' m d) := ⟨X0.cell 0, X0.cell 1⟩
  clear X0 Z0 B0
  go_region_held3 (fun w' => w'.cell? ⟨w.heap.size, 0, none⟩ = some (.slice A n c) ∧ w'.cell? ⟨w.heap.size, 1, none⟩ = some (.slice A' m d))
    (first | with_reducible assumption | exact ⟨((XB.out.far (p := ⟨w.heap.size + 1, 0, none⟩) (by show w.heap.size ≠ w.heap.size + 1; omega) _).far (p := ⟨w.heap.size + 1, 1, none⟩) (by show w.heap.size ≠ w.heap.size + 1; omega) _).cell 0, ((XB.out.far (p := ⟨w.heap.size + 1, 0, none⟩) (by show w.heap.size ≠ w.heap.size + 1; omega) _).far (p := ⟨w.heap.size + 1, 1, none⟩) (by show w.heap.size ≠ w.heap.size + 1; omega) _).cell 1⟩)
    (first
      | ((with_reducible refine (clone_int A n c t.places _ ((HT.out.places.below BB.out).more BB.out.size) hn1 hn2).mono ?_); rintro e w1 ⟨AP, cP, rfl, hP, -, hb⟩; (try have hdis := Lib.hid (apart_new HK.out hP (Nat.le_refl _)).symm); (try have HK := Lib.hid (HK.out.below hb (Nat.le_refl _))); have hlowP := Lib.hid (fun a (h : AP = some a) => (hP.lt h).1); have hXP := Lib.hid (fun a (h : AP = some a) => show w.heap.size + 1 < a.block from Nat.lt_of_lt_of_le ZB.out.lt (hlowP.out a h)); have HP' := Lib.hid (hP.mono BB.out.size); have XB := Lib.hid (XB.out.below hb XB.out.lt); have ZB := Lib.hid (ZB.out.below hb ZB.out.lt); have BB := Lib.hid (BB.out.trans (hb.mono BB.out.size)); clear hP hb; have K1 : w1.cell? ⟨w.heap.size, 0, none⟩ = some (.slice A n c) ∧ w1.cell? ⟨w.heap.size, 1, none⟩ = some (.slice A' m d) := ⟨XB.out.cell 0, XB.out.cell 1⟩; have z0 := ZB.out.cell 0; have z1 := ZB.out.cell 1; have y0 := ZB.out.frozen 0; have y1 := ZB.out.frozen 1)
      | ((with_reducible refine (clone_link A' m d t.links _ ((HT.out.links.below BB.out).more BB.out.size) hm1 hm2).mono ?_); rintro e w1 ⟨AK, cK, rfl, hK, -, hb⟩; (try have hdis := Lib.hid (apart_new HP'.out hK (Nat.le_refl _))); (try have HP' := Lib.hid (HP'.out.below hb (Nat.le_refl _))); have hlow := Lib.hid (fun a (h : AK = some a) => (hK.lt h).1); have HK := Lib.hid (hK.mono BB.out.size); have hXK := Lib.hid (fun a (h : AK = some a) => show w.heap.size + 1 < a.block from Nat.lt_of_lt_of_le ZB.out.lt (hlow.out a h)); have XB := Lib.hid (XB.out.below hb XB.out.lt); have ZB := Lib.hid (ZB.out.below hb ZB.out.lt); have BB := Lib.hid (BB.out.trans (hb.mono BB.out.size)); clear hK hb; have K1 : w1.cell? ⟨w.heap.size, 0, none⟩ = some (.slice A n c) ∧ w1.cell? ⟨w.heap.size, 1, none⟩ = some (.slice A' m d) := ⟨XB.out.cell 0, XB.out.cell 1⟩; have z0 := ZB.out.cell 0; have z1 := ZB.out.cell 1; have y0 := ZB.out.frozen 0; have y1 := ZB.out.frozen 1)
      | ((with_reducible refine (deleteFunc_link w.heap.size w.heap.size F C p AK m cK t.links _ HK.out (Nat.le_refl _) BB.out.size (HP.out.below BB.out)).mono ?_); rintro e w1 ⟨rfl, hK2, hg⟩; (try have HP' := Lib.hid (HP'.out.grown hg (fun a ha => by cases AK with | none => simp | some b => simpa using hdis.out a b ha rfl))); have HK := Lib.hid hK2; have XB := Lib.hid (XB.out.grown hg (by cases AK with | none => simp | some b => (have := hXK.out b rfl; simp; omega))); have ZB := Lib.hid (ZB.out.grown hg (by cases AK with | none => simp | some b => (have := hXK.out b rfl; simp; omega))); have BB := Lib.hid (BB.out.grown hg BB.out.size (fun k hk => by cases AK with | none => cases hk | some b => (have := hXK.out b rfl; simp at hk; omega))); clear hK2 hg; have K1 : w1.cell? ⟨w.heap.size, 0, none⟩ = some (.slice A n c) ∧ w1.cell? ⟨w.heap.size, 1, none⟩ = some (.slice A' m d) := ⟨XB.out.cell 0, XB.out.cell 1⟩; have z0 := ZB.out.cell 0; have z1 := ZB.out.cell 1; have y0 := ZB.out.frozen 0; have y1 := ZB.out.frozen 1)
      | fail)
  all_goals
    go_wp2_with fail
    refine bodyPost_ret (v := .agg #[.slice AP n cP, .slice AK (t.links.filter fun x => !p x).length cK]) (by simp [results, Tryd.results60, go_sem, z0, z1]) rfl ?_
    refine ⟨AP, cP, AK, cK, by rw [show (lessT t p).places.length = n from HLn.out]; rfl, ?_, ?_, hdis.out, (BB.out.setCell (p := ⟨w.heap.size + 1, 0, none⟩) (Nat.le_succ _) _).setCell (p := ⟨w.heap.size + 1, 1, none⟩) (Nat.le_succ _) _⟩
    · have h := HP'.out.grown (grown_setCell (grown_setCell (grown_refl _ (some (w.heap.size + 1))) (p := ⟨w.heap.size + 1, 0, none⟩) (.inl rfl) (.slice AP n cP)) (p := ⟨w.heap.size + 1, 1, none⟩) (.inl rfl) (.slice AK (t.links.filter fun x => !p x).length cK)) (fun a ha => by have := hXP.out a ha; simp; omega)
      rw [show (lessT t p).places.length = n from HLn.out]
      exact h
    · exact HK.out.grown (grown_setCell (grown_setCell (grown_refl _ (some (w.heap.size + 1))) (p := ⟨w.heap.size + 1, 0, none⟩) (.inl rfl) (.slice AP n cP)) (p := ⟨w.heap.size + 1, 1, none⟩) (.inl rfl) (.slice AK (t.links.filter fun x => !p x).length cK)) (fun a ha => by have := hXK.out a ha; simp; omega)
end Go.Proofs.YtahkjagjcogeiaaDoor
