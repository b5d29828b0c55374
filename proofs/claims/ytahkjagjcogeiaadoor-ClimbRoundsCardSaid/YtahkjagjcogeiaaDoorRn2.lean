/- Part 2 of the texts of this claim, joined. -/
import Derived.Laws.StructEq
import Derived.Laws.EntriesVeiled
import Derived.Deep.RegionHeld3
import Derived.OwnWalk
import Derived.Shelf.Abstract
import Derived.Scope
import Derived.Test.YtahkjagjcogeiaaDoorRn1
/- The answer's Twin. -/
namespace Go.Proofs.YtahkjagjcogeiaaDoor
open Go.RowKit
set_option linter.unusedVariables false

structure TwinGh where
  g0 : Nat
  A1 : Option Addr
  c1 : Nat
  g4 : Nat
  A2 : Option Addr
  c2 : Nat

set_option maxRecDepth 100000 in
set_option maxHeartbeats 8000000 in
theorem twin_any (A : Option Addr) (n c : Nat) (A' : Option Addr) (m d : Nat) (t : Town) (w : World) (hn : n ≤ 1000) (hm : m ≤ 1000) (ht : TownAt w w.heap.size A n A' m t) :
    Calls Tryd.prog 10 #[.agg #[.slice A n c, .slice A' m d]] w fun e w' => TownOut w e w' t := by
  have HT := Lib.hid ht
  have HLn := Lib.hid ht.places.len
  have HLm := Lib.hid ht.links.len
  have hn1 : n ≤ maxLen := by unfold maxLen; omega
  have hm1 : m ≤ maxLen := by unfold maxLen; omega
  have hn2 : n * 8 ≤ 140737488355328 := by omega
  have hm2 : m * 40 ≤ 140737488355328 := by omega
  clear ht
  go_enter Tryd.func10, Tryd.ntmps10
  go_wp2_with fail
  have X0 := (Blk.new w 25 #[.slice A n c, .slice A' m d]).alloc (.cells #[.slice none 0 0, .slice none 0 0] 25)
  have Z0 := Blk.new (w.alloc (.cells #[.slice A n c, .slice A' m d] 25)) 25 #[.slice none 0 0, .slice none 0 0]
  have B0 : Below w.heap.size w ((w.alloc (.cells #[.slice A n c, .slice A' m d] 25)).alloc (.cells #[.slice none 0 0, .slice none 0 0] 25)) := ((Below.refl _ _).alloc (Nat.le_refl _) _).alloc (by simp) _
  rw [World.size_alloc] at Z0
  generalize ((w.alloc (.cells #[.slice A n c, .slice A' m d] 25)).alloc (.cells #[.slice none 0 0, .slice none 0 0] 25)) = w0 at *
  refine wp_region_steps (by kernel_rfl) (by kernel_rfl) (fun σ : TwinGh × (Nat → Value) => { tmps := #[.agg #[.slice A n c, .slice A' m d], .pointer (some ⟨w.heap.size, 0, none⟩), .pointer (some ⟨w.heap.size + 1, 0, none⟩), σ.2 3, σ.2 4, σ.2 5, σ.2 6, σ.2 7, σ.2 8, σ.2 9, σ.2 10, σ.2 11], defers := [] })
    (fun L σ W => (Below w.heap.size w W) ∧ (Blk W w.heap.size 25 #[.slice A n c, .slice A' m d]) ∧ (L 9 = false → Blk W (w.heap.size + 1) 25 #[.slice none 0 0, .slice none 0 0]) ∧ (L 9 = true → Blk W (w.heap.size + 1) 25 #[.slice σ.1.A1 n σ.1.c1, .slice σ.1.A2 m σ.1.c2]) ∧ (L 0 = true → L 3 = false → Blk W σ.1.g0 3 #[] ∧ w.heap.size + 1 < σ.1.g0) ∧ (L 4 = true → L 7 = false → Blk W σ.1.g4 45 #[] ∧ w.heap.size + 1 < σ.1.g4) ∧ (L 3 = true → Own W w.heap.size 3 1 σ.1.A1 n σ.1.c1 (t.places.map (Value.int .i64)) ∧ Above (w.heap.size + 1) σ.1.A1) ∧ (L 7 = true → Own W w.heap.size 45 5 σ.1.A2 m σ.1.c2 (t.links.flatMap Link.vals) ∧ Above (w.heap.size + 1) σ.1.A2) ∧ (L 3 = true → L 7 = true → Apart σ.1.A1 σ.1.A2) ∧ (L 3 = true → L 4 = true → L 7 = false → ∀ a, σ.1.A1 = some a → a.block ≠ σ.1.g4) ∧ (L 0 = true → L 7 = true → L 3 = false → ∀ a, σ.1.A2 = some a → a.block ≠ σ.1.g0) ∧ (L 0 = true → L 4 = true → L 3 = false → L 7 = false → σ.1.g0 ≠ σ.1.g4) ∧ (L 0 = true → σ.2 3 = .slice (some ⟨σ.1.g0, 0, none⟩) 0 0) ∧ (L 1 = true → σ.2 4 = .pointer (some ⟨w.heap.size, 0, none⟩)) ∧ (L 2 = true → σ.2 5 = .slice A n c) ∧ (L 3 = true → σ.2 6 = .slice σ.1.A1 n σ.1.c1) ∧ (L 4 = true → σ.2 7 = .slice (some ⟨σ.1.g4, 0, none⟩) 0 0) ∧ (L 5 = true → σ.2 8 = .pointer (some ⟨w.heap.size, 1, none⟩)) ∧ (L 6 = true → σ.2 9 = .slice A' m d) ∧ (L 7 = true → σ.2 10 = .slice σ.1.A2 m σ.1.c2) ∧ (L 8 = true → σ.2 11 = .agg #[.slice σ.1.A1 n σ.1.c1, .slice σ.1.A2 m σ.1.c2]))
    (⟨0, none, 0, 0, none, 0⟩, fun k => undef) rfl ?_ ?_ ?_
  · exact ⟨B0.drew, X0.drew, fun _ => Z0.drew, (fun h => by cases h), (fun h => by cases h), (fun h => by cases h), (fun h => by cases h), (fun h => by cases h), (fun h => by cases h), (fun h => by cases h), (fun h => by cases h), (fun h => by cases h), (fun h => by cases h), (fun h => by cases h), (fun h => by cases h), (fun h => by cases h), (fun h => by cases h), (fun h => by cases h), (fun h => by cases h), (fun h => by cases h), (fun h => by cases h)⟩
  · refine ⟨?_, ?_, ?_, ?_, ?_, ?_, ?_, ?_, ?_, ?_, trivial⟩
    · rintro L ⟨gh, s⟩ W hu hd hdn ⟨g1, g2, gZ, gR, gE, gF, g3, g7, d37, d34, d07, d04, f0, f1, f2, f3, f4, f5, f6, f7, f8⟩ K Q hK
      try dsimp only at g1 g2 gZ gR gE gF g3 g7 d37 d34 d07 d04 f0 f1 f2 f3 f4 f5 f6 f7 f8 ⊢
      have h9 : L 9 = false := by
        cases hc : L 9 with
        | false => rfl
        | true => exact hdn.no 9 0 hc rfl hu
      have hW := (gZ h9).lt
      have HF := Lib.hid (show (Below w.heap.size w W) ∧ (Blk W w.heap.size 25 #[.slice A n c, .slice A' m d]) ∧ (L 9 = false → Blk W (w.heap.size + 1) 25 #[.slice none 0 0, .slice none 0 0]) ∧ (L 9 = true → Blk W (w.heap.size + 1) 25 #[.slice gh.A1 n gh.c1, .slice gh.A2 m gh.c2]) ∧ (L 0 = true → L 3 = false → Blk W gh.g0 3 #[] ∧ w.heap.size + 1 < gh.g0) ∧ (L 4 = true → L 7 = false → Blk W gh.g4 45 #[] ∧ w.heap.size + 1 < gh.g4) ∧ (L 3 = true → Own W w.heap.size 3 1 gh.A1 n gh.c1 (t.places.map (Value.int .i64)) ∧ Above (w.heap.size + 1) gh.A1) ∧ (L 7 = true → Own W w.heap.size 45 5 gh.A2 m gh.c2 (t.links.flatMap Link.vals) ∧ Above (w.heap.size + 1) gh.A2) ∧ (L 3 = true → L 7 = true → Apart gh.A1 gh.A2) ∧ (L 3 = true → L 4 = true → L 7 = false → ∀ a, gh.A1 = some a → a.block ≠ gh.g4) ∧ (L 0 = true → L 7 = true → L 3 = false → ∀ a, gh.A2 = some a → a.block ≠ gh.g0) ∧ (L 0 = true → L 4 = true → L 3 = false → L 7 = false → gh.g0 ≠ gh.g4) ∧ (L 0 = true → s 3 = .slice (some ⟨gh.g0, 0, none⟩) 0 0) ∧ (L 1 = true → s 4 = .pointer (some ⟨w.heap.size, 0, none⟩)) ∧ (L 2 = true → s 5 = .slice A n c) ∧ (L 3 = true → s 6 = .slice gh.A1 n gh.c1) ∧ (L 4 = true → s 7 = .slice (some ⟨gh.g4, 0, none⟩) 0 0) ∧ (L 5 = true → s 8 = .pointer (some ⟨w.heap.size, 1, none⟩)) ∧ (L 6 = true → s 9 = .slice A' m d) ∧ (L 7 = true → s 10 = .slice gh.A2 m gh.c2) ∧ (L 8 = true → s 11 = .agg #[.slice gh.A1 n gh.c1, .slice gh.A2 m gh.c2]) from ⟨g1, g2, gZ, gR, gE, gF, g3, g7, d37, d34, d07, d04, f0, f1, f2, f3, f4, f5, f6, f7, f8⟩)
      clear f8 f7 f6 f5 f4 f3 f2 f1 f0 d04 d07 d34 d37 g7 g3 gF gE gR gZ g2 g1 hd
      try simp only
      go_wp2_with fail
      obtain ⟨g1, g2, gZ, gR, gE, gF, g3, g7, d37, d34, d07, d04, f0, f1, f2, f3, f4, f5, f6, f7, f8⟩ := HF.out
      have hb : Below W.heap.size W (W.alloc (.cells #[] 3)) := (Below.refl _ _).alloc (Nat.le_refl _) _
      exact hK ({ gh with g0 := W.heap.size }, (upd s 3 (.slice (some ⟨W.heap.size, 0, none⟩) 0 0))) _ ⟨(g1.trans (hb.mono g1.size)), (g2.below hb g2.lt), (fun h => (gZ h).below hb (gZ h).lt), (fun h => (gR h).below hb (gR h).lt), (fun _ _ => ⟨Blk.new W _ _, hW⟩), (fun h h3 => ⟨(gF h h3).1.below hb (gF h h3).1.lt, (gF h h3).2⟩), (fun h => ⟨(g3 h).1.below hb (Nat.le_refl _), (g3 h).2⟩), (fun h => ⟨(g7 h).1.below hb (Nat.le_refl _), (g7 h).2⟩), d37, d34, (fun _ h7 _ a ha => fun (e : a.block = W.heap.size) => by have := ((g7 h7).1.lt ha).2; omega), (fun _ h4 _ h7 => fun (e : W.heap.size = gh.g4) => by have := (gF h4 h7).1.lt; omega), (fun _ => rfl), f1, f2, f3, f4, f5, f6, f7, f8⟩
    · rintro L ⟨gh, s⟩ W hu hd hdn ⟨g1, g2, gZ, gR, gE, gF, g3, g7, d37, d34, d07, d04, f0, f1, f2, f3, f4, f5, f6, f7, f8⟩ K Q hK
      try dsimp only at g1 g2 gZ gR gE gF g3 g7 d37 d34 d07 d04 f0 f1 f2 f3 f4 f5 f6 f7 f8 ⊢
      have HF := Lib.hid (show (Below w.heap.size w W) ∧ (Blk W w.heap.size 25 #[.slice A n c, .slice A' m d]) ∧ (L 9 = false → Blk W (w.heap.size + 1) 25 #[.slice none 0 0, .slice none 0 0]) ∧ (L 9 = true → Blk W (w.heap.size + 1) 25 #[.slice gh.A1 n gh.c1, .slice gh.A2 m gh.c2]) ∧ (L 0 = true → L 3 = false → Blk W gh.g0 3 #[] ∧ w.heap.size + 1 < gh.g0) ∧ (L 4 = true → L 7 = false → Blk W gh.g4 45 #[] ∧ w.heap.size + 1 < gh.g4) ∧ (L 3 = true → Own W w.heap.size 3 1 gh.A1 n gh.c1 (t.places.map (Value.int .i64)) ∧ Above (w.heap.size + 1) gh.A1) ∧ (L 7 = true → Own W w.heap.size 45 5 gh.A2 m gh.c2 (t.links.flatMap Link.vals) ∧ Above (w.heap.size + 1) gh.A2) ∧ (L 3 = true → L 7 = true → Apart gh.A1 gh.A2) ∧ (L 3 = true → L 4 = true → L 7 = false → ∀ a, gh.A1 = some a → a.block ≠ gh.g4) ∧ (L 0 = true → L 7 = true → L 3 = false → ∀ a, gh.A2 = some a → a.block ≠ gh.g0) ∧ (L 0 = true → L 4 = true → L 3 = false → L 7 = false → gh.g0 ≠ gh.g4) ∧ (L 0 = true → s 3 = .slice (some ⟨gh.g0, 0, none⟩) 0 0) ∧ (L 1 = true → s 4 = .pointer (some ⟨w.heap.size, 0, none⟩)) ∧ (L 2 = true → s 5 = .slice A n c) ∧ (L 3 = true → s 6 = .slice gh.A1 n gh.c1) ∧ (L 4 = true → s 7 = .slice (some ⟨gh.g4, 0, none⟩) 0 0) ∧ (L 5 = true → s 8 = .pointer (some ⟨w.heap.size, 1, none⟩)) ∧ (L 6 = true → s 9 = .slice A' m d) ∧ (L 7 = true → s 10 = .slice gh.A2 m gh.c2) ∧ (L 8 = true → s 11 = .agg #[.slice gh.A1 n gh.c1, .slice gh.A2 m gh.c2]) from ⟨g1, g2, gZ, gR, gE, gF, g3, g7, d37, d34, d07, d04, f0, f1, f2, f3, f4, f5, f6, f7, f8⟩)
      clear f8 f7 f6 f5 f4 f3 f2 f1 f0 d04 d07 d34 d37 g7 g3 gF gE gR gZ g2 g1 hd
      try simp only
      go_wp2_with fail
      obtain ⟨g1, g2, gZ, gR, gE, gF, g3, g7, d37, d34, d07, d04, f0, f1, f2, f3, f4, f5, f6, f7, f8⟩ := HF.out
      exact hK (gh, (upd s 4 (.pointer (some ⟨w.heap.size, 0, none⟩)))) _ ⟨g1, g2, gZ, gR, gE, gF, g3, g7, d37, d34, d07, d04, f0, (fun _ => rfl), f2, f3, f4, f5, f6, f7, f8⟩
    · rintro L ⟨gh, s⟩ W hu hd hdn ⟨g1, g2, gZ, gR, gE, gF, g3, g7, d37, d34, d07, d04, f0, f1, f2, f3, f4, f5, f6, f7, f8⟩ K Q hK
      try dsimp only at g1 g2 gZ gR gE gF g3 g7 d37 d34 d07 d04 f0 f1 f2 f3 f4 f5 f6 f7 f8 ⊢
      have e1 := f1 (hd.at_ 1 rfl)
      have c0 : W.cell? ⟨w.heap.size, 0, none⟩ = some (.slice A n c) := g2.cell 0
      have HF := Lib.hid (show (Below w.heap.size w W) ∧ (Blk W w.heap.size 25 #[.slice A n c, .slice A' m d]) ∧ (L 9 = false → Blk W (w.heap.size + 1) 25 #[.slice none 0 0, .slice none 0 0]) ∧ (L 9 = true → Blk W (w.heap.size + 1) 25 #[.slice gh.A1 n gh.c1, .slice gh.A2 m gh.c2]) ∧ (L 0 = true → L 3 = false → Blk W gh.g0 3 #[] ∧ w.heap.size + 1 < gh.g0) ∧ (L 4 = true → L 7 = false → Blk W gh.g4 45 #[] ∧ w.heap.size + 1 < gh.g4) ∧ (L 3 = true → Own W w.heap.size 3 1 gh.A1 n gh.c1 (t.places.map (Value.int .i64)) ∧ Above (w.heap.size + 1) gh.A1) ∧ (L 7 = true → Own W w.heap.size 45 5 gh.A2 m gh.c2 (t.links.flatMap Link.vals) ∧ Above (w.heap.size + 1) gh.A2) ∧ (L 3 = true → L 7 = true → Apart gh.A1 gh.A2) ∧ (L 3 = true → L 4 = true → L 7 = false → ∀ a, gh.A1 = some a → a.block ≠ gh.g4) ∧ (L 0 = true → L 7 = true → L 3 = false → ∀ a, gh.A2 = some a → a.block ≠ gh.g0) ∧ (L 0 = true → L 4 = true → L 3 = false → L 7 = false → gh.g0 ≠ gh.g4) ∧ (L 0 = true → s 3 = .slice (some ⟨gh.g0, 0, none⟩) 0 0) ∧ (L 1 = true → s 4 = .pointer (some ⟨w.heap.size, 0, none⟩)) ∧ (L 2 = true → s 5 = .slice A n c) ∧ (L 3 = true → s 6 = .slice gh.A1 n gh.c1) ∧ (L 4 = true → s 7 = .slice (some ⟨gh.g4, 0, none⟩) 0 0) ∧ (L 5 = true → s 8 = .pointer (some ⟨w.heap.size, 1, none⟩)) ∧ (L 6 = true → s 9 = .slice A' m d) ∧ (L 7 = true → s 10 = .slice gh.A2 m gh.c2) ∧ (L 8 = true → s 11 = .agg #[.slice gh.A1 n gh.c1, .slice gh.A2 m gh.c2]) from ⟨g1, g2, gZ, gR, gE, gF, g3, g7, d37, d34, d07, d04, f0, f1, f2, f3, f4, f5, f6, f7, f8⟩)
      clear f8 f7 f6 f5 f4 f3 f2 f1 f0 d04 d07 d34 d37 g7 g3 gF gE gR gZ g2 g1 hd
      try simp only at e1 ⊢
      go_wp2_with fail
      obtain ⟨g1, g2, gZ, gR, gE, gF, g3, g7, d37, d34, d07, d04, f0, f1, f2, f3, f4, f5, f6, f7, f8⟩ := HF.out
      exact hK (gh, (upd (upd s 4 (.pointer (some ⟨w.heap.size, 0, none⟩))) 5 (.slice A n c))) _ ⟨g1, g2, gZ, gR, gE, gF, g3, g7, d37, d34, d07, d04, f0, (fun _ => rfl), (fun _ => rfl), f3, f4, f5, f6, f7, f8⟩
    · rintro L ⟨gh, s⟩ W hu hd hdn ⟨g1, g2, gZ, gR, gE, gF, g3, g7, d37, d34, d07, d04, f0, f1, f2, f3, f4, f5, f6, f7, f8⟩ K Q hK
      try dsimp only at g1 g2 gZ gR gE gF g3 g7 d37 d34 d07 d04 f0 f1 f2 f3 f4 f5 f6 f7 f8 ⊢
      have e0 := f0 (hd.at_ 0 rfl)
      have e2 := f2 (hd.at_ 2 rfl)
      have h9 : L 9 = false := by
        cases hc : L 9 with
        | false => rfl
        | true => exact hdn.no 9 3 hc rfl hu
      have HE := Lib.hid (gE (hd.at_ 0 rfl) hu)
      have HI := Lib.hid ((HT.out.places.below g1).more g1.size)
      have HO : Hid (Own W w.heap.size 3 1 (some ⟨gh.g0, 0, none⟩) 0 0 []) := Own.mk_ (by have := HE.out.2; omega) HE.out.1 (Nat.le_refl _) (Nat.zero_le _) rfl rfl (fun k hk => by omega)
      have HG1 := Lib.hid g1
      have h0 : L 0 = true := hd.at_ 0 rfl
      have hW := (gZ h9).lt
      have HF := Lib.hid (show (Below w.heap.size w W) ∧ (Blk W w.heap.size 25 #[.slice A n c, .slice A' m d]) ∧ (L 9 = false → Blk W (w.heap.size + 1) 25 #[.slice none 0 0, .slice none 0 0]) ∧ (L 9 = true → Blk W (w.heap.size + 1) 25 #[.slice gh.A1 n gh.c1, .slice gh.A2 m gh.c2]) ∧ (L 0 = true → L 3 = false → Blk W gh.g0 3 #[] ∧ w.heap.size + 1 < gh.g0) ∧ (L 4 = true → L 7 = false → Blk W gh.g4 45 #[] ∧ w.heap.size + 1 < gh.g4) ∧ (L 3 = true → Own W w.heap.size 3 1 gh.A1 n gh.c1 (t.places.map (Value.int .i64)) ∧ Above (w.heap.size + 1) gh.A1) ∧ (L 7 = true → Own W w.heap.size 45 5 gh.A2 m gh.c2 (t.links.flatMap Link.vals) ∧ Above (w.heap.size + 1) gh.A2) ∧ (L 3 = true → L 7 = true → Apart gh.A1 gh.A2) ∧ (L 3 = true → L 4 = true → L 7 = false → ∀ a, gh.A1 = some a → a.block ≠ gh.g4) ∧ (L 0 = true → L 7 = true → L 3 = false → ∀ a, gh.A2 = some a → a.block ≠ gh.g0) ∧ (L 0 = true → L 4 = true → L 3 = false → L 7 = false → gh.g0 ≠ gh.g4) ∧ (L 0 = true → s 3 = .slice (some ⟨gh.g0, 0, none⟩) 0 0) ∧ (L 1 = true → s 4 = .pointer (some ⟨w.heap.size, 0, none⟩)) ∧ (L 2 = true → s 5 = .slice A n c) ∧ (L 3 = true → s 6 = .slice gh.A1 n gh.c1) ∧ (L 4 = true → s 7 = .slice (some ⟨gh.g4, 0, none⟩) 0 0) ∧ (L 5 = true → s 8 = .pointer (some ⟨w.heap.size, 1, none⟩)) ∧ (L 6 = true → s 9 = .slice A' m d) ∧ (L 7 = true → s 10 = .slice gh.A2 m gh.c2) ∧ (L 8 = true → s 11 = .agg #[.slice gh.A1 n gh.c1, .slice gh.A2 m gh.c2]) from ⟨g1, g2, gZ, gR, gE, gF, g3, g7, d37, d34, d07, d04, f0, f1, f2, f3, f4, f5, f6, f7, f8⟩)
      clear f8 f7 f6 f5 f4 f3 f2 f1 f0 d04 d07 d34 d37 g7 g3 gF gE gR gZ g2 g1 hd
      try simp only at e0 e2 ⊢
      go_wp2_with (at_builtin; refine wpList_append_any _ rfl _ _ rfl elem_int e0 HO.out e2 HI.out (ints_one _) (by simpa using hn1) (by simpa using hn2) HG1.out.size ?_)
      rintro A1 c1 W1 hown hg hA
      have hg : W.grownBy W1 (some gh.g0) := hg
      go_wp2_with fail
      obtain ⟨g1, g2, gZ, gR, gE, gF, g3, g7, d37, d34, d07, d04, f0, f1, f2, f3, f4, f5, f6, f7, f8⟩ := HF.out
      have hg0 := HE.out.2
      have hA1 : Above (w.heap.size + 1) A1 := fun a ha => by
        rcases hA with h | h
        · rw [h] at ha; cases ha; exact hg0
        · rw [h] at ha; cases ha; exact hW
      exact hK ({ gh with A1 := A1, c1 := c1 }, (upd (upd (upd s 3 (.slice (some ⟨gh.g0, 0, none⟩) 0 0)) 5 (.slice A n c)) 6 (.slice A1 n c1))) _ ⟨(g1.grown hg g1.size (fun k hk => by cases hk; omega)), (g2.grown hg (by intro e; have := Option.some.inj e; omega)), (fun h => (gZ h).grown hg (by intro e; have := Option.some.inj e; omega)), (fun h => hdn.no 9 3 h rfl hu), (fun _ h => by cases h), (fun h h7 => ⟨(gF h h7).1.grown hg (by intro e; have := Option.some.inj e; exact d04 h0 h hu h7 this.symm), (gF h h7).2⟩), (fun _ => ⟨hown, hA1⟩), (fun h => ⟨(g7 h).1.grown hg (fun a ha => by intro e; exact d07 h0 h hu a ha (Option.some.inj e)), (g7 h).2⟩), (fun _ h7 => fun a b ha hb => by
            rcases hA with h | h
            · rw [h] at ha; cases ha; exact (d07 h0 h7 hu b hb).symm
            · rw [h] at ha; cases ha; exact fun e => by have := ((g7 h7).1.lt hb).2; simp at e; omega), (fun _ h4 h7 a ha => by
            rcases hA with h | h
            · rw [h] at ha; cases ha; exact d04 h0 h4 hu h7
            · rw [h] at ha; cases ha; exact fun e => by have := (gF h4 h7).1.lt; simp at e; omega), (fun _ _ h => by cases h), (fun _ _ h => by cases h), (fun _ => rfl), f1, (fun _ => rfl), (fun _ => rfl), f4, f5, f6, f7, (fun h => hdn.no 8 3 h rfl hu)⟩
    · rintro L ⟨gh, s⟩ W hu hd hdn ⟨g1, g2, gZ, gR, gE, gF, g3, g7, d37, d34, d07, d04, f0, f1, f2, f3, f4, f5, f6, f7, f8⟩ K Q hK
      try dsimp only at g1 g2 gZ gR gE gF g3 g7 d37 d34 d07 d04 f0 f1 f2 f3 f4 f5 f6 f7 f8 ⊢
      have h9 : L 9 = false := by
        cases hc : L 9 with
        | false => rfl
        | true => exact hdn.no 9 4 hc rfl hu
      have hW := (gZ h9).lt
      have HF := Lib.hid (show (Below w.heap.size w W) ∧ (Blk W w.heap.size 25 #[.slice A n c, .slice A' m d]) ∧ (L 9 = false → Blk W (w.heap.size + 1) 25 #[.slice none 0 0, .slice none 0 0]) ∧ (L 9 = true → Blk W (w.heap.size + 1) 25 #[.slice gh.A1 n gh.c1, .slice gh.A2 m gh.c2]) ∧ (L 0 = true → L 3 = false → Blk W gh.g0 3 #[] ∧ w.heap.size + 1 < gh.g0) ∧ (L 4 = true → L 7 = false → Blk W gh.g4 45 #[] ∧ w.heap.size + 1 < gh.g4) ∧ (L 3 = true → Own W w.heap.size 3 1 gh.A1 n gh.c1 (t.places.map (Value.int .i64)) ∧ Above (w.heap.size + 1) gh.A1) ∧ (L 7 = true → Own W w.heap.size 45 5 gh.A2 m gh.c2 (t.links.flatMap Link.vals) ∧ Above (w.heap.size + 1) gh.A2) ∧ (L 3 = true → L 7 = true → Apart gh.A1 gh.A2) ∧ (L 3 = true → L 4 = true → L 7 = false → ∀ a, gh.A1 = some a → a.block ≠ gh.g4) ∧ (L 0 = true → L 7 = true → L 3 = false → ∀ a, gh.A2 = some a → a.block ≠ gh.g0) ∧ (L 0 = true → L 4 = true → L 3 = false → L 7 = false → gh.g0 ≠ gh.g4) ∧ (L 0 = true → s 3 = .slice (some ⟨gh.g0, 0, none⟩) 0 0) ∧ (L 1 = true → s 4 = .pointer (some ⟨w.heap.size, 0, none⟩)) ∧ (L 2 = true → s 5 = .slice A n c) ∧ (L 3 = true → s 6 = .slice gh.A1 n gh.c1) ∧ (L 4 = true → s 7 = .slice (some ⟨gh.g4, 0, none⟩) 0 0) ∧ (L 5 = true → s 8 = .pointer (some ⟨w.heap.size, 1, none⟩)) ∧ (L 6 = true → s 9 = .slice A' m d) ∧ (L 7 = true → s 10 = .slice gh.A2 m gh.c2) ∧ (L 8 = true → s 11 = .agg #[.slice gh.A1 n gh.c1, .slice gh.A2 m gh.c2]) from ⟨g1, g2, gZ, gR, gE, gF, g3, g7, d37, d34, d07, d04, f0, f1, f2, f3, f4, f5, f6, f7, f8⟩)
      clear f8 f7 f6 f5 f4 f3 f2 f1 f0 d04 d07 d34 d37 g7 g3 gF gE gR gZ g2 g1 hd
      try simp only
      go_wp2_with fail
      obtain ⟨g1, g2, gZ, gR, gE, gF, g3, g7, d37, d34, d07, d04, f0, f1, f2, f3, f4, f5, f6, f7, f8⟩ := HF.out
      have hb : Below W.heap.size W (W.alloc (.cells #[] 45)) := (Below.refl _ _).alloc (Nat.le_refl _) _
      exact hK ({ gh with g4 := W.heap.size }, (upd s 7 (.slice (some ⟨W.heap.size, 0, none⟩) 0 0))) _ ⟨(g1.trans (hb.mono g1.size)), (g2.below hb g2.lt), (fun h => (gZ h).below hb (gZ h).lt), (fun h => (gR h).below hb (gR h).lt), (fun h h3 => ⟨(gE h h3).1.below hb (gE h h3).1.lt, (gE h h3).2⟩), (fun _ _ => ⟨Blk.new W _ _, hW⟩), (fun h => ⟨(g3 h).1.below hb (Nat.le_refl _), (g3 h).2⟩), (fun h => ⟨(g7 h).1.below hb (Nat.le_refl _), (g7 h).2⟩), d37, (fun h3 _ _ a ha => fun (e : a.block = W.heap.size) => by have := ((g3 h3).1.lt ha).2; omega), d07, (fun h0 _ h3 _ => fun (e : gh.g0 = W.heap.size) => by have := (gE h0 h3).1.lt; omega), f0, f1, f2, f3, (fun _ => rfl), f5, f6, f7, f8⟩
    · rintro L ⟨gh, s⟩ W hu hd hdn ⟨g1, g2, gZ, gR, gE, gF, g3, g7, d37, d34, d07, d04, f0, f1, f2, f3, f4, f5, f6, f7, f8⟩ K Q hK
      try dsimp only at g1 g2 gZ gR gE gF g3 g7 d37 d34 d07 d04 f0 f1 f2 f3 f4 f5 f6 f7 f8 ⊢
      have HF := Lib.hid (show (Below w.heap.size w W) ∧ (Blk W w.heap.size 25 #[.slice A n c, .slice A' m d]) ∧ (L 9 = false → Blk W (w.heap.size + 1) 25 #[.slice none 0 0, .slice none 0 0]) ∧ (L 9 = true → Blk W (w.heap.size + 1) 25 #[.slice gh.A1 n gh.c1, .slice gh.A2 m gh.c2]) ∧ (L 0 = true → L 3 = false → Blk W gh.g0 3 #[] ∧ w.heap.size + 1 < gh.g0) ∧ (L 4 = true → L 7 = false → Blk W gh.g4 45 #[] ∧ w.heap.size + 1 < gh.g4) ∧ (L 3 = true → Own W w.heap.size 3 1 gh.A1 n gh.c1 (t.places.map (Value.int .i64)) ∧ Above (w.heap.size + 1) gh.A1) ∧ (L 7 = true → Own W w.heap.size 45 5 gh.A2 m gh.c2 (t.links.flatMap Link.vals) ∧ Above (w.heap.size + 1) gh.A2) ∧ (L 3 = true → L 7 = true → Apart gh.A1 gh.A2) ∧ (L 3 = true → L 4 = true → L 7 = false → ∀ a, gh.A1 = some a → a.block ≠ gh.g4) ∧ (L 0 = true → L 7 = true → L 3 = false → ∀ a, gh.A2 = some a → a.block ≠ gh.g0) ∧ (L 0 = true → L 4 = true → L 3 = false → L 7 = false → gh.g0 ≠ gh.g4) ∧ (L 0 = true → s 3 = .slice (some ⟨gh.g0, 0, none⟩) 0 0) ∧ (L 1 = true → s 4 = .pointer (some ⟨w.heap.size, 0, none⟩)) ∧ (L 2 = true → s 5 = .slice A n c) ∧ (L 3 = true → s 6 = .slice gh.A1 n gh.c1) ∧ (L 4 = true → s 7 = .slice (some ⟨gh.g4, 0, none⟩) 0 0) ∧ (L 5 = true → s 8 = .pointer (some ⟨w.heap.size, 1, none⟩)) ∧ (L 6 = true → s 9 = .slice A' m d) ∧ (L 7 = true → s 10 = .slice gh.A2 m gh.c2) ∧ (L 8 = true → s 11 = .agg #[.slice gh.A1 n gh.c1, .slice gh.A2 m gh.c2]) from ⟨g1, g2, gZ, gR, gE, gF, g3, g7, d37, d34, d07, d04, f0, f1, f2, f3, f4, f5, f6, f7, f8⟩)
      clear f8 f7 f6 f5 f4 f3 f2 f1 f0 d04 d07 d34 d37 g7 g3 gF gE gR gZ g2 g1 hd
      try simp only
      go_wp2_with fail
      obtain ⟨g1, g2, gZ, gR, gE, gF, g3, g7, d37, d34, d07, d04, f0, f1, f2, f3, f4, f5, f6, f7, f8⟩ := HF.out
      exact hK (gh, (upd s 8 (.pointer (some ⟨w.heap.size, 1, none⟩)))) _ ⟨g1, g2, gZ, gR, gE, gF, g3, g7, d37, d34, d07, d04, f0, f1, f2, f3, f4, (fun _ => rfl), f6, f7, f8⟩
    · rintro L ⟨gh, s⟩ W hu hd hdn ⟨g1, g2, gZ, gR, gE, gF, g3, g7, d37, d34, d07, d04, f0, f1, f2, f3, f4, f5, f6, f7, f8⟩ K Q hK
      try dsimp only at g1 g2 gZ gR gE gF g3 g7 d37 d34 d07 d04 f0 f1 f2 f3 f4 f5 f6 f7 f8 ⊢
      have e5 := f5 (hd.at_ 5 rfl)
      have c0 : W.cell? ⟨w.heap.size, 1, none⟩ = some (.slice A' m d) := g2.cell 1
      have HF := Lib.hid (show (Below w.heap.size w W) ∧ (Blk W w.heap.size 25 #[.slice A n c, .slice A' m d]) ∧ (L 9 = false → Blk W (w.heap.size + 1) 25 #[.slice none 0 0, .slice none 0 0]) ∧ (L 9 = true → Blk W (w.heap.size + 1) 25 #[.slice gh.A1 n gh.c1, .slice gh.A2 m gh.c2]) ∧ (L 0 = true → L 3 = false → Blk W gh.g0 3 #[] ∧ w.heap.size + 1 < gh.g0) ∧ (L 4 = true → L 7 = false → Blk W gh.g4 45 #[] ∧ w.heap.size + 1 < gh.g4) ∧ (L 3 = true → Own W w.heap.size 3 1 gh.A1 n gh.c1 (t.places.map (Value.int .i64)) ∧ Above (w.heap.size + 1) gh.A1) ∧ (L 7 = true → Own W w.heap.size 45 5 gh.A2 m gh.c2 (t.links.flatMap Link.vals) ∧ Above (w.heap.size + 1) gh.A2) ∧ (L 3 = true → L 7 = true → Apart gh.A1 gh.A2) ∧ (L 3 = true → L 4 = true → L 7 = false → ∀ a, gh.A1 = some a → a.block ≠ gh.g4) ∧ (L 0 = true → L 7 = true → L 3 = false → ∀ a, gh.A2 = some a → a.block ≠ gh.g0) ∧ (L 0 = true → L 4 = true → L 3 = false → L 7 = false → gh.g0 ≠ gh.g4) ∧ (L 0 = true → s 3 = .slice (some ⟨gh.g0, 0, none⟩) 0 0) ∧ (L 1 = true → s 4 = .pointer (some ⟨w.heap.size, 0, none⟩)) ∧ (L 2 = true → s 5 = .slice A n c) ∧ (L 3 = true → s 6 = .slice gh.A1 n gh.c1) ∧ (L 4 = true → s 7 = .slice (some ⟨gh.g4, 0, none⟩) 0 0) ∧ (L 5 = true → s 8 = .pointer (some ⟨w.heap.size, 1, none⟩)) ∧ (L 6 = true → s 9 = .slice A' m d) ∧ (L 7 = true → s 10 = .slice gh.A2 m gh.c2) ∧ (L 8 = true → s 11 = .agg #[.slice gh.A1 n gh.c1, .slice gh.A2 m gh.c2]) from ⟨g1, g2, gZ, gR, gE, gF, g3, g7, d37, d34, d07, d04, f0, f1, f2, f3, f4, f5, f6, f7, f8⟩)
      clear f8 f7 f6 f5 f4 f3 f2 f1 f0 d04 d07 d34 d37 g7 g3 gF gE gR gZ g2 g1 hd
      try simp only at e5 ⊢
      go_wp2_with fail
      obtain ⟨g1, g2, gZ, gR, gE, gF, g3, g7, d37, d34, d07, d04, f0, f1, f2, f3, f4, f5, f6, f7, f8⟩ := HF.out
      exact hK (gh, (upd (upd s 8 (.pointer (some ⟨w.heap.size, 1, none⟩))) 9 (.slice A' m d))) _ ⟨g1, g2, gZ, gR, gE, gF, g3, g7, d37, d34, d07, d04, f0, f1, f2, f3, f4, (fun _ => rfl), (fun _ => rfl), f7, f8⟩
    · rintro L ⟨gh, s⟩ W hu hd hdn ⟨g1, g2, gZ, gR, gE, gF, g3, g7, d37, d34, d07, d04, f0, f1, f2, f3, f4, f5, f6, f7, f8⟩ K Q hK
      try dsimp only at g1 g2 gZ gR gE gF g3 g7 d37 d34 d07 d04 f0 f1 f2 f3 f4 f5 f6 f7 f8 ⊢
      have e4 := f4 (hd.at_ 4 rfl)
      have e6 := f6 (hd.at_ 6 rfl)
      have h9 : L 9 = false := by
        cases hc : L 9 with
        | false => rfl
        | true => exact hdn.no 9 7 hc rfl hu
      have HE := Lib.hid (gF (hd.at_ 4 rfl) hu)
      have HI := Lib.hid ((HT.out.links.below g1).more g1.size)
      have HO : Hid (Own W w.heap.size 45 5 (some ⟨gh.g4, 0, none⟩) 0 0 []) := Own.mk_ (by have := HE.out.2; omega) HE.out.1 (Nat.le_refl _) (Nat.zero_le _) rfl rfl (fun k hk => by omega)
      have HG1 := Lib.hid g1
      have h4 : L 4 = true := hd.at_ 4 rfl
      have hW := (gZ h9).lt
      have HF := Lib.hid (show (Below w.heap.size w W) ∧ (Blk W w.heap.size 25 #[.slice A n c, .slice A' m d]) ∧ (L 9 = false → Blk W (w.heap.size + 1) 25 #[.slice none 0 0, .slice none 0 0]) ∧ (L 9 = true → Blk W (w.heap.size + 1) 25 #[.slice gh.A1 n gh.c1, .slice gh.A2 m gh.c2]) ∧ (L 0 = true → L 3 = false → Blk W gh.g0 3 #[] ∧ w.heap.size + 1 < gh.g0) ∧ (L 4 = true → L 7 = false → Blk W gh.g4 45 #[] ∧ w.heap.size + 1 < gh.g4) ∧ (L 3 = true → Own W w.heap.size 3 1 gh.A1 n gh.c1 (t.places.map (Value.int .i64)) ∧ Above (w.heap.size + 1) gh.A1) ∧ (L 7 = true → Own W w.heap.size 45 5 gh.A2 m gh.c2 (t.links.flatMap Link.vals) ∧ Above (w.heap.size + 1) gh.A2) ∧ (L 3 = true → L 7 = true → Apart gh.A1 gh.A2) ∧ (L 3 = true → L 4 = true → L 7 = false → ∀ a, gh.A1 = some a → a.block ≠ gh.g4) ∧ (L 0 = true → L 7 = true → L 3 = false → ∀ a, gh.A2 = some a → a.block ≠ gh.g0) ∧ (L 0 = true → L 4 = true → L 3 = false → L 7 = false → gh.g0 ≠ gh.g4) ∧ (L 0 = true → s 3 = .slice (some ⟨gh.g0, 0, none⟩) 0 0) ∧ (L 1 = true → s 4 = .pointer (some ⟨w.heap.size, 0, none⟩)) ∧ (L 2 = true → s 5 = .slice A n c) ∧ (L 3 = true → s 6 = .slice gh.A1 n gh.c1) ∧ (L 4 = true → s 7 = .slice (some ⟨gh.g4, 0, none⟩) 0 0) ∧ (L 5 = true → s 8 = .pointer (some ⟨w.heap.size, 1, none⟩)) ∧ (L 6 = true → s 9 = .slice A' m d) ∧ (L 7 = true → s 10 = .slice gh.A2 m gh.c2) ∧ (L 8 = true → s 11 = .agg #[.slice gh.A1 n gh.c1, .slice gh.A2 m gh.c2]) from ⟨g1, g2, gZ, gR, gE, gF, g3, g7, d37, d34, d07, d04, f0, f1, f2, f3, f4, f5, f6, f7, f8⟩)
      clear f8 f7 f6 f5 f4 f3 f2 f1 f0 d04 d07 d34 d37 g7 g3 gF gE gR gZ g2 g1 hd
      try simp only at e4 e6 ⊢
      go_wp2_with (at_builtin; refine wpList_append_any _ rfl _ _ rfl elem_link e4 HO.out e6 HI.out (links_one _) (by simpa using hm1) (by simpa using hm2) HG1.out.size ?_)
      rintro A2 c2 W1 hown hg hA
      have hg : W.grownBy W1 (some gh.g4) := hg
      go_wp2_with fail
      obtain ⟨g1, g2, gZ, gR, gE, gF, g3, g7, d37, d34, d07, d04, f0, f1, f2, f3, f4, f5, f6, f7, f8⟩ := HF.out
      have hg0 := HE.out.2
      have hA2 : Above (w.heap.size + 1) A2 := fun a ha => by
        rcases hA with h | h
        · rw [h] at ha; cases ha; exact hg0
        · rw [h] at ha; cases ha; exact hW
      exact hK ({ gh with A2 := A2, c2 := c2 }, (upd (upd (upd s 7 (.slice (some ⟨gh.g4, 0, none⟩) 0 0)) 9 (.slice A' m d)) 10 (.slice A2 m c2))) _ ⟨(g1.grown hg g1.size (fun k hk => by cases hk; omega)), (g2.grown hg (by intro e; have := Option.some.inj e; omega)), (fun h => (gZ h).grown hg (by intro e; have := Option.some.inj e; omega)), (fun h => hdn.no 9 7 h rfl hu), (fun h h3 => ⟨(gE h h3).1.grown hg (by intro e; have := Option.some.inj e; exact d04 h h4 h3 hu this), (gE h h3).2⟩), (fun _ h => by cases h), (fun h => ⟨(g3 h).1.grown hg (fun a ha => by intro e; exact d34 h h4 hu a ha (Option.some.inj e)), (g3 h).2⟩), (fun _ => ⟨hown, hA2⟩), (fun h3 _ => fun a b ha hb => by
            rcases hA with h | h
            · rw [h] at hb; cases hb; exact d34 h3 h4 hu a ha
            · rw [h] at hb; cases hb; exact fun e => by have := ((g3 h3).1.lt ha).2; simp at e; omega), (fun _ _ h => by cases h), (fun h0 _ h3 a ha => by
            rcases hA with h | h
            · rw [h] at ha; cases ha; exact (d04 h0 h4 h3 hu).symm
            · rw [h] at ha; cases ha; exact fun e => by have := (gE h0 h3).1.lt; simp at e; omega), (fun _ _ _ h => by cases h), f0, f1, f2, f3, (fun _ => rfl), f5, (fun _ => rfl), (fun _ => rfl), (fun h => hdn.no 8 7 h rfl hu)⟩
    · rintro L ⟨gh, s⟩ W hu hd hdn ⟨g1, g2, gZ, gR, gE, gF, g3, g7, d37, d34, d07, d04, f0, f1, f2, f3, f4, f5, f6, f7, f8⟩ K Q hK
      try dsimp only at g1 g2 gZ gR gE gF g3 g7 d37 d34 d07 d04 f0 f1 f2 f3 f4 f5 f6 f7 f8 ⊢
      have e3 := f3 (hd.at_ 3 rfl)
      have e7 := f7 (hd.at_ 7 rfl)
      have HF := Lib.hid (show (Below w.heap.size w W) ∧ (Blk W w.heap.size 25 #[.slice A n c, .slice A' m d]) ∧ (L 9 = false → Blk W (w.heap.size + 1) 25 #[.slice none 0 0, .slice none 0 0]) ∧ (L 9 = true → Blk W (w.heap.size + 1) 25 #[.slice gh.A1 n gh.c1, .slice gh.A2 m gh.c2]) ∧ (L 0 = true → L 3 = false → Blk W gh.g0 3 #[] ∧ w.heap.size + 1 < gh.g0) ∧ (L 4 = true → L 7 = false → Blk W gh.g4 45 #[] ∧ w.heap.size + 1 < gh.g4) ∧ (L 3 = true → Own W w.heap.size 3 1 gh.A1 n gh.c1 (t.places.map (Value.int .i64)) ∧ Above (w.heap.size + 1) gh.A1) ∧ (L 7 = true → Own W w.heap.size 45 5 gh.A2 m gh.c2 (t.links.flatMap Link.vals) ∧ Above (w.heap.size + 1) gh.A2) ∧ (L 3 = true → L 7 = true → Apart gh.A1 gh.A2) ∧ (L 3 = true → L 4 = true → L 7 = false → ∀ a, gh.A1 = some a → a.block ≠ gh.g4) ∧ (L 0 = true → L 7 = true → L 3 = false → ∀ a, gh.A2 = some a → a.block ≠ gh.g0) ∧ (L 0 = true → L 4 = true → L 3 = false → L 7 = false → gh.g0 ≠ gh.g4) ∧ (L 0 = true → s 3 = .slice (some ⟨gh.g0, 0, none⟩) 0 0) ∧ (L 1 = true → s 4 = .pointer (some ⟨w.heap.size, 0, none⟩)) ∧ (L 2 = true → s 5 = .slice A n c) ∧ (L 3 = true → s 6 = .slice gh.A1 n gh.c1) ∧ (L 4 = true → s 7 = .slice (some ⟨gh.g4, 0, none⟩) 0 0) ∧ (L 5 = true → s 8 = .pointer (some ⟨w.heap.size, 1, none⟩)) ∧ (L 6 = true → s 9 = .slice A' m d) ∧ (L 7 = true → s 10 = .slice gh.A2 m gh.c2) ∧ (L 8 = true → s 11 = .agg #[.slice gh.A1 n gh.c1, .slice gh.A2 m gh.c2]) from ⟨g1, g2, gZ, gR, gE, gF, g3, g7, d37, d34, d07, d04, f0, f1, f2, f3, f4, f5, f6, f7, f8⟩)
      clear f8 f7 f6 f5 f4 f3 f2 f1 f0 d04 d07 d34 d37 g7 g3 gF gE gR gZ g2 g1 hd
      try simp only at e3 e7 ⊢
      go_wp2_with fail
      obtain ⟨g1, g2, gZ, gR, gE, gF, g3, g7, d37, d34, d07, d04, f0, f1, f2, f3, f4, f5, f6, f7, f8⟩ := HF.out
      exact hK (gh, (upd (upd (upd s 6 (.slice gh.A1 n gh.c1)) 10 (.slice gh.A2 m gh.c2)) 11 (.agg #[.slice gh.A1 n gh.c1, .slice gh.A2 m gh.c2]))) _ ⟨g1, g2, gZ, gR, gE, gF, g3, g7, d37, d34, d07, d04, f0, f1, f2, (fun _ => rfl), f4, f5, f6, (fun _ => rfl), (fun _ => rfl)⟩
    · rintro L ⟨gh, s⟩ W hu hd hdn ⟨g1, g2, gZ, gR, gE, gF, g3, g7, d37, d34, d07, d04, f0, f1, f2, f3, f4, f5, f6, f7, f8⟩ K Q hK
      try dsimp only at g1 g2 gZ gR gE gF g3 g7 d37 d34 d07 d04 f0 f1 f2 f3 f4 f5 f6 f7 f8 ⊢
      have e8 := f8 (hd.at_ 8 rfl)
      have G2 := gZ hu
      have c0 : W.cell? ⟨w.heap.size + 1, 0, none⟩ = some (.slice none 0 0) := G2.cell 0
      have c1 : W.cell? ⟨w.heap.size + 1, 1, none⟩ = some (.slice none 0 0) := G2.cell 1
      have y0 : W.frozen? ⟨w.heap.size + 1, 0, none⟩ = false := G2.frozen 0
      have y1 : W.frozen? ⟨w.heap.size + 1, 1, none⟩ = false := G2.frozen 1
      have HG2 := Lib.hid G2
      clear G2
      have HF := Lib.hid (show (Below w.heap.size w W) ∧ (Blk W w.heap.size 25 #[.slice A n c, .slice A' m d]) ∧ (L 9 = false → Blk W (w.heap.size + 1) 25 #[.slice none 0 0, .slice none 0 0]) ∧ (L 9 = true → Blk W (w.heap.size + 1) 25 #[.slice gh.A1 n gh.c1, .slice gh.A2 m gh.c2]) ∧ (L 0 = true → L 3 = false → Blk W gh.g0 3 #[] ∧ w.heap.size + 1 < gh.g0) ∧ (L 4 = true → L 7 = false → Blk W gh.g4 45 #[] ∧ w.heap.size + 1 < gh.g4) ∧ (L 3 = true → Own W w.heap.size 3 1 gh.A1 n gh.c1 (t.places.map (Value.int .i64)) ∧ Above (w.heap.size + 1) gh.A1) ∧ (L 7 = true → Own W w.heap.size 45 5 gh.A2 m gh.c2 (t.links.flatMap Link.vals) ∧ Above (w.heap.size + 1) gh.A2) ∧ (L 3 = true → L 7 = true → Apart gh.A1 gh.A2) ∧ (L 3 = true → L 4 = true → L 7 = false → ∀ a, gh.A1 = some a → a.block ≠ gh.g4) ∧ (L 0 = true → L 7 = true → L 3 = false → ∀ a, gh.A2 = some a → a.block ≠ gh.g0) ∧ (L 0 = true → L 4 = true → L 3 = false → L 7 = false → gh.g0 ≠ gh.g4) ∧ (L 0 = true → s 3 = .slice (some ⟨gh.g0, 0, none⟩) 0 0) ∧ (L 1 = true → s 4 = .pointer (some ⟨w.heap.size, 0, none⟩)) ∧ (L 2 = true → s 5 = .slice A n c) ∧ (L 3 = true → s 6 = .slice gh.A1 n gh.c1) ∧ (L 4 = true → s 7 = .slice (some ⟨gh.g4, 0, none⟩) 0 0) ∧ (L 5 = true → s 8 = .pointer (some ⟨w.heap.size, 1, none⟩)) ∧ (L 6 = true → s 9 = .slice A' m d) ∧ (L 7 = true → s 10 = .slice gh.A2 m gh.c2) ∧ (L 8 = true → s 11 = .agg #[.slice gh.A1 n gh.c1, .slice gh.A2 m gh.c2]) from ⟨g1, g2, gZ, gR, gE, gF, g3, g7, d37, d34, d07, d04, f0, f1, f2, f3, f4, f5, f6, f7, f8⟩)
      clear f8 f7 f6 f5 f4 f3 f2 f1 f0 d04 d07 d34 d37 g7 g3 gF gE gR gZ g2 g1 hd
      try simp only at e8 ⊢
      go_wp2_with fail
      obtain ⟨g1, g2, gZ, gR, gE, gF, g3, g7, d37, d34, d07, d04, f0, f1, f2, f3, f4, f5, f6, f7, f8⟩ := HF.out
      have hg : W.grownBy ((W.setCell ⟨w.heap.size + 1, 0, none⟩ (.slice gh.A1 n gh.c1)).setCell ⟨w.heap.size + 1, 1, none⟩ (.slice gh.A2 m gh.c2)) (some (w.heap.size + 1)) := grown_setCell (grown_setCell (grown_refl _ _) (p := ⟨w.heap.size + 1, 0, none⟩) (.inl rfl) _) (p := ⟨w.heap.size + 1, 1, none⟩) (.inl rfl) _
      exact hK (gh, (upd s 11 (.agg #[.slice gh.A1 n gh.c1, .slice gh.A2 m gh.c2]))) _ ⟨(g1.grown hg g1.size (fun k hk => by cases hk; omega)), (g2.grown hg (by intro e; have := Option.some.inj e; omega)), (fun h => by cases h), (fun _ => (HG2.out.set_ 0 (.slice gh.A1 n gh.c1)).set_ 1 (.slice gh.A2 m gh.c2)), (fun h h3 => ⟨(gE h h3).1.grown hg (by have := (gE h h3).2; intro e; have := Option.some.inj e; omega), (gE h h3).2⟩), (fun h h3 => ⟨(gF h h3).1.grown hg (by have := (gF h h3).2; intro e; have := Option.some.inj e; omega), (gF h h3).2⟩), (fun h => ⟨(g3 h).1.grown hg (fun a ha => by have := (g3 h).2 a ha; intro e; have := Option.some.inj e; omega), (g3 h).2⟩), (fun h => ⟨(g7 h).1.grown hg (fun a ha => by have := (g7 h).2 a ha; intro e; have := Option.some.inj e; omega), (g7 h).2⟩), d37, d34, d07, d04, f0, f1, f2, f3, f4, f5, f6, f7, (fun _ => rfl)⟩
  · rintro L ⟨gh, s⟩ W hall ⟨g1, g2, gZ, gR, gE, gF, g3, g7, d37, d34, d07, d04, f0, f1, f2, f3, f4, f5, f6, f7, f8⟩
    have G := gR (hall 9 (by decide))
    have G3 := g3 (hall 3 (by decide))
    have G7 := g7 (hall 7 (by decide))
    have DD := Lib.hid (d37 (hall 3 (by decide)) (hall 7 (by decide)))
    have z0 := G.cell 0
    have z1 := G.cell 1
    have HG3 := Lib.hid G3
    have HG7 := Lib.hid G7
    have HG1 := Lib.hid g1
    clear hall g1 g2 gZ gR gE gF g3 g7 d37 d34 d07 d04 f0 f1 f2 f3 f4 f5 f6 f7 f8 G G3 G7
    simp only
    go_wp2_with fail
    refine bodyPost_ret (v := .agg #[.slice gh.A1 n gh.c1, .slice gh.A2 m gh.c2]) (by simp [results, Tryd.results10, go_sem, z0, z1]) rfl ?_
    refine ⟨gh.A1, gh.c1, gh.A2, gh.c2, ?_, ?_, ?_, DD.out, HG1.out⟩
    · rw [HLn.out, HLm.out]
    · rw [HLn.out]; exact HG3.out.1
    · rw [HLm.out]; exact HG7.out.1

end Go.Proofs.YtahkjagjcogeiaaDoor
/- The answer's SameInts, Same, Great. -/
namespace Go.Proofs.YtahkjagjcogeiaaDoor
open Go.RowKit
set_option linter.unusedVariables false

def sameI (a b : List Int) : Bool := decide (a = b)
theorem sameI_len {a b : List Int} (h : a.length ≠ b.length) : sameI a b = false := by unfold sameI; simp; intro e; exact h (by rw [e])
theorem sameI_ne {a b : List Int} {k : Nat} {x y : Int} (hx : a[k]? = some x) (hy : b[k]? = some y) (h : x ≠ y) : sameI a b = false := by
  unfold sameI; simp; intro e; subst e; rw [hx] at hy; cases hy; exact h rfl
theorem sameI_eq {a b : List Int} (hl : a.length = b.length) (h : ∀ (k : Nat) x y, k < a.length → a[k]? = some x → b[k]? = some y → x = y) : sameI a b = true := by
  unfold sameI; simp
  apply List.ext_getElem?
  intro k
  by_cases hk : k < a.length
  · have h1 : a[k]? = some a[k] := List.getElem?_eq_getElem hk
    have h2 : b[k]? = some (b[k]'(by omega)) := List.getElem?_eq_getElem _
    rw [h1, h2, h k _ _ hk h1 h2]
  · rw [List.getElem?_eq_none (by omega), List.getElem?_eq_none (by omega)]

set_option maxRecDepth 100000 in
set_option maxHeartbeats 2000000 in
theorem sameInts_any (A : Option Addr) (n c : Nat) (a : List Int) (B : Option Addr) (m d : Nat) (b : List Int) (w : World) (hn : n ≤ maxLen) (hm : m ≤ maxLen) (ha : IntsAt w w.heap.size A n a) (hb : IntsAt w w.heap.size B m b) :
    Calls Tryd.prog 15 #[.slice A n c, .slice B m d] w fun e w' => e = .returned (.bool (sameI a b)) ∧ Below w.heap.size w w' := by
  unfold maxLen at hn hm
  have HA := Lib.hid ha.len
  have HB := Lib.hid hb.len
  by_cases hnm : n = m
  · subst hnm
    have hnn : ((n : Int) == (n : Int)) = true := by simp
    go_enter Tryd.func15, Tryd.ntmps15
    go_wp2_with fail
    go_loopw [5] (fun i wr => ∃ k : Nat, k ≤ n ∧ i = .int .i64 k ∧ (∀ (j : Nat) x y, j < k → a[j]? = some x → b[j]? = some y → x = y) ∧ Below w.heap.size w wr)
      (fun i _ => n - (intOf i).toNat)
    case atStart => exact ⟨0, by omega, rfl, fun _ _ _ h => absurd h (by omega), Below.refl _ _⟩
    case round =>
      obtain ⟨k, hk, rfl, hall, hbel⟩ := hrel
      have HAll := Lib.hid hall
      clear hall
      by_cases hlt : k < n
      · obtain ⟨b1, o1, x, rfl, hb1, hx, cx⟩ := (ha.below hbel).cell hlt
        obtain ⟨b2, o2, y, rfl, hb2, hy, cy⟩ := (hb.below hbel).cell hlt
        have HX := Lib.hid hx
        have HY := Lib.hid hy
        have kI : (k : Int) < (n : Int) := by omega
        have k0 : (0 : Int) ≤ (k : Int) := by omega
        clear hx hy
        by_cases hxy : x = y
        · have hxy' : (x == y) = true := by simpa using hxy
          have HXY := Lib.hid hxy
          clear hxy
          go_wp2_with fail
          go_quiet (fail)
          go_wp2_with fail
          go_roundw
          case rel => exact ⟨k + 1, by omega, by go_num, fun j u v hj hu hv => by
            rcases Nat.lt_or_ge j k with h | h
            · exact HAll.out j u v h hu hv
            · obtain rfl : j = k := by omega
              rw [HX.out] at hu; rw [HY.out] at hv
              cases hu; cases hv; exact HXY.out, below_drewN hbel _⟩
          case measure => simp [intOf]; omega
        · have hxy' : (x == y) = false := by simpa using hxy
          have HXY := Lib.hid hxy
          clear hxy
          go_wp2_with fail
          go_quiet (fail)
          go_wp2_with fail
          go_ret
          exact ⟨ret_bool (sameI_ne HX.out HY.out HXY.out).symm, below_drewN hbel _⟩
      · go_wp2_with fail
        go_ret
        exact ⟨ret_bool (sameI_eq (by rw [HA.out, HB.out]) (fun j x y hj hx hy => HAll.out j x y (by have := HA.out; omega) hx hy)).symm, hbel⟩
  · have hnn : ((n : Int) == (m : Int)) = false := by simp; omega
    have HF : Hid (sameI a b = false) := sameI_len (by rw [HA.out, HB.out]; exact hnm)
    go_enter Tryd.func15, Tryd.ntmps15
    go_wp2_with fail
    go_ret
    exact ⟨ret_bool HF.out.symm, Below.refl _ _⟩

def eqK (x y : Link) : Bool := x.id == y.id && x.fr == y.fr && x.to == y.to && x.steps == y.steps && x.paces == y.paces
theorem eqK_iff {x y : Link} : eqK x y = true ↔ x = y := by
  obtain ⟨a1, a2, a3, a4, a5⟩ := x
  obtain ⟨b1, b2, b3, b4, b5⟩ := y
  unfold eqK
  simp
  constructor
  · rintro ⟨⟨⟨⟨h1, h2⟩, h3⟩, h4⟩, h5⟩; exact ⟨h1, h2, h3, h4, h5⟩
  · rintro ⟨h1, h2, h3, h4, h5⟩; exact ⟨⟨⟨⟨h1, h2⟩, h3⟩, h4⟩, h5⟩
theorem eqi_run' (d : Nat) (a b : Int) (w : World) : (Op.equalIn (d+1) 3 (.int .i64 a) (.int .i64 b)).run Tryd.prog w = .ok (a == b) w := by
  simp [Op.equalIn, run_underlying Tryd.underlying3]
theorem eqK_run (a1 a2 a3 a4 a5 b1 b2 b3 b4 b5 : Int) (w : World) : (Op.equalIn 10000 45 (.agg #[.int .i64 a1, .int .i64 a2, .int .i64 a3, .int .i64 a4, .int .i64 a5]) (.agg #[.int .i64 b1, .int .i64 b2, .int .i64 b3, .int .i64 b4, .int .i64 b5])).run Tryd.prog w = .ok (eqK ⟨a1, a2, a3, a4, a5⟩ ⟨b1, b2, b3, b4, b5⟩) w := by
  rw [Op.equalIn]
  simp [go_sem, run_underlying Tryd.underlying45, eqi_run', Std.Legacy.Range.forIn_eq_forIn_range', part, eqK]
  by_cases h1 : a1 = b1 <;> by_cases h2 : a2 = b2 <;> by_cases h3 : a3 = b3 <;> by_cases h4 : a4 = b4 <;> by_cases h5 : a5 = b5 <;> simp [h1, h2, h3, h4, h5]

def sameT (t u : Town) : Bool := decide (t = u)
theorem sameT_places {t u : Town} (h : sameI t.places u.places = false) : sameT t u = false := by
  unfold sameT; unfold sameI at h; simp at h ⊢; intro e; subst e; exact h rfl
theorem sameT_len {t u : Town} (h : t.links.length ≠ u.links.length) : sameT t u = false := by
  unfold sameT; simp; intro e; subst e; exact h rfl
theorem sameT_ne {t u : Town} {k : Nat} {x y : Link} (hx : t.links[k]? = some x) (hy : u.links[k]? = some y) (h : x ≠ y) : sameT t u = false := by
  unfold sameT; simp; intro e; subst e; rw [hx] at hy; cases hy; exact h rfl
theorem sameT_eq {t u : Town} (hp : sameI t.places u.places = true) (hl : t.links.length = u.links.length) (h : ∀ (k : Nat) x y, k < t.links.length → t.links[k]? = some x → u.links[k]? = some y → x = y) : sameT t u = true := by
  obtain ⟨tp, tl⟩ := t
  obtain ⟨up, ul⟩ := u
  unfold sameI at hp
  simp only [decide_eq_true_eq] at hp hl h
  unfold sameT; simp
  refine ⟨hp, List.ext_getElem? fun k => ?_⟩
  by_cases hk : k < tl.length
  · have h1 : tl[k]? = some tl[k] := List.getElem?_eq_getElem hk
    have h2 : ul[k]? = some (ul[k]'(by omega)) := List.getElem?_eq_getElem _
    rw [h1, h2, h k _ _ hk h1 h2]
  · rw [List.getElem?_eq_none (by omega), List.getElem?_eq_none (by omega)]

set_option maxRecDepth 100000 in
set_option maxHeartbeats 4000000 in
theorem same_any (A : Option Addr) (n c : Nat) (A' : Option Addr) (m d : Nat) (t : Town) (C : Option Addr) (p q : Nat) (C' : Option Addr) (r s : Nat) (u : Town) (w : World) (hn : n ≤ maxLen) (hm : m ≤ maxLen) (hp : p ≤ maxLen) (hr : r ≤ maxLen) (ht : TownAt w w.heap.size A n A' m t) (hu : TownAt w w.heap.size C p C' r u) :
    Calls Tryd.prog 16 #[.agg #[.slice A n c, .slice A' m d], .agg #[.slice C p q, .slice C' r s]] w fun e w' => e = .returned (.bool (sameT t u)) ∧ Below w.heap.size w w' := by
  have HT := Lib.hid ht
  have HU := Lib.hid hu
  have HA := Lib.hid ht.links.len
  have HB := Lib.hid hu.links.len
  have HM := Lib.hid hm
  have HR := Lib.hid hr
  clear ht hu
  go_enter Tryd.func16, Tryd.ntmps16
  go_wp2_with fail
  have X0 := (Blk.new w 25 #[.slice A n c, .slice A' m d]).alloc (.cells #[.slice C p q, .slice C' r s] 25)
  have Y0 := Blk.new (w.alloc (.cells #[.slice A n c, .slice A' m d] 25)) 25 #[.slice C p q, .slice C' r s]
  have B0 : Below w.heap.size w ((w.alloc (.cells #[.slice A n c, .slice A' m d] 25)).alloc (.cells #[.slice C p q, .slice C' r s] 25)) := ((Below.refl _ _).alloc (Nat.le_refl _) _).alloc (by simp) _
  rw [World.size_alloc] at Y0
  generalize ((w.alloc (.cells #[.slice A n c, .slice A' m d] 25)).alloc (.cells #[.slice C p q, .slice C' r s] 25)) = w0 at *
  with_reducible refine (sameInts_any A n c t.places C p q u.places w0 hn hp ((HT.out.places.below B0).more B0.size) ((HU.out.places.below B0).more B0.size)).mono ?_
  rintro e w1 ⟨rfl, hb1⟩
  replace X0 := X0.below hb1 X0.lt
  replace Y0 := Y0.below hb1 Y0.lt
  replace B0 := B0.trans (hb1.mono B0.size)
  have x0 := X0.cell 0
  have x1 := X0.cell 1
  have y0 := Y0.cell 0
  have y1 := Y0.cell 1
  clear hb1
  cases hs : sameI t.places u.places with
  | false =>
    have HF := Lib.hid (sameT_places hs)
    clear hs
    go_wp2_with fail
    go_ret
    exact ⟨ret_bool HF.out.symm, B0⟩
  | true =>
  have HS := Lib.hid hs
  clear hs
  by_cases hmr : m = r
  · subst hmr
    have hnn : ((m : Int) == (m : Int)) = true := by simp
    have hrun := eqK_run
    unfold maxLen at hm
    clear x0 x1 y0 y1
    have x1 := X0.cell 1
    have y1 := Y0.cell 1
    go_wp2_with fail
    go_loopw [5] (fun i wr => ∃ k : Nat, k ≤ m ∧ i = .int .i64 k ∧ (∀ (j : Nat) x y, j < k → t.links[j]? = some x → u.links[j]? = some y → x = y) ∧ Below w1.heap.size w1 wr)
      (fun i _ => m - (intOf i).toNat)
    case atStart => exact ⟨0, by omega, rfl, fun _ _ _ h => absurd h (by omega), Below.refl _ _⟩
    case round =>
      obtain ⟨k, hk, rfl, hall, hbel⟩ := hrel
      have HAll := Lib.hid hall
      clear hall x1 y1
      have x1 := (X0.below hbel X0.lt).cell 1
      have y1 := (Y0.below hbel Y0.lt).cell 1
      have BR := B0.trans (hbel.mono B0.size)
      by_cases hlt : k < m
      · obtain ⟨b1, o1, x, rfl, hb1, hx, cx0, cx1, cx2, cx3, cx4⟩ := (HT.out.links.below BR).cell hlt
        obtain ⟨b2, o2, y, rfl, hb2, hy, cy0, cy1, cy2, cy3, cy4⟩ := (HU.out.links.below BR).cell hlt
        have HX := Lib.hid hx
        have HY := Lib.hid hy
        have kI : (k : Int) < (m : Int) := by omega
        have k0 : (0 : Int) ≤ (k : Int) := by omega
        clear hx hy
        cases hxy : eqK ⟨x.id, x.fr, x.to, x.steps, x.paces⟩ ⟨y.id, y.fr, y.to, y.steps, y.paces⟩ with
        | true =>
          have HXY : Hid (x = y) := eqK_iff.1 hxy
          go_wp2_with fail
          go_quiet (fail)
          go_wp2_with fail
          go_roundw
          case rel => exact ⟨k + 1, by omega, by go_num, fun j u' v hj hu hv => by
            rcases Nat.lt_or_ge j k with h | h
            · exact HAll.out j u' v h hu hv
            · obtain rfl : j = k := by omega
              rw [HX.out] at hu; rw [HY.out] at hv
              cases hu; cases hv; exact HXY.out, below_drewN hbel _⟩
          case measure => simp [intOf]; omega
        | false =>
          have HXY : Hid (x ≠ y) := fun e => by
            have h1 : eqK x y = false := hxy
            rw [eqK_iff.2 e] at h1; cases h1
          go_wp2_with fail
          go_quiet (fail)
          go_wp2_with fail
          go_ret
          exact ⟨ret_bool (sameT_ne HX.out HY.out HXY.out).symm, below_drewN BR _⟩
      · go_wp2_with fail
        go_ret
        exact ⟨ret_bool (sameT_eq HS.out (by rw [HA.out, HB.out]) (fun j x y hj hx hy => HAll.out j x y (by have := HA.out; omega) hx hy)).symm, BR⟩
  · have hnn : ((m : Int) == (r : Int)) = false := by simp; omega
    have HF : Hid (sameT t u = false) := sameT_len (by rw [HA.out, HB.out]; exact hmr)
    go_wp2_with fail
    go_ret
    exact ⟨ret_bool HF.out.symm, B0⟩

def greatB (n m : Nat) : Bool := decide (20 < n) || decide (40 < m)
set_option maxHeartbeats 1000000 in
theorem great_any (A : Option Addr) (n c : Nat) (A' : Option Addr) (m d : Nat) (w : World) :
    Calls Tryd.prog 9 #[.agg #[.slice A n c, .slice A' m d]] w fun e w' => e = .returned (.bool (greatB n m)) ∧ Below w.heap.size w w' := by
  by_cases h1 : 20 < n
  · have HG : Hid (greatB n m = true) := by show _ = _; unfold greatB; simp [h1]
    have h1' : (20 : Int) < (n : Int) := by omega
    clear h1
    go_enter Tryd.func9, Tryd.ntmps9
    go_wp2_with fail
    go_ret
    exact ⟨ret_bool HG.out.symm, (Below.refl _ _).alloc (Nat.le_refl _) _⟩
  · have h1' : decide ((20 : Int) < (n : Int)) = false := by simp; omega
    by_cases h2 : 40 < m
    · have HG : Hid (greatB n m = true) := by show _ = _; unfold greatB; simp [h2]
      have h2' : (40 : Int) < (m : Int) := by omega
      clear h1 h2
      go_enter Tryd.func9, Tryd.ntmps9
      go_wp2_with fail
      go_ret
      exact ⟨ret_bool HG.out.symm, (Below.refl _ _).alloc (Nat.le_refl _) _⟩
    · have HG : Hid (greatB n m = false) := by show _ = _; unfold greatB; simp [h1, h2]
      have h2' : ¬ (40 : Int) < (m : Int) := by omega
      clear h1 h2
      go_enter Tryd.func9, Tryd.ntmps9
      go_wp2_with fail
      go_ret
      exact ⟨ret_bool HG.out.symm, (Below.refl _ _).alloc (Nat.le_refl _) _⟩
end Go.Proofs.YtahkjagjcogeiaaDoor
/- Check and asked. -/
namespace Go.Proofs.YtahkjagjcogeiaaDoor
open Go.RowKit
set_option linter.unusedVariables false

/-- The variable climb.checks holds its three functions. -/
def Laid (w : World) : Prop := w.cell? ⟨0, 0, none⟩ = some (.func (.func 182) #[] #[]) ∧ w.cell? ⟨0, 1, none⟩ = some (.func (.func 183) #[] #[]) ∧ w.cell? ⟨0, 2, none⟩ = some (.func (.func 184) #[] #[]) ∧ 0 < w.heap.size
theorem Laid.below {w w' : World} (h : Laid w) {B : Nat} (hb : Below B w w') (hB : 0 < B) : Laid w' := by
  obtain ⟨h0, h1, h2, h3⟩ := h
  exact ⟨(hb.cell (p := ⟨0, 0, none⟩) hB).trans h0, (hb.cell (p := ⟨0, 1, none⟩) hB).trans h1, (hb.cell (p := ⟨0, 2, none⟩) hB).trans h2, Nat.lt_of_lt_of_le h3 hb.size⟩

theorem TownAt.up {w wr : World} {A A' : Option Addr} {n m : Nat} {t : Town} (ht : TownAt w w.heap.size A n A' m t) (hb : Below w.heap.size w wr) (o : Obj) : TownAt (wr.alloc o) (wr.alloc o).heap.size A n A' m t :=
  (((ht.below hb).more hb.size).below ((Below.refl _ _).alloc (Nat.le_refl _) _)).more (by rw [World.size_alloc]; omega)

theorem arr0_run (w : World) : (Instr.index 149 (.agg #[.func (.func 182) #[] #[], .func (.func 183) #[] #[], .func (.func 184) #[] #[]]) (.int .i64 0)).run Tryd.prog w = .ok (.agg #[.func (.func 182) #[] #[]]) w := by
  kernel_rfl
theorem arr1_run (w : World) : (Instr.index 149 (.agg #[.func (.func 182) #[] #[], .func (.func 183) #[] #[], .func (.func 184) #[] #[]]) (.int .i64 1)).run Tryd.prog w = .ok (.agg #[.func (.func 183) #[] #[]]) w := by
  kernel_rfl
theorem arr2_run (w : World) : (Instr.index 149 (.agg #[.func (.func 182) #[] #[], .func (.func 183) #[] #[], .func (.func 184) #[] #[]]) (.int .i64 2)).run Tryd.prog w = .ok (.agg #[.func (.func 184) #[] #[]]) w := by
  kernel_rfl

/-- Check's answer. -/
def chk (t : Town) : Int := if townB t then 0 else 30

set_option maxRecDepth 100000 in
set_option maxHeartbeats 1000000 in
theorem check_any (A : Option Addr) (n c : Nat) (A' : Option Addr) (m d : Nat) (t : Town) (w : World) (hn : n ≤ maxLen) (hm : m ≤ maxLen) (ht : TownAt w w.heap.size A n A' m t) (hL : Laid w) :
    Calls Tryd.prog 41 #[.agg #[.slice A n c, .slice A' m d]] w fun e w' => e = .returned (.int .i64 (chk t)) ∧ Below w.heap.size w w' := by
  obtain ⟨g0, g1, g2, hsz⟩ := hL
  have a0 := arr0_run
  have a1 := arr1_run
  have a2 := arr2_run
  go_enter Tryd.func41, Tryd.ntmps41
  go_wp2_with fail
  go_loopw [6] (fun i wr => ∃ k : Nat, k ≤ 3 ∧ i = .int .i64 k ∧ ((0 < k → sizeB t = true) ∧ (1 < k → upB 0 t.places = true) ∧ (2 < k → linksB t 0 t.links = true)) ∧ Blk wr w.heap.size 25 #[.slice A n c, .slice A' m d] ∧ Below w.heap.size w wr)
    (fun i _ => 3 - (intOf i).toNat)
  case atStart => exact ⟨0, by omega, rfl, ⟨fun h => absurd h (by omega), fun h => absurd h (by omega), fun h => absurd h (by omega)⟩, Blk.new _ _ _, (Below.refl _ _).alloc (Nat.le_refl _) _⟩
  case round =>
    obtain ⟨k, hk, rfl, hp, hT, hb⟩ := hrel
    have t0 : wr.cell? ⟨w.heap.size, 0, none⟩ = some (.slice A n c) := hT.cell 0
    have t1 : wr.cell? ⟨w.heap.size, 1, none⟩ = some (.slice A' m d) := hT.cell 1
    have hlr := hT.lt
    have HP := Lib.hid hp
    clear hp
    have hk' : k = 0 ∨ k = 1 ∨ k = 2 ∨ k = 3 := by omega
    rcases hk' with rfl | rfl | rfl | rfl
    · go_wp2_with fail
      refine (check1_any A n c A' m d t _ hn hm (ht.up hb _)).mono ?_
      rintro e w1 ⟨rfl, hb1⟩
      have B1 := below_one _ _ _ _ hb hb1
      have T1 := (hT.alloc (.cells #[.func (.func 182) #[] #[]] 148)).below hb1 (by rw [World.size_alloc]; omega)
      cases hi : sizeB t with
      | true =>
        have HI := Lib.hid hi
        clear hi
        go_wp2_with fail
        go_roundw
        case rel => exact ⟨1, by omega, by go_num, ⟨fun _ => HI.out, fun h => absurd h (by omega), fun h => absurd h (by omega)⟩, T1, B1⟩
        case measure => simp [intOf]
      | false =>
        have HI := Lib.hid hi
        clear hi
        go_wp2_with fail
        go_ret
        exact ⟨ret_int (by unfold chk townB; rw [HI.out]; simp), B1⟩
    · go_wp2_with fail
      refine (check2_any A n c A' m d t _ hn (ht.up hb _)).mono ?_
      rintro e w1 ⟨rfl, hb1⟩
      have B1 := below_one _ _ _ _ hb hb1
      have T1 := (hT.alloc (.cells #[.func (.func 183) #[] #[]] 148)).below hb1 (by rw [World.size_alloc]; omega)
      cases hi : upB 0 t.places with
      | true =>
        have HI := Lib.hid hi
        clear hi
        go_wp2_with fail
        go_roundw
        case rel => exact ⟨2, by omega, by go_num, ⟨fun _ => HP.out.1 (by omega), fun _ => HI.out, fun h => absurd h (by omega)⟩, T1, B1⟩
        case measure => simp [intOf]
      | false =>
        have HI := Lib.hid hi
        clear hi
        go_wp2_with fail
        go_ret
        exact ⟨ret_int (by unfold chk townB; rw [HI.out]; simp), B1⟩
    · go_wp2_with fail
      refine (check3_any A n c A' m d t _ hn hm (ht.up hb _)).mono ?_
      rintro e w1 ⟨rfl, hb1⟩
      have B1 := below_one _ _ _ _ hb hb1
      have T1 := (hT.alloc (.cells #[.func (.func 184) #[] #[]] 148)).below hb1 (by rw [World.size_alloc]; omega)
      cases hi : linksB t 0 t.links with
      | true =>
        have HI := Lib.hid hi
        clear hi
        go_wp2_with fail
        go_roundw
        case rel => exact ⟨3, by omega, by go_num, ⟨fun _ => HP.out.1 (by omega), fun _ => HP.out.2.1 (by omega), fun _ => HI.out⟩, T1, B1⟩
        case measure => simp [intOf]
      | false =>
        have HI := Lib.hid hi
        clear hi
        go_wp2_with fail
        go_ret
        exact ⟨ret_int (by unfold chk townB; rw [HI.out]; simp), B1⟩
    · go_wp2_with fail
      go_ret
      exact ⟨ret_int (by unfold chk townB; rw [HP.out.1 (by omega), HP.out.2.1 (by omega), HP.out.2.2 (by omega)]; simp), hb⟩
end Go.Proofs.YtahkjagjcogeiaaDoor
/- cmp.Compare and slices.Compare at ints. -/
namespace Go.Proofs.YtahkjagjcogeiaaDoor
open Go.RowKit
set_option linter.unusedVariables false

theorem isNaN_int (x : Int) (w : World) : Calls Tryd.prog 122 #[.int .i64 x] w fun e w' => e = .returned (.bool false) ∧ w' = w := by
  go_enter Tryd.func122, Tryd.ntmps122
  go_wp2_with fail
  go_ret
  exact ⟨rfl, rfl⟩

def cmpI (x y : Int) : Int := if x < y then -1 else if y < x then 1 else 0

theorem cmp_int (x y : Int) (w : World) : Calls Tryd.prog 67 #[.int .i64 x, .int .i64 y] w fun e w' => e = .returned (.int .i64 (cmpI x y)) ∧ w' = w := by
  have h3 : x < y ∨ (¬ x < y ∧ y < x) ∨ (¬ x < y ∧ ¬ y < x) := by omega
  rcases h3 with h1 | ⟨h1, h2⟩ | ⟨h1, h2⟩
  all_goals
    go_enter Tryd.func67, Tryd.ntmps67
    go_wp2_with fail
    refine (isNaN_int x w).mono ?_
    rintro e w1 ⟨rfl, rfl⟩
    go_wp2_with fail
    refine (isNaN_int y w1).mono ?_
    rintro e w2 ⟨rfl, rfl⟩
    go_wp2_with fail
    go_ret
    exact ⟨ret_int (by unfold cmpI; split <;> first | rfl | omega | (split <;> first | rfl | omega)), rfl⟩

set_option maxHeartbeats 2000000 in
theorem compare_int (A : Option Addr) (n c : Nat) (a : List Int) (B : Option Addr) (m d : Nat) (b : List Int) (w : World) (ha : IntsAt w w.heap.size A n a) (hb : IntsAt w w.heap.size B m b) (hn : n ≤ maxLen) (hm : m ≤ maxLen) :
    Calls Tryd.prog 99 #[.slice A n c, .slice B m d] w fun e w' => e = .returned (.int .i64 (cmpL a b)) ∧ w' = w := by
  unfold maxLen at hn hm
  go_enter Tryd.func99, Tryd.ntmps99
  go_wp2_with fail
  go_loopw [11] (fun i wr => ∃ k : Nat, k ≤ n ∧ k ≤ m ∧ i = .int .i64 k ∧ cmpL a b = cmpL (a.drop k) (b.drop k) ∧ wr = w)
    (fun i _ => n - (intOf i).toNat)
  case atStart => exact ⟨0, by omega, by omega, rfl, by simp, rfl⟩
  case round =>
    obtain ⟨k, hk, hk', rfl, hc, rfl⟩ := hrel
    have HC := Lib.hid hc
    clear hc
    have la := ha.len
    have lb := hb.len
    by_cases h1 : k < n
    · by_cases h2 : k < m
      · obtain ⟨b1, o1, x, rfl, hb1, hx, cx⟩ := ha.cell h1
        obtain ⟨b2, o2, y, rfl, hb2, hy, cy⟩ := hb.cell h2
        have HX := Lib.hid hx
        have HY := Lib.hid hy
        clear hx hy
        have h2' : ¬ m ≤ k := by omega
        go_wp2_with fail
        refine (cmp_int x y wr).mono ?_
        rintro e w1 ⟨rfl, rfl⟩
        by_cases hxy : x < y
        · have he : cmpI x y = -1 := by unfold cmpI; rw [if_pos hxy]
          go_wp2_with fail
          go_ret
          exact ⟨ret_int (by rw [HC.out, cmpL_drop HX.out HY.out, if_pos hxy]), rfl⟩
        · by_cases hyx : y < x
          · have he : cmpI x y = 1 := by unfold cmpI; rw [if_neg (by omega), if_pos hyx]
            go_wp2_with fail
            go_ret
            exact ⟨ret_int (by rw [HC.out, cmpL_drop HX.out HY.out, if_neg (by omega), if_pos hyx]), rfl⟩
          · have he : cmpI x y = 0 := by unfold cmpI; rw [if_neg (by omega), if_neg (by omega)]
            go_wp2_with fail
            go_roundw
            case rel => exact ⟨k + 1, by omega, by omega, by go_num, by rw [HC.out, cmpL_drop HX.out HY.out, if_neg (by omega), if_neg (by omega)], trivial⟩
            case measure => simp [intOf]; omega
      · obtain ⟨b1, o1, x, rfl, hb1, hx, cx⟩ := ha.cell h1
        have HX := Lib.hid hx
        clear hx
        have h2' : m ≤ k := by omega
        go_wp2_with fail
        go_ret
        refine ⟨ret_int ?_, rfl⟩
        obtain ⟨hk1, _⟩ := List.getElem?_eq_some_iff.1 HX.out
        rw [HC.out, List.drop_eq_getElem_cons hk1, show b.drop k = [] from List.drop_eq_nil_of_le (by omega)]; rfl
    · by_cases h2 : n < m
      · go_wp2_with fail
        go_ret
        refine ⟨ret_int ?_, rfl⟩
        rw [HC.out, show a.drop k = [] from List.drop_eq_nil_of_le (by omega), List.drop_eq_getElem_cons (show k < b.length by omega)]; rfl
      · go_wp2_with fail
        go_ret
        refine ⟨ret_int ?_, rfl⟩
        rw [HC.out, show a.drop k = [] from List.drop_eq_nil_of_le (by omega), show b.drop k = [] from List.drop_eq_nil_of_le (by omega)]; rfl
end Go.Proofs.YtahkjagjcogeiaaDoor
/- Walks: how they lie; climb.before. -/
namespace Go.Proofs.YtahkjagjcogeiaaDoor
open Go.RowKit
set_option linter.unusedVariables false

/-- A walk, and where its links lie. -/
structure Wk where
  to : Int
  cost : Cost
  links : List Int
  A : Option Addr
  n : Nat
  cap : Nat

def Cost.vals (c : Cost) : List Value := [.int .i64 c.a, .int .i64 c.b, .int .i64 c.c, .int .i64 c.d]
@[reducible] def Wk.val (x : Wk) : Value := .agg #[.int .i64 x.to, .int .i64 x.cost.a, .int .i64 x.cost.b, .int .i64 x.cost.c, .int .i64 x.cost.d, .slice x.A x.n x.cap]
def Wk.at_ (w : World) (B : Nat) (x : Wk) : Prop := IntsAt w B x.A x.n x.links

def eqC (x y : Cost) : Bool := x.a == y.a && x.b == y.b && x.c == y.c && x.d == y.d
def cmpC (x y : Cost) : Int := cmpL x.list y.list
def cmpW (x : Cost) (l : List Int) (y : Cost) (m : List Int) : Int := if eqC x y then cmpL l m else cmpC x y

theorem eqi_run (d : Nat) (a b : Int) (w : World) : (Op.equalIn (d+1) 3 (.int .i64 a) (.int .i64 b)).run Tryd.prog w = .ok (a == b) w := by
  simp [Op.equalIn, run_underlying Tryd.underlying3]
theorem eqC_run (a1 a2 a3 a4 b1 b2 b3 b4 : Int) (w : World) : (Op.equalIn 10000 109 (.agg #[.int .i64 a1, .int .i64 a2, .int .i64 a3, .int .i64 a4]) (.agg #[.int .i64 b1, .int .i64 b2, .int .i64 b3, .int .i64 b4])).run Tryd.prog w = .ok (eqC ⟨a1, a2, a3, a4⟩ ⟨b1, b2, b3, b4⟩) w := by
  rw [Op.equalIn]
  simp [go_sem, run_underlying Tryd.underlying109, eqi_run, Std.Legacy.Range.forIn_eq_forIn_range', List.range', part, eqC]
  by_cases h1 : a1 = b1 <;> by_cases h2 : a2 = b2 <;> by_cases h3 : a3 = b3 <;> by_cases h4 : a4 = b4 <;> simp [h1, h2, h3, h4]

/-- Four cells of a block. -/
theorem cost_at {w : World} {g : Nat} {t : TypeId} {x : Wk} (h : Blk w g t #[.int .i64 x.to, .int .i64 x.cost.a, .int .i64 x.cost.b, .int .i64 x.cost.c, .int .i64 x.cost.d, .slice x.A x.n x.cap]) : IntsAt w w.heap.size (some ⟨g, 1, none⟩) 4 x.cost.list :=
  ⟨rfl, fun _ => ⟨_, rfl, h.lt, fun j u hu => by
    match j, hu with
    | 0, hu => simp [Cost.list] at hu; rw [← hu]; simpa [Addr.add] using h.cell 1
    | 1, hu => simp [Cost.list] at hu; rw [← hu]; simpa [Addr.add] using h.cell 2
    | 2, hu => simp [Cost.list] at hu; rw [← hu]; simpa [Addr.add] using h.cell 3
    | 3, hu => simp [Cost.list] at hu; rw [← hu]; simpa [Addr.add] using h.cell 4
    | (j + 4), hu => simp [Cost.list] at hu⟩⟩

set_option maxRecDepth 100000 in
set_option maxHeartbeats 2000000 in
theorem before_any (x y : Wk) (w : World) (hx : x.at_ w w.heap.size) (hy : y.at_ w w.heap.size) (hn : x.n ≤ maxLen) (hm : y.n ≤ maxLen) :
    Calls Tryd.prog 116 #[x.val, y.val] w fun e w' => e = .returned (.int .i64 (cmpW x.cost x.links y.cost y.links)) ∧ Below w.heap.size w w' := by
  have hq := eqC_run
  have hxw : cmpW x.cost x.links y.cost y.links = if eqC ⟨x.cost.a, x.cost.b, x.cost.c, x.cost.d⟩ ⟨y.cost.a, y.cost.b, y.cost.c, y.cost.d⟩ then cmpL x.links y.links else cmpC x.cost y.cost := rfl
  cases he : eqC ⟨x.cost.a, x.cost.b, x.cost.c, x.cost.d⟩ ⟨y.cost.a, y.cost.b, y.cost.c, y.cost.d⟩ with
  | true =>
    have HE := Lib.hid hxw
    clear hxw
    go_enter Tryd.func116, Tryd.ntmps116
    go_wp2_with fail
    refine (compare_int x.A x.n x.cap x.links y.A y.n y.cap y.links _ ?_ ?_ hn hm).mono ?_
    · exact (Reads.alloc (Reads.alloc hx (Nat.le_refl _) _) (by simp) _).more (by simp; omega)
    · exact (Reads.alloc (Reads.alloc hy (Nat.le_refl _) _) (by simp) _).more (by simp; omega)
    rintro e w1 ⟨rfl, rfl⟩
    go_wp2_with fail
    go_ret
    refine ⟨ret_int ?_, ((Below.refl _ _).alloc (Nat.le_refl _) _).alloc (by simp) _⟩
    rw [HE.out, he]; rfl
  | false =>
    have HE := Lib.hid hxw
    clear hxw
    go_enter Tryd.func116, Tryd.ntmps116
    go_wp2_with fail
    have X : Blk ((w.alloc (.cells #[.int .i64 x.to, .int .i64 x.cost.a, .int .i64 x.cost.b, .int .i64 x.cost.c, .int .i64 x.cost.d, .slice x.A x.n x.cap] 111)).alloc (.cells #[.int .i64 y.to, .int .i64 y.cost.a, .int .i64 y.cost.b, .int .i64 y.cost.c, .int .i64 y.cost.d, .slice y.A y.n y.cap] 111)) w.heap.size 111 #[.int .i64 x.to, .int .i64 x.cost.a, .int .i64 x.cost.b, .int .i64 x.cost.c, .int .i64 x.cost.d, .slice x.A x.n x.cap] := (Blk.new w _ _).alloc _
    have Y : Blk ((w.alloc (.cells #[.int .i64 x.to, .int .i64 x.cost.a, .int .i64 x.cost.b, .int .i64 x.cost.c, .int .i64 x.cost.d, .slice x.A x.n x.cap] 111)).alloc (.cells #[.int .i64 y.to, .int .i64 y.cost.a, .int .i64 y.cost.b, .int .i64 y.cost.c, .int .i64 y.cost.d, .slice y.A y.n y.cap] 111)) (w.heap.size + 1) 111 #[.int .i64 y.to, .int .i64 y.cost.a, .int .i64 y.cost.b, .int .i64 y.cost.c, .int .i64 y.cost.d, .slice y.A y.n y.cap] := by
      have h := Blk.new (w.alloc (.cells #[.int .i64 x.to, .int .i64 x.cost.a, .int .i64 x.cost.b, .int .i64 x.cost.c, .int .i64 x.cost.d, .slice x.A x.n x.cap] 111)) 111 #[.int .i64 y.to, .int .i64 y.cost.a, .int .i64 y.cost.b, .int .i64 y.cost.c, .int .i64 y.cost.d, .slice y.A y.n y.cap]
      rwa [World.size_alloc] at h
    go_quiet (refine Calls.quiet_of_same (compare_int _ 4 4 x.cost.list _ 4 4 y.cost.list _ (cost_at (Blk.drewN X _)) (cost_at (Blk.drewN Y _)) (by decide) (by decide)))
    go_wp2_with fail
    go_ret
    refine ⟨ret_int ?_, below_drewN (((Below.refl _ _).alloc (Nat.le_refl _) _).alloc (by simp) _) _⟩
    rw [HE.out, he]; rfl
end Go.Proofs.YtahkjagjcogeiaaDoor
/- Short walks, the first walk by trial of all, costs by repetition: plain Lean. -/
namespace Go.Proofs.YtahkjagjcogeiaaDoor
set_option linter.unusedVariables false

/-- A walk that comes to no place twice. -/
inductive SW (t : Town) (dk : Bool) (p : Price) : Int → Int → Cost → List Int → List Int → Prop
  | nil (v : Int) : SW t dk p v v zeroC [] [v]
  | cons {u m v : Int} {x : Link} {c d : Cost} {l vs : List Int} (hx : x ∈ t.links) (hl : leads dk p x u = some (m, c)) (h : SW t dk p m v d l vs) (hu : u ∉ vs) : SW t dk p u v (addC c d) (x.id :: l) (u :: vs)

theorem nodup_le : ∀ {a b : List Int}, a.Nodup → (∀ x ∈ a, x ∈ b) → a.length ≤ b.length
  | [], _, _, _ => by simp
  | x :: a, b, h, hs => by
    rw [List.nodup_cons] at h
    have hb : x ∈ b := hs x (by simp)
    have := nodup_le (a := a) (b := b.erase x) h.2 (fun y hy => (List.mem_erase_of_ne (fun e => h.1 (by rw [← e]; exact hy))).2 (hs y (by simp [hy])))
    rw [List.length_erase_of_mem hb] at this
    have hp : 0 < b.length := List.length_pos_of_mem hb
    simp; omega

section
variable {t : Town} {dk : Bool} {p : Price} {u v m : Int} {c d : Cost} {l k vs : List Int} {x : Link}
theorem SW.walk (h : SW t dk p u v c l vs) : Walk t dk p u v c l := by
  induction h with
  | nil v => exact .nil v
  | cons hx hl _ _ ih => exact .cons hx hl ih
theorem SW.facts (h : SW t dk p u v c l vs) (ht : Fine t) : vs.Nodup ∧ vs.length = l.length + 1 ∧ (l = [] ∨ ∀ w ∈ vs, w ∈ t.places) ∧ (l = [] → vs = [v] ∧ u = v) := by
  induction h with
  | nil v => simp
  | @cons u m v x c d l vs hx hl h hu ih =>
    obtain ⟨i1, i2, i3, i4⟩ := ih
    have he := leads_ends hx ht hl
    refine ⟨List.nodup_cons.2 ⟨hu, i1⟩, by simp [i2], .inr fun w hw => ?_, by simp⟩
    rcases List.mem_cons.1 hw with rfl | hw
    · exact he.1
    · rcases i3 with rfl | i3
      · obtain ⟨rfl, rfl⟩ := i4 rfl
        simp at hw; subst hw; exact he.2
      · exact i3 w hw
theorem SW.short (h : SW t dk p u v c l vs) (ht : Fine t) : l = [] ∨ l.length < t.places.length := by
  obtain ⟨i1, i2, i3, _⟩ := h.facts ht
  rcases i3 with h3 | h3
  · exact .inl h3
  · have := nodup_le i1 h3
    exact .inr (by omega)
theorem grow_cons (ht : Fine t) (hp : Fair p) (hx : x ∈ t.links) (hl : leads dk p x u = some (m, c)) (d : Cost) (l : List Int) : cmpL (key d l) (key (addC c d) (x.id :: l)) < 0 := by
  have := leads_cost hx ht hp hl
  rw [addC_comm]
  exact key_grow _ _ _ _ (by omega) (by omega) (by omega)
theorem SW.suffix (h : SW t dk p u v c l vs) (ht : Fine t) (hp : Fair p) {w : Int} (hw : w ∈ vs) : ∃ c' l' vs', SW t dk p w v c' l' vs' ∧ cmpL (key c' l') (key c l) ≤ 0 := by
  induction h with
  | nil v => simp at hw; subst hw; exact ⟨_, _, _, .nil w, by rw [cmpL_refl]; omega⟩
  | @cons u m v x c d l vs hx hl h hu ih =>
    rcases List.mem_cons.1 hw with rfl | hw
    · exact ⟨_, _, _, .cons hx hl h hu, by rw [cmpL_refl]; omega⟩
    · obtain ⟨c', l', vs', h1, h2⟩ := ih hw
      have := cmpL_le_lt h2 (grow_cons ht hp hx hl d l)
      exact ⟨c', l', vs', h1, by omega⟩
theorem Walk.simple (h : Walk t dk p u v c l) (ht : Fine t) (hp : Fair p) : ∃ c' l' vs', SW t dk p u v c' l' vs' ∧ cmpL (key c' l') (key c l) ≤ 0 := by
  induction h with
  | nil v => exact ⟨_, _, _, .nil v, by rw [cmpL_refl]; omega⟩
  | @cons u m v x c d l hx hl h ih =>
    obtain ⟨c', l', vs', h1, h2⟩ := ih
    by_cases hu : u ∈ vs'
    · obtain ⟨c2, l2, vs2, h3, h4⟩ := h1.suffix ht hp hu
      have := cmpL_le_lt (cmpL_trans h4 h2) (grow_cons ht hp hx hl d l)
      exact ⟨c2, l2, vs2, h3, by omega⟩
    · exact ⟨_, _, _, .cons hx hl h1 hu, by rw [key_cons]; exact h2⟩
theorem Walk.short (h : Walk t dk p u v c l) (ht : Fine t) (hp : Fair p) : ∃ c' l', Walk t dk p u v c' l' ∧ cmpL (key c' l') (key c l) ≤ 0 ∧ (l' = [] ∨ l'.length < t.places.length) := by
  obtain ⟨c', l', vs', h1, h2⟩ := h.simple ht hp
  exact ⟨c', l', h1.walk, h2, h1.short ht⟩
theorem First.short (h : First t dk p u v (some (c, l))) (ht : Fine t) (hp : Fair p) : l.length ≤ 8 := by
  obtain ⟨c', l', h1, h2, h3⟩ := h.1.short ht hp
  have := cmpL_antisymm (h.2 _ _ h1) h2
  obtain ⟨rfl, rfl⟩ := key_inj this
  have := ht.size
  rcases h3 with rfl | h3
  · simp
  · omega
end

/-- All walks of at most so many links. -/
def paths (t : Town) (dk : Bool) (p : Price) : Nat → Int → List (Int × Cost × List Int)
  | 0, u => [(u, zeroC, [])]
  | k + 1, u => (u, zeroC, []) :: t.links.flatMap fun x => match leads dk p x u with
    | none => []
    | some (m, c) => (paths t dk p k m).map fun r => (r.1, addC c r.2.1, x.id :: r.2.2)
/-- The least of some. -/
def minK : List (Cost × List Int) → Option (Cost × List Int)
  | [] => none
  | r :: rs => match minK rs with
    | none => some r
    | some s => if cmpL (key r.1 r.2) (key s.1 s.2) ≤ 0 then some r else some s
/-- The first walk. -/
def best (t : Town) (dk : Bool) (p : Price) (u v : Int) : Option (Cost × List Int) :=
  minK (((paths t dk p t.places.length u).filter fun r => decide (r.1 = v)).map fun r => r.2)

section
variable {t : Town} {dk : Bool} {p : Price} {u v m : Int} {c d : Cost} {l k vs : List Int} {x : Link}
theorem mem_paths (n : Nat) : ∀ {u v : Int} {c : Cost} {l : List Int}, (v, c, l) ∈ paths t dk p n u ↔ Walk t dk p u v c l ∧ l.length ≤ n := by
  induction n with
  | zero =>
    intro u v c l
    simp only [paths, List.mem_singleton, Prod.mk.injEq]
    constructor
    · rintro ⟨rfl, rfl, rfl⟩; exact ⟨.nil _, by simp⟩
    · rintro ⟨h, hl⟩
      cases h with
      | nil v => exact ⟨rfl, rfl, rfl⟩
      | cons => simp at hl
  | succ n ih =>
    intro u v c l
    simp only [paths, List.mem_cons, Prod.mk.injEq, List.mem_flatMap]
    constructor
    · rintro (⟨rfl, rfl, rfl⟩ | ⟨x, hx, h⟩)
      · exact ⟨.nil _, by simp⟩
      · cases hl : leads dk p x u with
        | none => rw [hl] at h; simp at h
        | some r =>
          obtain ⟨m, cx⟩ := r
          rw [hl] at h
          simp only [List.mem_map, Prod.mk.injEq] at h
          obtain ⟨⟨v', c', l'⟩, h1, rfl, rfl, rfl⟩ := h
          have := ih.1 h1
          exact ⟨.cons hx hl this.1, by simp; exact this.2⟩
    · rintro ⟨h, hl⟩
      cases h with
      | nil v => exact .inl ⟨rfl, rfl, rfl⟩
      | @cons _ m _ x cx d l hx hlead hw =>
        refine .inr ⟨x, hx, ?_⟩
        rw [hlead]
        simp only [List.mem_map, Prod.mk.injEq]
        exact ⟨(v, d, l), ih.2 ⟨hw, by simpa using hl⟩, rfl, rfl, rfl⟩
theorem minK_none {rs : List (Cost × List Int)} : minK rs = none ↔ rs = [] := by
  cases rs with
  | nil => simp [minK]
  | cons r rs =>
    simp only [minK]
    cases minK rs with
    | none => simp
    | some s => simp only; split <;> simp
theorem minK_some : ∀ {rs : List (Cost × List Int)} {r : Cost × List Int}, minK rs = some r → r ∈ rs ∧ ∀ s ∈ rs, cmpL (key r.1 r.2) (key s.1 s.2) ≤ 0
  | [], r, h => by simp [minK] at h
  | q :: rs, r, h => by
    simp only [minK] at h
    cases hm : minK rs with
    | none =>
      rw [hm] at h
      cases h
      rw [minK_none.1 hm]
      exact ⟨by simp, fun s hs => by simp at hs; subst hs; rw [cmpL_refl]; omega⟩
    | some s =>
      have ⟨i1, i2⟩ := minK_some hm
      rw [hm] at h
      simp only at h
      split at h
      · rename_i hle
        cases h
        refine ⟨by simp, fun y hy => ?_⟩
        rcases List.mem_cons.1 hy with rfl | hy
        · rw [cmpL_refl]; omega
        · exact cmpL_trans hle (i2 y hy)
      · rename_i hle
        cases h
        refine ⟨by simp [i1], fun y hy => ?_⟩
        rcases List.mem_cons.1 hy with rfl | hy
        · rcases cmpL_total (key y.1 y.2) (key r.1 r.2) with h1 | h1
          · exact absurd h1 hle
          · exact h1
        · exact i2 y hy
theorem best_first (ht : Fine t) (hp : Fair p) (dk : Bool) (u v : Int) : First t dk p u v (best t dk p u v) := by
  have hm : ∀ c l, (c, l) ∈ ((paths t dk p t.places.length u).filter fun r => decide (r.1 = v)).map (fun r => r.2) ↔ Walk t dk p u v c l ∧ l.length ≤ t.places.length := by
    intro c l
    rw [← mem_paths]
    simp only [List.mem_map, List.mem_filter, decide_eq_true_eq]
    constructor
    · rintro ⟨⟨v', r⟩, ⟨h1, h2⟩, h3⟩
      simp only at h2 h3
      subst h2 h3
      exact h1
    · intro h
      exact ⟨(v, c, l), ⟨h, rfl⟩, rfl⟩
  have hs : ∀ {c l}, Walk t dk p u v c l → ∃ c' l', (Walk t dk p u v c' l' ∧ l'.length ≤ t.places.length) ∧ cmpL (key c' l') (key c l) ≤ 0 := by
    intro c l h
    obtain ⟨c', l', h1, h2, h3⟩ := h.short ht hp
    refine ⟨c', l', ⟨h1, ?_⟩, h2⟩
    rcases h3 with rfl | h3
    · simp
    · omega
  unfold best
  cases hb : minK (((paths t dk p t.places.length u).filter fun r => decide (r.1 = v)).map fun r => r.2) with
  | none =>
    rw [minK_none] at hb
    intro c l h
    obtain ⟨c', l', h1, _⟩ := hs h
    have := (hm c' l').2 h1
    rw [hb] at this
    simp at this
  | some r =>
    obtain ⟨c, l⟩ := r
    obtain ⟨h1, h2⟩ := minK_some hb
    refine ⟨((hm c l).1 h1).1, fun c' l' hw => ?_⟩
    obtain ⟨c2, l2, h3, h4⟩ := hs hw
    exact cmpL_trans (h2 _ ((hm c2 l2).2 h3)) h4
theorem first_iff (ht : Fine t) (hp : Fair p) {r : Option (Cost × List Int)} : First t dk p u v r ↔ r = best t dk p u v :=
  ⟨fun h => h.unique (best_first ht hp dk u v), fun h => by rw [h]; exact best_first ht hp dk u v⟩
end

/-- An entry is no more than a cost. -/
def leE (E : List (Option Cost)) (i : Nat) (c : Cost) : Prop := ∃ e, E[i]? = some (some e) ∧ cmpL e.list c.list ≤ 0
/-- Costs at work: k rounds are done, of this one the places up to i, and of i's the links up to j. -/
structure BSt (t : Town) (dk : Bool) (p : Price) (to : Int) (k i j M : Nat) (E : List (Option Cost)) : Prop where
  len : E.length = t.places.length
  sound : ∀ (i : Nat) v c, t.places[i]? = some v → E[i]? = some (some c) → ∃ l, Walk t dk p v to c l ∧ l.length ≤ M
  home : ∀ i : Nat, t.places[i]? = some to → leE E i zeroC
  opt : ∀ (i : Nat) v c l, t.places[i]? = some v → Walk t dk p v to c l → l.length ≤ k → leE E i c
  done : ∀ i' : Nat, i' < i → ∀ v c l, t.places[i']? = some v → Walk t dk p v to c l → l.length ≤ k + 1 → leE E i' c
  now : ∀ v, t.places[i]? = some v → ∀ x ∈ t.links.take j, ∀ n cx, leads dk p x v = some (n, cx) → ∀ c l, Walk t dk p n to c l → l.length ≤ k → leE E i (addC cx c)
/-- Nothing can be bettered, up to i and j. -/
def Stable (t : Town) (dk : Bool) (p : Price) (E : List (Option Cost)) (i j : Nat) : Prop :=
  ∀ (i' : Nat) v, t.places[i']? = some v → ∀ (j' : Nat) x, t.links[j']? = some x → (i' < i ∨ (i' = i ∧ j' < j)) → ∀ n cx, leads dk p x v = some (n, cx) → ∀ (i2 : Nat) d, t.places[i2]? = some n → E[i2]? = some (some d) → leE E i' (addC cx d)
/-- The least costs. -/
def Costs (t : Town) (dk : Bool) (p : Price) (to : Int) (E : List (Option Cost)) : Prop :=
  E.length = t.places.length ∧ ∀ (i : Nat) v, t.places[i]? = some v → ∀ r, E[i]? = some r → match r with
    | none => ∀ c l, ¬ Walk t dk p v to c l
    | some c => (∃ l, Walk t dk p v to c l) ∧ ∀ c' l', Walk t dk p v to c' l' → cmpL c.list c'.list ≤ 0

theorem leE_set {E : List (Option Cost)} {i i' : Nat} {c d : Cost} (h : leE E i' c) (hd : ∀ e, E[i]? = some (some e) → cmpL d.list e.list ≤ 0) (hi : i < E.length) : leE (E.set i (some d)) i' c := by
  obtain ⟨e, h1, h2⟩ := h
  by_cases hii : i = i'
  · subst hii
    exact ⟨d, by rw [List.getElem?_set_self hi], cmpL_trans (hd e h1) h2⟩
  · exact ⟨e, by rw [List.getElem?_set_ne hii]; exact h1, h2⟩
theorem leE_of_same {E : List (Option Cost)} {i : Nat} {c d : Cost} (h : leE E i c) (hd : cmpL c.list d.list ≤ 0) : leE E i d := by
  obtain ⟨e, h1, h2⟩ := h
  exact ⟨e, h1, cmpL_trans h2 hd⟩
theorem key_cost {c d : Cost} {l m : List Int} (h : cmpL (key c l) (key d m) ≤ 0) : cmpL c.list d.list ≤ 0 := by
  rw [cmp_key] at h
  split at h <;> omega

section
variable {t : Town} {dk : Bool} {p : Price} {to v n : Int} {k i j M : Nat} {E : List (Option Cost)} {x : Link} {cx : Cost}
theorem BSt.more (h : BSt t dk p to k i j M E) (hM : M ≤ M + 1) : BSt t dk p to k i j (M + 1) E :=
  ⟨h.len, fun i v c h1 h2 => by obtain ⟨l, h3, h4⟩ := h.sound i v c h1 h2; exact ⟨l, h3, by omega⟩, h.home, h.opt, h.done, h.now⟩
/-- This link betters nothing. -/
theorem BSt.skip (h : BSt t dk p to k i j M E) (hx : t.links[j]? = some x) (hv : t.places[i]? = some v)
    (hno : ∀ n cx, leads dk p x v = some (n, cx) → ∀ (i2 : Nat) d, t.places[i2]? = some n → E[i2]? = some (some d) → leE E i (addC cx d)) (ht : Fine t) : BSt t dk p to k i (j + 1) M E := by
  refine ⟨h.len, h.sound, h.home, h.opt, h.done, ?_⟩
  intro v' hv' y hy n cx hl c l hw hlen
  rw [hv] at hv'
  cases hv'
  obtain ⟨hj, rfl⟩ := List.getElem?_eq_some_iff.1 hx
  rw [List.take_succ_eq_append_getElem hj, List.mem_append] at hy
  rcases hy with hy | hy
  · exact h.now v hv y hy n cx hl c l hw hlen
  · simp at hy
    subst hy
    have hn := (leads_ends (List.getElem_mem hj) ht hl).2
    obtain ⟨i2, h2⟩ := List.getElem?_of_mem hn
    obtain ⟨d, h3, h4⟩ := h.opt i2 n c l h2 hw hlen
    exact leE_of_same (hno n cx hl i2 d h2 h3) (by rw [cmpC_add']; exact h4)
/-- This link betters i's entry. -/
theorem BSt.take (h : BSt t dk p to k i j M E) (hx : t.links[j]? = some x) (hv : t.places[i]? = some v) (hl : leads dk p x v = some (n, cx)) {i2 : Nat} {d : Cost} (h2 : t.places[i2]? = some n) (h3 : E[i2]? = some (some d))
    (hbe : ∀ e, E[i]? = some (some e) → cmpL (addC cx d).list e.list ≤ 0) (hnd : t.places.Nodup) : BSt t dk p to k i (j + 1) (M + 1) (E.set i (some (addC cx d))) := by
  have hi : i < E.length := by
    rw [h.len]
    exact (List.getElem?_eq_some_iff.1 hv).1
  have up : ∀ {i' c}, leE E i' c → leE (E.set i (some (addC cx d))) i' c := fun h1 => leE_set h1 hbe hi
  refine ⟨by simpa using h.len, ?_, fun i' h1 => up (h.home i' h1), fun i' v c l h1 h4 h5 => up (h.opt i' v c l h1 h4 h5), fun i' hi' v c l h1 h4 h5 => up (h.done i' hi' v c l h1 h4 h5), ?_⟩
  · intro i' v' c h1 h4
    by_cases hii : i = i'
    · subst hii
      rw [List.getElem?_set_self hi] at h4
      cases h4
      rw [hv] at h1
      cases h1
      obtain ⟨l, h5, h6⟩ := h.sound i2 n d h2 h3
      exact ⟨x.id :: l, .cons (List.mem_of_getElem? hx) hl h5, by simp; exact h6⟩
    · rw [List.getElem?_set_ne hii] at h4
      obtain ⟨l, h5, h6⟩ := h.sound i' v' c h1 h4
      exact ⟨l, h5, by omega⟩
  · intro v' hv' y hy n' cx' hl' c l hw hlen
    rw [hv] at hv'
    cases hv'
    obtain ⟨hj, rfl⟩ := List.getElem?_eq_some_iff.1 hx
    rw [List.take_succ_eq_append_getElem hj, List.mem_append] at hy
    rcases hy with hy | hy
    · exact up (h.now v hv y hy n' cx' hl' c l hw hlen)
    · simp at hy
      subst hy
      rw [hl] at hl'
      cases hl'
      refine ⟨addC cx d, by rw [List.getElem?_set_self hi], ?_⟩
      rw [cmpC_add']
      obtain ⟨e, h5, h6⟩ := h.opt i2 n c l h2 hw hlen
      rw [h3] at h5
      cases h5
      exact h6
/-- The next place. -/
theorem BSt.next (h : BSt t dk p to k i j M E) (hj : t.links.length ≤ j) : BSt t dk p to k (i + 1) 0 M E := by
  refine ⟨h.len, h.sound, h.home, h.opt, ?_, fun _ _ x hx => by simp at hx⟩
  intro i' hi' v c l h1 hw hlen
  by_cases e : i' = i
  · subst e
    cases hw with
    | nil v => exact h.home i' h1
    | @cons _ m _ x cx d l hx hl hw' =>
      exact h.now v h1 x (by rw [List.take_of_length_le hj]; exact hx) m cx hl d l hw' (by simpa using hlen)
  · exact h.done i' (by omega) v c l h1 hw hlen
/-- The next round. -/
theorem BSt.round (h : BSt t dk p to k i j M E) (hi : t.places.length ≤ i) : BSt t dk p to (k + 1) 0 0 M E := by
  refine ⟨h.len, h.sound, h.home, ?_, fun _ h1 => absurd h1 (by omega), fun _ _ x hx => by simp at hx⟩
  intro i' v c l h1 hw hlen
  exact h.done i' (by have := (List.getElem?_eq_some_iff.1 h1).1; omega) v c l h1 hw hlen
/-- Behind eight rounds nothing is bettered. -/
theorem BSt.settled (h : BSt t dk p to k i j M E) (hk : 8 ≤ k) (ht : Fine t) (hp : Fair p) {i' : Nat} (h1 : t.places[i']? = some v) {c : Cost} {l : List Int} (hw : Walk t dk p v to c l) : leE E i' c := by
  obtain ⟨c', l', h2, h3, h4⟩ := hw.short ht hp
  have := ht.size
  refine leE_of_same (h.opt i' v c' l' h1 h2 ?_) (key_cost h3)
  rcases h4 with rfl | h4
  · simp
  · omega
theorem Stable.keep (h : Stable t dk p E i j) (hj : t.links.length ≤ j) : Stable t dk p E (i + 1) 0 := by
  intro i' v hv j' x hx hor
  exact h i' v hv j' x hx (by
    have := (List.getElem?_eq_some_iff.1 hx).1
    omega)
theorem Stable.step (h : Stable t dk p E i j) (hx : t.links[j]? = some x) (hv : t.places[i]? = some v)
    (hno : ∀ n cx, leads dk p x v = some (n, cx) → ∀ (i2 : Nat) d, t.places[i2]? = some n → E[i2]? = some (some d) → leE E i (addC cx d)) : Stable t dk p E i (j + 1) := by
  intro i' v' hv' j' y hy hor n cx hl
  by_cases e : i' = i ∧ j' = j
  · obtain ⟨rfl, rfl⟩ := e
    rw [hv] at hv'
    cases hv'
    rw [hx] at hy
    cases hy
    exact hno n cx hl
  · exact h i' v' hv' j' y hy (by omega) n cx hl
theorem BSt.costs (h : BSt t dk p to k i j M E) (hs : Stable t dk p E t.places.length 0) (ht : Fine t) : Costs t dk p to E := by
  have main : ∀ {v c l}, Walk t dk p v to c l → ∀ i' : Nat, t.places[i']? = some v → leE E i' c := by
    intro v c l hw
    have gen : ∀ {v w c l}, Walk t dk p v w c l → w = to → ∀ i' : Nat, t.places[i']? = some v → leE E i' c := by
      intro v w c l hw
      induction hw with
      | nil v => intro e i' h1; subst e; exact h.home i' h1
      | @cons u m v x cx d l hx hl _ ih =>
        intro e i' h1
        obtain ⟨i2, h2⟩ := List.getElem?_of_mem (leads_ends hx ht hl).2
        obtain ⟨e', h3, h4⟩ := ih e i2 h2
        obtain ⟨j', hj'⟩ := List.getElem?_of_mem hx
        exact leE_of_same (hs i' u h1 j' x hj' (.inl (List.getElem?_eq_some_iff.1 h1).1) m cx hl i2 e' h2 h3) (by rw [cmpC_add']; exact h4)
    exact gen hw rfl
  refine ⟨h.len, fun i' v hv r hr => ?_⟩
  cases r with
  | none =>
    intro c l hw
    obtain ⟨e, h1, _⟩ := main hw i' hv
    rw [hr] at h1
    cases h1
  | some c =>
    obtain ⟨l, hl, _⟩ := h.sound i' v c hv hr
    refine ⟨⟨l, hl⟩, fun c' l' hw => ?_⟩
    obtain ⟨e, h1, h2⟩ := main hw i' hv
    rw [hr] at h1
    cases h1
    exact h2

/-- The next link of the first walk. -/
theorem greedy (hC : Costs t dk p to E) (ht : Fine t) (hp : Fair p) {v : Int} {iv : Nat} (hiv : t.places[iv]? = some v) {c : Cost} (hc : E[iv]? = some (some c)) (hne : v ≠ to) :
    (∃ x ∈ t.links, ∃ n cx, ∃ (i2 : Nat) (d : Cost), leads dk p x v = some (n, cx) ∧ t.places[i2]? = some n ∧ E[i2]? = some (some d) ∧ addC cx d = c) ∧
    ∀ (j : Nat) x n cx (i2 : Nat) d, t.links[j]? = some x → leads dk p x v = some (n, cx) → t.places[i2]? = some n → E[i2]? = some (some d) → addC cx d = c →
      (∀ y ∈ t.links.take j, ∀ n' cy (i' : Nat) d', leads dk p y v = some (n', cy) → t.places[i']? = some n' → E[i']? = some (some d') → addC cy d' ≠ c) →
      ∀ c' r, First t dk p n to (some (c', r)) → First t dk p v to (some (addC cx c', x.id :: r)) := by
  have hv := hC.2 iv v hiv _ hc
  simp only at hv
  obtain ⟨⟨l0, hw0⟩, hmin⟩ := hv
  have step : ∀ {x : Link} {n : Int} {cx d' : Cost} {l' : List Int}, x ∈ t.links → leads dk p x v = some (n, cx) → Walk t dk p n to d' l' → cmpL (addC cx d').list c.list ≤ 0 → ∃ (i2 : Nat) (d : Cost), t.places[i2]? = some n ∧ E[i2]? = some (some d) ∧ addC cx d = c ∧ d = d' := by
    intro x n cx d' l' hx hl hw hle
    obtain ⟨i2, h2⟩ := List.getElem?_of_mem (leads_ends hx ht hl).2
    have hlt : i2 < E.length := by rw [hC.1]; exact (List.getElem?_eq_some_iff.1 h2).1
    have he : E[i2]? = some E[i2] := List.getElem?_eq_getElem hlt
    have h3 := hC.2 i2 n h2 _ he
    cases hd : E[i2] with
    | none => rw [hd] at h3; exact absurd hw (h3 _ _)
    | some d =>
      rw [hd] at h3 he
      simp only at h3
      obtain ⟨⟨l2, hw2⟩, hm2⟩ := h3
      have a1 : cmpL c.list (addC cx d).list ≤ 0 := hmin _ _ (.cons hx hl hw2)
      have a2 : cmpL (addC cx d).list (addC cx d').list ≤ 0 := by rw [cmpC_add']; exact hm2 _ _ hw
      have e1 : (addC cx d).list = c.list := cmpL_antisymm (cmpL_trans a2 hle) a1
      have e2 : (addC cx d').list = c.list := cmpL_antisymm hle (cmpL_trans a1 a2)
      have e3 : addC cx d = c := list_eq (by rw [e1, cmpL_refl])
      have e4 : cmpL d.list d'.list = 0 := by rw [← cmpC_add' d d' cx, e1, e2, cmpL_refl]
      exact ⟨i2, d, h2, he, e3, list_eq e4⟩
  constructor
  · cases hw0 with
    | nil v => exact absurd rfl hne
    | @cons _ m _ x cx d l hx hl hw =>
      obtain ⟨i2, d2, h2, h3, h4, h5⟩ := step hx hl hw (by rw [cmpL_refl]; omega)
      exact ⟨x, hx, m, cx, i2, d2, hl, h2, h3, h4⟩
  · intro j x n cx i2 d hj hl h2 h3 h4 hno c' r hf
    have hx : x ∈ t.links := List.mem_of_getElem? hj
    have hn := hC.2 i2 n h2 _ h3
    simp only at hn
    have hcd : c' = d := by
      obtain ⟨⟨l2, hw2⟩, hm2⟩ := hn
      exact list_eq (by rw [cmpL_antisymm (key_cost (hf.2 _ _ hw2)) (hm2 _ _ hf.1), cmpL_refl])
    subst hcd
    refine ⟨.cons hx hl hf.1, fun c2 l2 hw => ?_⟩
    rw [h4, cmp_key]
    have hle := hmin _ _ hw
    split
    · rename_i heq
      have hceq := list_eq heq
      subst hceq
      cases hw with
      | nil v => exact absurd rfl hne
      | @cons _ m _ y cy dy ly hy hly hwy =>
        rw [cmpL_cons]
        split
        · omega
        · rename_i hlt
          obtain ⟨i3, d3, g2, g3, g4, g5⟩ := step hy hly hwy (by rw [cmpL_refl]; omega)
          obtain ⟨jy, hjy⟩ := List.getElem?_of_mem hy
          have hidx : j ≤ jy := by
            rcases Nat.lt_or_ge jy j with hlt' | hge
            · exfalso
              refine hno y ?_ m cy i3 d3 hly g2 g3 g4
              rw [List.mem_take_iff_getElem]
              obtain ⟨h5, h6⟩ := List.getElem?_eq_some_iff.1 hjy
              exact ⟨jy, by omega, h6⟩
            · exact hge
          have hij : x.id ≤ y.id ∧ (x.id = y.id → x = y) := by
            rcases Nat.eq_or_lt_of_le hidx with e | hlt'
            · subst e
              rw [hj] at hjy
              cases hjy
              exact ⟨by omega, fun _ => rfl⟩
            · obtain ⟨h5, h6⟩ := List.getElem?_eq_some_iff.1 hjy
              obtain ⟨h7, h8⟩ := List.getElem?_eq_some_iff.1 hj
              have := List.pairwise_iff_getElem.1 ht.ids j jy h7 h5 hlt'
              rw [h6, h8] at this
              exact ⟨by omega, fun e => by omega⟩
          rw [if_neg (by omega)]
          have hxy := hij.2 (by omega)
          subst hxy
          rw [hl] at hly
          cases hly
          have h9 := hf.2 _ _ hwy
          subst g5
          have hd : d3 = c' := by
            have := g4.trans h4.symm
            have h10 : cmpL d3.list c'.list = 0 := by rw [← cmpC_add' d3 c' cx, this, cmpL_refl]
            exact list_eq h10
          subst hd
          rw [cmp_key, cmpL_refl, if_pos rfl] at h9
          exact h9
    · rename_i h9
      exact hle
end
end Go.Proofs.YtahkjagjcogeiaaDoor
/- Prices, and what a link costs: climb.chart.cost, cost.plus, cost.toil. -/
namespace Go.Proofs.YtahkjagjcogeiaaDoor
open Go.RowKit
set_option linter.unusedVariables false

/-- What a link costs first. -/
def priceOf (p : Price) (x : Link) (climbed : Bool) : Int := if climbed then x.paces * p.pace + x.steps * (p.up + p.step) else x.paces * p.pace + x.steps * p.step
/-- A link within its limits. -/
structure Fit (x : Link) : Prop where
  steps : 0 ≤ x.steps ∧ x.steps ≤ 500
  paces : 1 ≤ x.paces ∧ x.paces ≤ 2000

/-- A function value that tells prices. -/
structure PriceAt (w : World) (p : Price) (F : FuncId) (C : Array Value) : Prop where
  enters : ∀ args W, (callFunc F args).run Tryd.prog W = .ok (.enter F args) W
  calls : ∀ x cl W, Below w.heap.size w W → Fit x → Calls Tryd.prog F (#[.agg #[.int .i64 x.id, .int .i64 x.fr, .int .i64 x.to, .int .i64 x.steps, .int .i64 x.paces], .bool cl] ++ C) W fun e w' => e = .returned (.int .i64 (priceOf p x cl)) ∧ Below W.heap.size W w'
theorem PriceAt.below {w w' : World} {p : Price} {F : FuncId} {C : Array Value} (h : PriceAt w p F C) (hb : Below w.heap.size w w') : PriceAt w' p F C :=
  ⟨h.enters, fun x cl W hW hx => h.calls x cl W (hb.trans (hW.mono hb.size)) hx⟩

@[reducible] def linkV (x : Link) : Value := .agg #[.int .i64 x.id, .int .i64 x.fr, .int .i64 x.to, .int .i64 x.steps, .int .i64 x.paces]
@[reducible] def chartV (A : Option Addr) (n c : Nat) (A' : Option Addr) (m d : Nat) (dk : Bool) (F : FuncId) (C : Array Value) : Value := .agg #[.slice A n c, .slice A' m d, .bool dk, .func (.func F) #[] C]
@[reducible] def costV (c : Cost) : Value := .agg #[.int .i64 c.a, .int .i64 c.b, .int .i64 c.c, .int .i64 c.d]

theorem far4 {w : World} {g h : Nat} {t : TypeId} {cs : Array Value} (b : Blk w g t cs) (hp : g ≠ h) (u0 u1 u2 u3 : Value) : Blk ((((w.setCell ⟨h, 0, none⟩ u0).setCell ⟨h, 1, none⟩ u1).setCell ⟨h, 2, none⟩ u2).setCell ⟨h, 3, none⟩ u3) g t cs :=
  (((b.far (p := ⟨h, 0, none⟩) hp u0).far (p := ⟨h, 1, none⟩) hp u1).far (p := ⟨h, 2, none⟩) hp u2).far (p := ⟨h, 3, none⟩) hp u3
def costOf (p : Price) (x : Link) (cl : Bool) : Cost := ⟨priceOf p x cl, if cl then x.steps else 0, x.paces, 1⟩

set_option maxRecDepth 100000 in
set_option maxHeartbeats 4000000 in
theorem cost_any (A : Option Addr) (n c : Nat) (A' : Option Addr) (m d : Nat) (dk : Bool) (F : FuncId) (C : Array Value) (p : Price) (x : Link) (cl : Bool) (w : World) (hp : PriceAt w p F C) (hx : Fit x) :
    Calls Tryd.prog 141 #[.agg #[.slice A n c, .slice A' m d, .bool dk, .func (.func F) #[] C], .agg #[.int .i64 x.id, .int .i64 x.fr, .int .i64 x.to, .int .i64 x.steps, .int .i64 x.paces], .bool cl] w fun e w' => e = .returned (costV (costOf p x cl)) ∧ Below w.heap.size w w' := by
  have hen := hp.enters
  have HP := Lib.hid hp
  have HX := Lib.hid hx
  clear hp hx
  cases cl
  all_goals
    go_enter Tryd.func141, Tryd.ntmps141
    go_wp2_with fail
    have X1 := (Blk.new w 115 #[.slice A n c, .slice A' m d, .bool dk, .func (.func F) #[] C])
    have X2 := (X1.alloc (.cells #[.int .i64 x.id, .int .i64 x.fr, .int .i64 x.to, .int .i64 x.steps, .int .i64 x.paces] 45)).alloc (.cells #[.int .i64 0, .int .i64 0, .int .i64 0, .int .i64 0] 109)
    have Y2 := (Blk.new (w.alloc (.cells #[.slice A n c, .slice A' m d, .bool dk, .func (.func F) #[] C] 115)) 45 #[.int .i64 x.id, .int .i64 x.fr, .int .i64 x.to, .int .i64 x.steps, .int .i64 x.paces]).alloc (.cells #[.int .i64 0, .int .i64 0, .int .i64 0, .int .i64 0] 109)
    have Z2 := Blk.new ((w.alloc (.cells #[.slice A n c, .slice A' m d, .bool dk, .func (.func F) #[] C] 115)).alloc (.cells #[.int .i64 x.id, .int .i64 x.fr, .int .i64 x.to, .int .i64 x.steps, .int .i64 x.paces] 45)) 109 #[.int .i64 0, .int .i64 0, .int .i64 0, .int .i64 0]
    have B2 : Below w.heap.size w (((w.alloc (.cells #[.slice A n c, .slice A' m d, .bool dk, .func (.func F) #[] C] 115)).alloc (.cells #[.int .i64 x.id, .int .i64 x.fr, .int .i64 x.to, .int .i64 x.steps, .int .i64 x.paces] 45)).alloc (.cells #[.int .i64 0, .int .i64 0, .int .i64 0, .int .i64 0] 109)) := (((Below.refl _ _).alloc (Nat.le_refl _) _).alloc (by simp) _).alloc (by simp; omega) _
    rw [World.size_alloc] at Y2
    rw [World.size_alloc, World.size_alloc] at Z2
    clear X1
    generalize (((w.alloc (.cells #[.slice A n c, .slice A' m d, .bool dk, .func (.func F) #[] C] 115)).alloc (.cells #[.int .i64 x.id, .int .i64 x.fr, .int .i64 x.to, .int .i64 x.steps, .int .i64 x.paces] 45)).alloc (.cells #[.int .i64 0, .int .i64 0, .int .i64 0, .int .i64 0] 109)) = w0 at *
    have hz := Z2.lt
    have K0 : w0.drew.cell? ⟨w.heap.size, 3, none⟩ = some (.func (.func F) #[] C) ∧ w0.drew.cell? ⟨w.heap.size + 1, 0, none⟩ = some (.int .i64 x.id) ∧ w0.drew.cell? ⟨w.heap.size + 1, 1, none⟩ = some (.int .i64 x.fr) ∧ w0.drew.cell? ⟨w.heap.size + 1, 2, none⟩ = some (.int .i64 x.to) ∧ w0.drew.cell? ⟨w.heap.size + 1, 3, none⟩ = some (.int .i64 x.steps) ∧ w0.drew.cell? ⟨w.heap.size + 1, 4, none⟩ = some (.int .i64 x.paces) := ⟨X2.cell 3, Y2.cell 0, Y2.cell 1, Y2.cell 2, Y2.cell 3, Y2.cell 4⟩
    go_region_held3 (fun w' => w'.cell? ⟨w.heap.size, 3, none⟩ = some (.func (.func F) #[] C) ∧ w'.cell? ⟨w.heap.size + 1, 0, none⟩ = some (.int .i64 x.id) ∧ w'.cell? ⟨w.heap.size + 1, 1, none⟩ = some (.int .i64 x.fr) ∧ w'.cell? ⟨w.heap.size + 1, 2, none⟩ = some (.int .i64 x.to) ∧ w'.cell? ⟨w.heap.size + 1, 3, none⟩ = some (.int .i64 x.steps) ∧ w'.cell? ⟨w.heap.size + 1, 4, none⟩ = some (.int .i64 x.paces))
      (first | with_reducible assumption | exact ⟨(far4 X3 (by omega) _ _ _ _).cell 3, (far4 Y3 (by omega) _ _ _ _).cell 0, (far4 Y3 (by omega) _ _ _ _).cell 1, (far4 Y3 (by omega) _ _ _ _).cell 2, (far4 Y3 (by omega) _ _ _ _).cell 3, (far4 Y3 (by omega) _ _ _ _).cell 4⟩)
      (first | (refine (HP.out.calls x _ _ (below_drewN B2 1) HX.out).mono ?_; rintro e w1 ⟨rfl, hb⟩; have X3 := (Blk.drewN X2 1).below hb (by show w.heap.size < w0.heap.size; omega); have Y3 := (Blk.drewN Y2 1).below hb (by show w.heap.size + 1 < w0.heap.size; omega); have Z3 := (Blk.drewN Z2 1).below hb hz; have z0 := Z3.cell 0; have z1 := Z3.cell 1; have z2 := Z3.cell 2; have z3 := Z3.cell 3; have y0 := Z3.frozen 0; have y1 := Z3.frozen 1; have y2 := Z3.frozen 2; have y3 := Z3.frozen 3; have K1 : w1.cell? ⟨w.heap.size, 3, none⟩ = some (.func (.func F) #[] C) ∧ w1.cell? ⟨w.heap.size + 1, 0, none⟩ = some (.int .i64 x.id) ∧ w1.cell? ⟨w.heap.size + 1, 1, none⟩ = some (.int .i64 x.fr) ∧ w1.cell? ⟨w.heap.size + 1, 2, none⟩ = some (.int .i64 x.to) ∧ w1.cell? ⟨w.heap.size + 1, 3, none⟩ = some (.int .i64 x.steps) ∧ w1.cell? ⟨w.heap.size + 1, 4, none⟩ = some (.int .i64 x.paces) := ⟨X3.cell 3, Y3.cell 0, Y3.cell 1, Y3.cell 2, Y3.cell 3, Y3.cell 4⟩))
    go_wp2_with fail
    exact bodyPost_ret (v := costV (costOf p x _)) (by simp [results, Tryd.results141, go_sem, costOf, z0, z1, z2, z3]) rfl ⟨rfl, ((((((below_drewN B2 1).trans (hb.mono (by show w.heap.size ≤ w0.heap.size; omega))).setCell (by simp; omega) _).setCell (by simp; omega) _).setCell (by simp; omega) _).setCell (by simp; omega) _)⟩
end Go.Proofs.YtahkjagjcogeiaaDoor
/- The three prices: climb.free, drips, takes. -/
namespace Go.Proofs.YtahkjagjcogeiaaDoor
open Go.RowKit
set_option linter.unusedVariables false

theorem mul_fits {a b m n : Int} (ha : 0 ≤ a ∧ a ≤ m) (hb : 0 ≤ b ∧ b ≤ n) : 0 ≤ a * b ∧ a * b ≤ m * n :=
  ⟨Int.mul_nonneg ha.1 hb.1, Int.mul_le_mul ha.2 hb.2 hb.1 (by omega)⟩

set_option maxRecDepth 100000 in
set_option maxHeartbeats 2000000 in
theorem free_price (w : World) : PriceAt w ⟨0, 0, 0⟩ 87 #[] := by
  refine ⟨enters_of Tryd.func87 (by kernel_rfl) rfl, fun x cl W hW hx => ?_⟩
  go_enter Tryd.func87, Tryd.ntmps87
  go_wp2_with fail
  go_ret
  exact ⟨by cases cl <;> simp [priceOf], (Below.refl _ _).alloc (Nat.le_refl _) _⟩

end Go.Proofs.YtahkjagjcogeiaaDoor
/- A region that draws its order, inside a fence, by an invariant: what has been carried out has what it waits for. -/
namespace Go.Proofs.YtahkjagjcogeiaaDoor
open Go.RowKit
set_option linter.unusedVariables false

section
variable {F : Fence} {n : Nat} {P : Program} {Q : Exit → Act → World → Prop}
/-- One obligation an operation. -/
def StepsD {σ : Type} (F : Fence) (n : Nat) (P : Program) (ops : Array Oper) (D : (Nat → Bool) → Prop) (act : σ → Act) (inv : (Nat → Bool) → σ → World → Prop) : Nat → List Oper → Prop
  | _, [] => True
  | i, o :: rest => (∀ L s W, L i = false → Waited L o.after.toList → D L → inv L s W → ∀ (K : Act → World → Prop) (Q : Exit → Act → World → Prop), (∀ s' W', inv (done L i) s' W' → K (act s') W') → wpListIn F n P ops (Exit.then K Q) [o] (act s) W) ∧ StepsD F n P ops D act inv (i + 1) rest
theorem StepsD.at_ {σ : Type} {ops : Array Oper} {D : (Nat → Bool) → Prop} {act : σ → Act} {inv : (Nat → Bool) → σ → World → Prop} : ∀ {l : List Oper} {k i : Nat} {o : Oper}, StepsD F n P ops D act inv k l → l[i]? = some o →
    ∀ L s W, L (k + i) = false → Waited L o.after.toList → D L → inv L s W → ∀ (K : Act → World → Prop) (Q : Exit → Act → World → Prop), (∀ s' W', inv (done L (k + i)) s' W' → K (act s') W') → wpListIn F n P ops (Exit.then K Q) [o] (act s) W
  | [], _, _, _, _, h => by simp at h
  | o' :: l, k, 0, o, hs, h => by simp at h; subst h; exact hs.1
  | o' :: l, k, i + 1, o, hs, h => by
    have := StepsD.at_ (i := i) hs.2 (by simpa using h)
    rwa [show k + 1 + i = k + (i + 1) by omega] at this

/-- THE LAW. -/
theorem wpIn_region_stepsD {σ : Type} {id : Nat} {a : Act} {w : World} {l : List Oper} (hm : P.follows .mixedOrders = true) (hb : backB l.toArray = true) (act : σ → Act) (inv : (Nat → Bool) → σ → World → Prop) (s0 : σ)
    (ha : a = act s0) (h0 : inv (fun _ => false) s0 w.drew)
    (hstep : StepsD F n P l.toArray (Down l) act inv 0 l)
    (hend : ∀ L s W, (∀ k, k < l.length → L k = true) → inv L s W → Q .normal (act s) W) : (Code.region id l.toArray true).wpIn F n P Q a w := by
  refine wpIn_region_L hm act (fun L s W => Down l L ∧ inv L s W) ⟨s0, ha, (fun j o _ h => by cases h), h0⟩ ?_ ?_ (dag_of_back hb)
  · rintro L i o s W ho hu hd ⟨hdn, hi⟩
    have hw : Waited L o.after.toList := Waited.of fun e he => hd e (by simpa using he)
    have := hstep.at_ (i := i) (o := o) (by simpa using ho) L s W (by simpa using hu) hw hdn hi
    simp only [Nat.zero_add] at this
    exact this _ Q fun s' W' h => ⟨s', rfl, hdn.step (by simpa using ho) hw, h⟩
  · rintro L s W hall ⟨_, hi⟩
    exact hend L s W (fun k hk => hall k (by simpa using hk)) hi
end
end Go.Proofs.YtahkjagjcogeiaaDoor
/- A scope within a fence: where no jump to a label is made. -/
namespace Go.Proofs.YtahkjagjcogeiaaDoor
open Go.RowKit
set_option linter.unusedVariables false

section
variable {F : Fence} {n : Nat} {P : Program} {b : Frame} {a : Act} {k : List Item} {cs : List Frame} {w : World} {Q : Exit → Act → World → Prop}
theorem stepR_scope {c : Code} : step P (lone (b.atR a (.code (.scope c) :: k)) cs w) = .next (lone (b.atR a (.code c :: .inScope c :: k)) cs w) :=
  step_lone_go (by simp [stepG, stepG.exec, Frame.atR])
theorem stepR_inScope {c : Code} : step P (lone (b.atR a (.inScope c :: k)) cs w) = .next (lone (b.atR a k) cs w) :=
  step_lone_go (by simp [stepG, stepG.exec, Frame.atR])
theorem wpIn_scope_straight {c : Code} (h : c.wpIn F n P (Exit.noGoto Q) a w) : (Code.scope c).wpIn F n P Q a w := by
  intro b k cs hro hb hr
  have h0 : (lone (b.atR a (.code (.scope c) :: k)) cs w).fenced P F := fenced_calm hb hr rfl
  obtain ⟨e, a₁, w₁, hq, harr⟩ := h b (.inScope c :: k) cs hro hb hr
  cases e with
  | normal => exact ⟨.normal, a₁, w₁, hq, .head h0 stepR_scope (StepsIn.trans harr (.one (fenced_calm hb hr rfl) stepR_inScope))⟩
  | exit id =>
    have hx : exitTo id (.inScope c :: k) = exitTo id k := by simp [exitTo]
    exact ⟨.exit id, a₁, w₁, hq, fun k' hk => .head h0 stepR_scope (harr.1 k' (by rw [hx]; exact hk)),
      fun hr' hk => let ⟨k₁, h1, h2⟩ := harr.2 hr' (by rw [hx]; exact hk); ⟨k₁, h1, .head h0 stepR_scope h2⟩⟩
  | goto l => exact hq.elim
  | ret => exact ⟨_, a₁, w₁, hq, .of_steps (.one h0 stepR_scope) harr⟩
  | panic ch => exact ⟨_, a₁, w₁, hq, .of_steps (.one h0 stepR_scope) harr⟩
  | outgrown => exact ⟨_, a₁, w₁, hq, .of_steps (.one h0 stepR_scope) harr⟩
end
end Go.Proofs.YtahkjagjcogeiaaDoor
