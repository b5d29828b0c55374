/- The answer's Twin. -/
import Derived.Test.YtahkjagjcogeiaaDoorRfTown
import Derived.Test.YtahkjagjcogeiaaDoorClOpen
namespace Go.Proofs.YtahkjagjcogeiaaDoor
open Go.RowKit
set_option linter.unusedVariables false

structure TwinGh where
  g0 : Nat
  A1 : Option Addr
  c1 : Nat
  g4 : Nat
  A2 : Option Addr
  c2 : Nat

theorem below_of_grown2 {B : Nat} {w W W' : World} {row : Option Nat} (h : Below B w W) (hg : W.grownBy W' row) (hr : ∀ k, row = some k → B ≤ k) (hB : B ≤ W.heap.size := by omega) : Below B w W' := h.grown hg hB hr

set_option maxRecDepth 100000 in
set_option maxHeartbeats 8000000 in
theorem twin_any (A : Option Addr) (n c : Nat) (A' : Option Addr) (m d : Nat) (t : Town) (w : World) (hn : n ≤ 1000) (hm : m ≤ 1000) (ht : TownAt w w.heap.size A n A' m t) :
    Calls Tryd.prog 10 #[.agg #[.slice A n c, .slice A' m d]] w fun e w' => TownOut w e w' t := by
  have HT := Lib.hid ht
  have HLn := Lib.hid ht.places.len
  have HLm := Lib.hid ht.links.len
  have hn1 : n ≤ maxLen := by unfold maxLen; omega
  have hm1 : m ≤ maxLen := by unfold maxLen; omega
  have hn2 : n * 8 ≤ 140737488355328 := by omega
  have hm2 : m * 40 ≤ 140737488355328 := by omega
  clear ht
  go_enter Tryd.func10, Tryd.ntmps10
  go_wp2_with fail
  have X0 := (Blk.new w 25 #[.slice A n c, .slice A' m d]).alloc (.cells #[.slice none 0 0, .slice none 0 0] 25)
  have Z0 := Blk.new (w.alloc (.cells #[.slice A n c, .slice A' m d] 25)) 25 #[.slice none 0 0, .slice none 0 0]
  have B0 : Below w.heap.size w ((w.alloc (.cells #[.slice A n c, .slice A' m d] 25)).alloc (.cells #[.slice none 0 0, .slice none 0 0] 25)) := ((Below.refl _ _).alloc (Nat.le_refl _) _).alloc (by simp) _
  rw [World.size_alloc] at Z0
  generalize ((w.alloc (.cells #[.slice A n c, .slice A' m d] 25)).alloc (.cells #[.slice none 0 0, .slice none 0 0] 25)) = w0 at *
  refine wp_region_steps (by kernel_rfl) (by kernel_rfl) (fun σ : TwinGh × (Nat → Value) => { tmps := #[.agg #[.slice A n c, .slice A' m d], .pointer (some ⟨w.heap.size, 0, none⟩), .pointer (some ⟨w.heap.size + 1, 0, none⟩), σ.2 3, σ.2 4, σ.2 5, σ.2 6, σ.2 7, σ.2 8, σ.2 9, σ.2 10, σ.2 11], defers := [] })
    (fun L σ W => (Below w.heap.size w W) ∧ (Blk W w.heap.size 25 #[.slice A n c, .slice A' m d]) ∧ (L 9 = false → Blk W (w.heap.size + 1) 25 #[.slice none 0 0, .slice none 0 0]) ∧ (L 9 = true → Blk W (w.heap.size + 1) 25 #[.slice σ.1.A1 n σ.1.c1, .slice σ.1.A2 m σ.1.c2]) ∧ (L 0 = true → L 3 = false → Blk W σ.1.g0 3 #[] ∧ w.heap.size + 1 < σ.1.g0) ∧ (L 4 = true → L 7 = false → Blk W σ.1.g4 45 #[] ∧ w.heap.size + 1 < σ.1.g4) ∧ (L 3 = true → Own W w.heap.size 3 1 σ.1.A1 n σ.1.c1 (t.places.map (Value.int .i64)) ∧ Above (w.heap.size + 1) σ.1.A1) ∧ (L 7 = true → Own W w.heap.size 45 5 σ.1.A2 m σ.1.c2 (t.links.flatMap Link.vals) ∧ Above (w.heap.size + 1) σ.1.A2) ∧ (L 3 = true → L 7 = true → Apart σ.1.A1 σ.1.A2) ∧ (L 3 = true → L 4 = true → L 7 = false → ∀ a, σ.1.A1 = some a → a.block ≠ σ.1.g4) ∧ (L 0 = true → L 7 = true → L 3 = false → ∀ a, σ.1.A2 = some a → a.block ≠ σ.1.g0) ∧ (L 0 = true → L 4 = true → L 3 = false → L 7 = false → σ.1.g0 ≠ σ.1.g4) ∧ (L 0 = true → σ.2 3 = .slice (some ⟨σ.1.g0, 0, none⟩) 0 0) ∧ (L 1 = true → σ.2 4 = .pointer (some ⟨w.heap.size, 0, none⟩)) ∧ (L 2 = true → σ.2 5 = .slice A n c) ∧ (L 3 = true → σ.2 6 = .slice σ.1.A1 n σ.1.c1) ∧ (L 4 = true → σ.2 7 = .slice (some ⟨σ.1.g4, 0, none⟩) 0 0) ∧ (L 5 = true → σ.2 8 = .pointer (some ⟨w.heap.size, 1, none⟩)) ∧ (L 6 = true → σ.2 9 = .slice A' m d) ∧ (L 7 = true → σ.2 10 = .slice σ.1.A2 m σ.1.c2) ∧ (L 8 = true → σ.2 11 = .agg #[.slice σ.1.A1 n σ.1.c1, .slice σ.1.A2 m σ.1.c2]))
    (⟨0, none, 0, 0, none, 0⟩, fun k => undef) rfl ?_ ?_ ?_
  · exact ⟨B0.drew, X0.drew, fun _ => Z0.drew, (fun h => by cases h), (fun h => by cases h), (fun h => by cases h), (fun h => by cases h), (fun h => by cases h), (fun h => by cases h), (fun h => by cases h), (fun h => by cases h), (fun h => by cases h), (fun h => by cases h), (fun h => by cases h), (fun h => by cases h), (fun h => by cases h), (fun h => by cases h), (fun h => by cases h), (fun h => by cases h), (fun h => by cases h), (fun h => by cases h)⟩
  · refine ⟨?_, ?_, ?_, ?_, ?_, ?_, ?_, ?_, ?_, ?_, trivial⟩
    · rintro L ⟨gh, s⟩ W hu hd hdn ⟨g1, g2, gZ, gR, gE, gF, g3, g7, d37, d34, d07, d04, f0, f1, f2, f3, f4, f5, f6, f7, f8⟩ K Q hK
      try dsimp only at g1 g2 gZ gR gE gF g3 g7 d37 d34 d07 d04 f0 f1 f2 f3 f4 f5 f6 f7 f8 ⊢
      have h9 : L 9 = false := by
        cases hc : L 9 with
        | false => rfl
        | true => exact hdn.no 9 0 hc rfl hu
      have hW := (gZ h9).lt
      have HF := Lib.hid (show (Below w.heap.size w W) ∧ (Blk W w.heap.size 25 #[.slice A n c, .slice A' m d]) ∧ (L 9 = false → Blk W (w.heap.size + 1) 25 #[.slice none 0 0, .slice none 0 0]) ∧ (L 9 = true → Blk W (w.heap.size + 1) 25 #[.slice gh.A1 n gh.c1, .slice gh.A2 m gh.c2]) ∧ (L 0 = true → L 3 = false → Blk W gh.g0 3 #[] ∧ w.heap.size + 1 < gh.g0) ∧ (L 4 = true → L 7 = false → Blk W gh.g4 45 #[] ∧ w.heap.size + 1 < gh.g4) ∧ (L 3 = true → Own W w.heap.size 3 1 gh.A1 n gh.c1 (t.places.map (Value.int .i64)) ∧ Above (w.heap.size + 1) gh.A1) ∧ (L 7 = true → Own W w.heap.size 45 5 gh.A2 m gh.c2 (t.links.flatMap Link.vals) ∧ Above (w.heap.size + 1) gh.A2) ∧ (L 3 = true → L 7 = true → Apart gh.A1 gh.A2) ∧ (L 3 = true → L 4 = true → L 7 = false → ∀ a, gh.A1 = some a → a.block ≠ gh.g4) ∧ (L 0 = true → L 7 = true → L 3 = false → ∀ a, gh.A2 = some a → a.block ≠ gh.g0) ∧ (L 0 = true → L 4 = true → L 3 = false → L 7 = false → gh.g0 ≠ gh.g4) ∧ (L 0 = true → s 3 = .slice (some ⟨gh.g0, 0, none⟩) 0 0) ∧ (L 1 = true → s 4 = .pointer (some ⟨w.heap.size, 0, none⟩)) ∧ (L 2 = true → s 5 = .slice A n c) ∧ (L 3 = true → s 6 = .slice gh.A1 n gh.c1) ∧ (L 4 = true → s 7 = .slice (some ⟨gh.g4, 0, none⟩) 0 0) ∧ (L 5 = true → s 8 = .pointer (some ⟨w.heap.size, 1, none⟩)) ∧ (L 6 = true → s 9 = .slice A' m d) ∧ (L 7 = true → s 10 = .slice gh.A2 m gh.c2) ∧ (L 8 = true → s 11 = .agg #[.slice gh.A1 n gh.c1, .slice gh.A2 m gh.c2]) from ⟨g1, g2, gZ, gR, gE, gF, g3, g7, d37, d34, d07, d04, f0, f1, f2, f3, f4, f5, f6, f7, f8⟩)
      clear f8 f7 f6 f5 f4 f3 f2 f1 f0 d04 d07 d34 d37 g7 g3 gF gE gR gZ g2 g1 hd
      try simp only
      go_wp2_with fail
      obtain ⟨g1, g2, gZ, gR, gE, gF, g3, g7, d37, d34, d07, d04, f0, f1, f2, f3, f4, f5, f6, f7, f8⟩ := HF.out
      have hb : Below W.heap.size W (W.alloc (.cells #[] 3)) := (Below.refl _ _).alloc (Nat.le_refl _) _
      exact hK ({ gh with g0 := W.heap.size }, (upd s 3 (.slice (some ⟨W.heap.size, 0, none⟩) 0 0))) _ ⟨(g1.trans (hb.mono g1.size)), (g2.below hb g2.lt), (fun h => (gZ h).below hb (gZ h).lt), (fun h => (gR h).below hb (gR h).lt), (fun _ _ => ⟨Blk.new W _ _, hW⟩), (fun h h3 => ⟨(gF h h3).1.below hb (gF h h3).1.lt, (gF h h3).2⟩), (fun h => ⟨(g3 h).1.below hb (Nat.le_refl _), (g3 h).2⟩), (fun h => ⟨(g7 h).1.below hb (Nat.le_refl _), (g7 h).2⟩), d37, d34, (fun _ h7 _ a ha => fun (e : a.block = W.heap.size) => by have := ((g7 h7).1.lt ha).2; omega), (fun _ h4 _ h7 => fun (e : W.heap.size = gh.g4) => by have := (gF h4 h7).1.lt; omega), (fun _ => rfl), f1, f2, f3, f4, f5, f6, f7, f8⟩
    · rintro L ⟨gh, s⟩ W hu hd hdn ⟨g1, g2, gZ, gR, gE, gF, g3, g7, d37, d34, d07, d04, f0, f1, f2, f3, f4, f5, f6, f7, f8⟩ K Q hK
      try dsimp only at g1 g2 gZ gR gE gF g3 g7 d37 d34 d07 d04 f0 f1 f2 f3 f4 f5 f6 f7 f8 ⊢
      have HF := Lib.hid (show (Below w.heap.size w W) ∧ (Blk W w.heap.size 25 #[.slice A n c, .slice A' m d]) ∧ (L 9 = false → Blk W (w.heap.size + 1) 25 #[.slice none 0 0, .slice none 0 0]) ∧ (L 9 = true → Blk W (w.heap.size + 1) 25 #[.slice gh.A1 n gh.c1, .slice gh.A2 m gh.c2]) ∧ (L 0 = true → L 3 = false → Blk W gh.g0 3 #[] ∧ w.heap.size + 1 < gh.g0) ∧ (L 4 = true → L 7 = false → Blk W gh.g4 45 #[] ∧ w.heap.size + 1 < gh.g4) ∧ (L 3 = true → Own W w.heap.size 3 1 gh.A1 n gh.c1 (t.places.map (Value.int .i64)) ∧ Above (w.heap.size + 1) gh.A1) ∧ (L 7 = true → Own W w.heap.size 45 5 gh.A2 m gh.c2 (t.links.flatMap Link.vals) ∧ Above (w.heap.size + 1) gh.A2) ∧ (L 3 = true → L 7 = true → Apart gh.A1 gh.A2) ∧ (L 3 = true → L 4 = true → L 7 = false → ∀ a, gh.A1 = some a → a.block ≠ gh.g4) ∧ (L 0 = true → L 7 = true → L 3 = false → ∀ a, gh.A2 = some a → a.block ≠ gh.g0) ∧ (L 0 = true → L 4 = true → L 3 = false → L 7 = false → gh.g0 ≠ gh.g4) ∧ (L 0 = true → s 3 = .slice (some ⟨gh.g0, 0, none⟩) 0 0) ∧ (L 1 = true → s 4 = .pointer (some ⟨w.heap.size, 0, none⟩)) ∧ (L 2 = true → s 5 = .slice A n c) ∧ (L 3 = true → s 6 = .slice gh.A1 n gh.c1) ∧ (L 4 = true → s 7 = .slice (some ⟨gh.g4, 0, none⟩) 0 0) ∧ (L 5 = true → s 8 = .pointer (some ⟨w.heap.size, 1, none⟩)) ∧ (L 6 = true → s 9 = .slice A' m d) ∧ (L 7 = true → s 10 = .slice gh.A2 m gh.c2) ∧ (L 8 = true → s 11 = .agg #[.slice gh.A1 n gh.c1, .slice gh.A2 m gh.c2]) from ⟨g1, g2, gZ, gR, gE, gF, g3, g7, d37, d34, d07, d04, f0, f1, f2, f3, f4, f5, f6, f7, f8⟩)
      clear f8 f7 f6 f5 f4 f3 f2 f1 f0 d04 d07 d34 d37 g7 g3 gF gE gR gZ g2 g1 hd
      try simp only
      go_wp2_with fail
      obtain ⟨g1, g2, gZ, gR, gE, gF, g3, g7, d37, d34, d07, d04, f0, f1, f2, f3, f4, f5, f6, f7, f8⟩ := HF.out
      exact hK (gh, (upd s 4 (.pointer (some ⟨w.heap.size, 0, none⟩)))) _ ⟨g1, g2, gZ, gR, gE, gF, g3, g7, d37, d34, d07, d04, f0, (fun _ => rfl), f2, f3, f4, f5, f6, f7, f8⟩
    · rintro L ⟨gh, s⟩ W hu hd hdn ⟨g1, g2, gZ, gR, gE, gF, g3, g7, d37, d34, d07, d04, f0, f1, f2, f3, f4, f5, f6, f7, f8⟩ K Q hK
      try dsimp only at g1 g2 gZ gR gE gF g3 g7 d37 d34 d07 d04 f0 f1 f2 f3 f4 f5 f6 f7 f8 ⊢
      have e1 := f1 (hd.at_ 1 rfl)
      have c0 : W.cell? ⟨w.heap.size, 0, none⟩ = some (.slice A n c) := g2.cell 0
      have HF := Lib.hid (show (Below w.heap.size w W) ∧ (Blk W w.heap.size 25 #[.slice A n c, .slice A' m d]) ∧ (L 9 = false → Blk W (w.heap.size + 1) 25 #[.slice none 0 0, .slice none 0 0]) ∧ (L 9 = true → Blk W (w.heap.size + 1) 25 #[.slice gh.A1 n gh.c1, .slice gh.A2 m gh.c2]) ∧ (L 0 = true → L 3 = false → Blk W gh.g0 3 #[] ∧ w.heap.size + 1 < gh.g0) ∧ (L 4 = true → L 7 = false → Blk W gh.g4 45 #[] ∧ w.heap.size + 1 < gh.g4) ∧ (L 3 = true → Own W w.heap.size 3 1 gh.A1 n gh.c1 (t.places.map (Value.int .i64)) ∧ Above (w.heap.size + 1) gh.A1) ∧ (L 7 = true → Own W w.heap.size 45 5 gh.A2 m gh.c2 (t.links.flatMap Link.vals) ∧ Above (w.heap.size + 1) gh.A2) ∧ (L 3 = true → L 7 = true → Apart gh.A1 gh.A2) ∧ (L 3 = true → L 4 = true → L 7 = false → ∀ a, gh.A1 = some a → a.block ≠ gh.g4) ∧ (L 0 = true → L 7 = true → L 3 = false → ∀ a, gh.A2 = some a → a.block ≠ gh.g0) ∧ (L 0 = true → L 4 = true → L 3 = false → L 7 = false → gh.g0 ≠ gh.g4) ∧ (L 0 = true → s 3 = .slice (some ⟨gh.g0, 0, none⟩) 0 0) ∧ (L 1 = true → s 4 = .pointer (some ⟨w.heap.size, 0, none⟩)) ∧ (L 2 = true → s 5 = .slice A n c) ∧ (L 3 = true → s 6 = .slice gh.A1 n gh.c1) ∧ (L 4 = true → s 7 = .slice (some ⟨gh.g4, 0, none⟩) 0 0) ∧ (L 5 = true → s 8 = .pointer (some ⟨w.heap.size, 1, none⟩)) ∧ (L 6 = true → s 9 = .slice A' m d) ∧ (L 7 = true → s 10 = .slice gh.A2 m gh.c2) ∧ (L 8 = true → s 11 = .agg #[.slice gh.A1 n gh.c1, .slice gh.A2 m gh.c2]) from ⟨g1, g2, gZ, gR, gE, gF, g3, g7, d37, d34, d07, d04, f0, f1, f2, f3, f4, f5, f6, f7, f8⟩)
      clear f8 f7 f6 f5 f4 f3 f2 f1 f0 d04 d07 d34 d37 g7 g3 gF gE gR gZ g2 g1 hd
      try simp only at e1 ⊢
      go_wp2_with fail
      obtain ⟨g1, g2, gZ, gR, gE, gF, g3, g7, d37, d34, d07, d04, f0, f1, f2, f3, f4, f5, f6, f7, f8⟩ := HF.out
      exact hK (gh, (upd (upd s 4 (.pointer (some ⟨w.heap.size, 0, none⟩))) 5 (.slice A n c))) _ ⟨g1, g2, gZ, gR, gE, gF, g3, g7, d37, d34, d07, d04, f0, (fun _ => rfl), (fun _ => rfl), f3, f4, f5, f6, f7, f8⟩
    · rintro L ⟨gh, s⟩ W hu hd hdn ⟨g1, g2, gZ, gR, gE, gF, g3, g7, d37, d34, d07, d04, f0, f1, f2, f3, f4, f5, f6, f7, f8⟩ K Q hK
      try dsimp only at g1 g2 gZ gR gE gF g3 g7 d37 d34 d07 d04 f0 f1 f2 f3 f4 f5 f6 f7 f8 ⊢
      have e0 := f0 (hd.at_ 0 rfl)
      have e2 := f2 (hd.at_ 2 rfl)
      have h9 : L 9 = false := by
        cases hc : L 9 with
        | false => rfl
        | true => exact hdn.no 9 3 hc rfl hu
      have HE := Lib.hid (gE (hd.at_ 0 rfl) hu)
      have HI := Lib.hid ((HT.out.places.below g1).more g1.size)
      have HO : Hid (Own W w.heap.size 3 1 (some ⟨gh.g0, 0, none⟩) 0 0 []) := Own.mk_ (by have := HE.out.2; omega) HE.out.1 (Nat.le_refl _) (Nat.zero_le _) rfl rfl (fun k hk => by omega)
      have HG1 := Lib.hid g1
      have h0 : L 0 = true := hd.at_ 0 rfl
      have hW := (gZ h9).lt
      have HF := Lib.hid (show (Below w.heap.size w W) ∧ (Blk W w.heap.size 25 #[.slice A n c, .slice A' m d]) ∧ (L 9 = false → Blk W (w.heap.size + 1) 25 #[.slice none 0 0, .slice none 0 0]) ∧ (L 9 = true → Blk W (w.heap.size + 1) 25 #[.slice gh.A1 n gh.c1, .slice gh.A2 m gh.c2]) ∧ (L 0 = true → L 3 = false → Blk W gh.g0 3 #[] ∧ w.heap.size + 1 < gh.g0) ∧ (L 4 = true → L 7 = false → Blk W gh.g4 45 #[] ∧ w.heap.size + 1 < gh.g4) ∧ (L 3 = true → Own W w.heap.size 3 1 gh.A1 n gh.c1 (t.places.map (Value.int .i64)) ∧ Above (w.heap.size + 1) gh.A1) ∧ (L 7 = true → Own W w.heap.size 45 5 gh.A2 m gh.c2 (t.links.flatMap Link.vals) ∧ Above (w.heap.size + 1) gh.A2) ∧ (L 3 = true → L 7 = true → Apart gh.A1 gh.A2) ∧ (L 3 = true → L 4 = true → L 7 = false → ∀ a, gh.A1 = some a → a.block ≠ gh.g4) ∧ (L 0 = true → L 7 = true → L 3 = false → ∀ a, gh.A2 = some a → a.block ≠ gh.g0) ∧ (L 0 = true → L 4 = true → L 3 = false → L 7 = false → gh.g0 ≠ gh.g4) ∧ (L 0 = true → s 3 = .slice (some ⟨gh.g0, 0, none⟩) 0 0) ∧ (L 1 = true → s 4 = .pointer (some ⟨w.heap.size, 0, none⟩)) ∧ (L 2 = true → s 5 = .slice A n c) ∧ (L 3 = true → s 6 = .slice gh.A1 n gh.c1) ∧ (L 4 = true → s 7 = .slice (some ⟨gh.g4, 0, none⟩) 0 0) ∧ (L 5 = true → s 8 = .pointer (some ⟨w.heap.size, 1, none⟩)) ∧ (L 6 = true → s 9 = .slice A' m d) ∧ (L 7 = true → s 10 = .slice gh.A2 m gh.c2) ∧ (L 8 = true → s 11 = .agg #[.slice gh.A1 n gh.c1, .slice gh.A2 m gh.c2]) from ⟨g1, g2, gZ, gR, gE, gF, g3, g7, d37, d34, d07, d04, f0, f1, f2, f3, f4, f5, f6, f7, f8⟩)
      clear f8 f7 f6 f5 f4 f3 f2 f1 f0 d04 d07 d34 d37 g7 g3 gF gE gR gZ g2 g1 hd
      try simp only at e0 e2 ⊢
      go_wp2_with (at_builtin; refine wpList_append_any _ rfl _ _ rfl elem_int e0 HO.out e2 HI.out (ints_one _) (by simpa using hn1) (by simpa using hn2) HG1.out.size ?_)
      rintro A1 c1 W1 hown hg hA
      have hg : W.grownBy W1 (some gh.g0) := hg
      go_wp2_with fail
      obtain ⟨g1, g2, gZ, gR, gE, gF, g3, g7, d37, d34, d07, d04, f0, f1, f2, f3, f4, f5, f6, f7, f8⟩ := HF.out
      have hg0 := HE.out.2
      have hA1 : Above (w.heap.size + 1) A1 := fun a ha => by
        rcases hA with h | h
        · rw [h] at ha; cases ha; exact hg0
        · rw [h] at ha; cases ha; exact hW
      exact hK ({ gh with A1 := A1, c1 := c1 }, (upd (upd (upd s 3 (.slice (some ⟨gh.g0, 0, none⟩) 0 0)) 5 (.slice A n c)) 6 (.slice A1 n c1))) _ ⟨(g1.grown hg g1.size (fun k hk => by cases hk; omega)), (g2.grown hg (by intro e; have := Option.some.inj e; omega)), (fun h => (gZ h).grown hg (by intro e; have := Option.some.inj e; omega)), (fun h => hdn.no 9 3 h rfl hu), (fun _ h => by cases h), (fun h h7 => ⟨(gF h h7).1.grown hg (by intro e; have := Option.some.inj e; exact d04 h0 h hu h7 this.symm), (gF h h7).2⟩), (fun _ => ⟨hown, hA1⟩), (fun h => ⟨(g7 h).1.grown hg (fun a ha => by intro e; exact d07 h0 h hu a ha (Option.some.inj e)), (g7 h).2⟩), (fun _ h7 => fun a b ha hb => by
            rcases hA with h | h
            · rw [h] at ha; cases ha; exact (d07 h0 h7 hu b hb).symm
            · rw [h] at ha; cases ha; exact fun e => by have := ((g7 h7).1.lt hb).2; simp at e; omega), (fun _ h4 h7 a ha => by
            rcases hA with h | h
            · rw [h] at ha; cases ha; exact d04 h0 h4 hu h7
            · rw [h] at ha; cases ha; exact fun e => by have := (gF h4 h7).1.lt; simp at e; omega), (fun _ _ h => by cases h), (fun _ _ h => by cases h), (fun _ => rfl), f1, (fun _ => rfl), (fun _ => rfl), f4, f5, f6, f7, (fun h => hdn.no 8 3 h rfl hu)⟩
    · rintro L ⟨gh, s⟩ W hu hd hdn ⟨g1, g2, gZ, gR, gE, gF, g3, g7, d37, d34, d07, d04, f0, f1, f2, f3, f4, f5, f6, f7, f8⟩ K Q hK
      try dsimp only at g1 g2 gZ gR gE gF g3 g7 d37 d34 d07 d04 f0 f1 f2 f3 f4 f5 f6 f7 f8 ⊢
      have h9 : L 9 = false := by
        cases hc : L 9 with
        | false => rfl
        | true => exact hdn.no 9 4 hc rfl hu
      have hW := (gZ h9).lt
      have HF := Lib.hid (show (Below w.heap.size w W) ∧ (Blk W w.heap.size 25 #[.slice A n c, .slice A' m d]) ∧ (L 9 = false → Blk W (w.heap.size + 1) 25 #[.slice none 0 0, .slice none 0 0]) ∧ (L 9 = true → Blk W (w.heap.size + 1) 25 #[.slice gh.A1 n gh.c1, .slice gh.A2 m gh.c2]) ∧ (L 0 = true → L 3 = false → Blk W gh.g0 3 #[] ∧ w.heap.size + 1 < gh.g0) ∧ (L 4 = true → L 7 = false → Blk W gh.g4 45 #[] ∧ w.heap.size + 1 < gh.g4) ∧ (L 3 = true → Own W w.heap.size 3 1 gh.A1 n gh.c1 (t.places.map (Value.int .i64)) ∧ Above (w.heap.size + 1) gh.A1) ∧ (L 7 = true → Own W w.heap.size 45 5 gh.A2 m gh.c2 (t.links.flatMap Link.vals) ∧ Above (w.heap.size + 1) gh.A2) ∧ (L 3 = true → L 7 = true → Apart gh.A1 gh.A2) ∧ (L 3 = true → L 4 = true → L 7 = false → ∀ a, gh.A1 = some a → a.block ≠ gh.g4) ∧ (L 0 = true → L 7 = true → L 3 = false → ∀ a, gh.A2 = some a → a.block ≠ gh.g0) ∧ (L 0 = true → L 4 = true → L 3 = false → L 7 = false → gh.g0 ≠ gh.g4) ∧ (L 0 = true → s 3 = .slice (some ⟨gh.g0, 0, none⟩) 0 0) ∧ (L 1 = true → s 4 = .pointer (some ⟨w.heap.size, 0, none⟩)) ∧ (L 2 = true → s 5 = .slice A n c) ∧ (L 3 = true → s 6 = .slice gh.A1 n gh.c1) ∧ (L 4 = true → s 7 = .slice (some ⟨gh.g4, 0, none⟩) 0 0) ∧ (L 5 = true → s 8 = .pointer (some ⟨w.heap.size, 1, none⟩)) ∧ (L 6 = true → s 9 = .slice A' m d) ∧ (L 7 = true → s 10 = .slice gh.A2 m gh.c2) ∧ (L 8 = true → s 11 = .agg #[.slice gh.A1 n gh.c1, .slice gh.A2 m gh.c2]) from ⟨g1, g2, gZ, gR, gE, gF, g3, g7, d37, d34, d07, d04, f0, f1, f2, f3, f4, f5, f6, f7, f8⟩)
      clear f8 f7 f6 f5 f4 f3 f2 f1 f0 d04 d07 d34 d37 g7 g3 gF gE gR gZ g2 g1 hd
      try simp only
      go_wp2_with fail
      obtain ⟨g1, g2, gZ, gR, gE, gF, g3, g7, d37, d34, d07, d04, f0, f1, f2, f3, f4, f5, f6, f7, f8⟩ := HF.out
      have hb : Below W.heap.size W (W.alloc (.cells #[] 45)) := (Below.refl _ _).alloc (Nat.le_refl _) _
      exact hK ({ gh with g4 := W.heap.size }, (upd s 7 (.slice (some ⟨W.heap.size, 0, none⟩) 0 0))) _ ⟨(g1.trans (hb.mono g1.size)), (g2.below hb g2.lt), (fun h => (gZ h).below hb (gZ h).lt), (fun h => (gR h).below hb (gR h).lt), (fun h h3 => ⟨(gE h h3).1.below hb (gE h h3).1.lt, (gE h h3).2⟩), (fun _ _ => ⟨Blk.new W _ _, hW⟩), (fun h => ⟨(g3 h).1.below hb (Nat.le_refl _), (g3 h).2⟩), (fun h => ⟨(g7 h).1.below hb (Nat.le_refl _), (g7 h).2⟩), d37, (fun h3 _ _ a ha => fun (e : a.block = W.heap.size) => by have := ((g3 h3).1.lt ha).2; omega), d07, (fun h0 _ h3 _ => fun (e : gh.g0 = W.heap.size) => by have := (gE h0 h3).1.lt; omega), f0, f1, f2, f3, (fun _ => rfl), f5, f6, f7, f8⟩
    · rintro L ⟨gh, s⟩ W hu hd hdn ⟨g1, g2, gZ, gR, gE, gF, g3, g7, d37, d34, d07, d04, f0, f1, f2, f3, f4, f5, f6, f7, f8⟩ K Q hK
      try dsimp only at g1 g2 gZ gR gE gF g3 g7 d37 d34 d07 d04 f0 f1 f2 f3 f4 f5 f6 f7 f8 ⊢
      have HF := Lib.hid (show (Below w.heap.size w W) ∧ (Blk W w.heap.size 25 #[.slice A n c, .slice A' m d]) ∧ (L 9 = false → Blk W (w.heap.size + 1) 25 #[.slice none 0 0, .slice none 0 0]) ∧ (L 9 = true → Blk W (w.heap.size + 1) 25 #[.slice gh.A1 n gh.c1, .slice gh.A2 m gh.c2]) ∧ (L 0 = true → L 3 = false → Blk W gh.g0 3 #[] ∧ w.heap.size + 1 < gh.g0) ∧ (L 4 = true → L 7 = false → Blk W gh.g4 45 #[] ∧ w.heap.size + 1 < gh.g4) ∧ (L 3 = true → Own W w.heap.size 3 1 gh.A1 n gh.c1 (t.places.map (Value.int .i64)) ∧ Above (w.heap.size + 1) gh.A1) ∧ (L 7 = true → Own W w.heap.size 45 5 gh.A2 m gh.c2 (t.links.flatMap Link.vals) ∧ Above (w.heap.size + 1) gh.A2) ∧ (L 3 = true → L 7 = true → Apart gh.A1 gh.A2) ∧ (L 3 = true → L 4 = true → L 7 = false → ∀ a, gh.A1 = some a → a.block ≠ gh.g4) ∧ (L 0 = true → L 7 = true → L 3 = false → ∀ a, gh.A2 = some a → a.block ≠ gh.g0) ∧ (L 0 = true → L 4 = true → L 3 = false → L 7 = false → gh.g0 ≠ gh.g4) ∧ (L 0 = true → s 3 = .slice (some ⟨gh.g0, 0, none⟩) 0 0) ∧ (L 1 = true → s 4 = .pointer (some ⟨w.heap.size, 0, none⟩)) ∧ (L 2 = true → s 5 = .slice A n c) ∧ (L 3 = true → s 6 = .slice gh.A1 n gh.c1) ∧ (L 4 = true → s 7 = .slice (some ⟨gh.g4, 0, none⟩) 0 0) ∧ (L 5 = true → s 8 = .pointer (some ⟨w.heap.size, 1, none⟩)) ∧ (L 6 = true → s 9 = .slice A' m d) ∧ (L 7 = true → s 10 = .slice gh.A2 m gh.c2) ∧ (L 8 = true → s 11 = .agg #[.slice gh.A1 n gh.c1, .slice gh.A2 m gh.c2]) from ⟨g1, g2, gZ, gR, gE, gF, g3, g7, d37, d34, d07, d04, f0, f1, f2, f3, f4, f5, f6, f7, f8⟩)
      clear f8 f7 f6 f5 f4 f3 f2 f1 f0 d04 d07 d34 d37 g7 g3 gF gE gR gZ g2 g1 hd
      try simp only
      go_wp2_with fail
      obtain ⟨g1, g2, gZ, gR, gE, gF, g3, g7, d37, d34, d07, d04, f0, f1, f2, f3, f4, f5, f6, f7, f8⟩ := HF.out
      exact hK (gh, (upd s 8 (.pointer (some ⟨w.heap.size, 1, none⟩)))) _ ⟨g1, g2, gZ, gR, gE, gF, g3, g7, d37, d34, d07, d04, f0, f1, f2, f3, f4, (fun _ => rfl), f6, f7, f8⟩
    · rintro L ⟨gh, s⟩ W hu hd hdn ⟨g1, g2, gZ, gR, gE, gF, g3, g7, d37, d34, d07, d04, f0, f1, f2, f3, f4, f5, f6, f7, f8⟩ K Q hK
      try dsimp only at g1 g2 gZ gR gE gF g3 g7 d37 d34 d07 d04 f0 f1 f2 f3 f4 f5 f6 f7 f8 ⊢
      have e5 := f5 (hd.at_ 5 rfl)
      have c0 : W.cell? ⟨w.heap.size, 1, none⟩ = some (.slice A' m d) := g2.cell 1
      have HF := Lib.hid (show (Below w.heap.size w W) ∧ (Blk W w.heap.size 25 #[.slice A n c, .slice A' m d]) ∧ (L 9 = false → Blk W (w.heap.size + 1) 25 #[.slice none 0 0, .slice none 0 0]) ∧ (L 9 = true → Blk W (w.heap.size + 1) 25 #[.slice gh.A1 n gh.c1, .slice gh.A2 m gh.c2]) ∧ (L 0 = true → L 3 = false → Blk W gh.g0 3 #[] ∧ w.heap.size + 1 < gh.g0) ∧ (L 4 = true → L 7 = false → Blk W gh.g4 45 #[] ∧ w.heap.size + 1 < gh.g4) ∧ (L 3 = true → Own W w.heap.size 3 1 gh.A1 n gh.c1 (t.places.map (Value.int .i64)) ∧ Above (w.heap.size + 1) gh.A1) ∧ (L 7 = true → Own W w.heap.size 45 5 gh.A2 m gh.c2 (t.links.flatMap Link.vals) ∧ Above (w.heap.size + 1) gh.A2) ∧ (L 3 = true → L 7 = true → Apart gh.A1 gh.A2) ∧ (L 3 = true → L 4 = true → L 7 = false → ∀ a, gh.A1 = some a → a.block ≠ gh.g4) ∧ (L 0 = true → L 7 = true → L 3 = false → ∀ a, gh.A2 = some a → a.block ≠ gh.g0) ∧ (L 0 = true → L 4 = true → L 3 = false → L 7 = false → gh.g0 ≠ gh.g4) ∧ (L 0 = true → s 3 = .slice (some ⟨gh.g0, 0, none⟩) 0 0) ∧ (L 1 = true → s 4 = .pointer (some ⟨w.heap.size, 0, none⟩)) ∧ (L 2 = true → s 5 = .slice A n c) ∧ (L 3 = true → s 6 = .slice gh.A1 n gh.c1) ∧ (L 4 = true → s 7 = .slice (some ⟨gh.g4, 0, none⟩) 0 0) ∧ (L 5 = true → s 8 = .pointer (some ⟨w.heap.size, 1, none⟩)) ∧ (L 6 = true → s 9 = .slice A' m d) ∧ (L 7 = true → s 10 = .slice gh.A2 m gh.c2) ∧ (L 8 = true → s 11 = .agg #[.slice gh.A1 n gh.c1, .slice gh.A2 m gh.c2]) from ⟨g1, g2, gZ, gR, gE, gF, g3, g7, d37, d34, d07, d04, f0, f1, f2, f3, f4, f5, f6, f7, f8⟩)
      clear f8 f7 f6 f5 f4 f3 f2 f1 f0 d04 d07 d34 d37 g7 g3 gF gE gR gZ g2 g1 hd
      try simp only at e5 ⊢
      go_wp2_with fail
      obtain ⟨g1, g2, gZ, gR, gE, gF, g3, g7, d37, d34, d07, d04, f0, f1, f2, f3, f4, f5, f6, f7, f8⟩ := HF.out
      exact hK (gh, (upd (upd s 8 (.pointer (some ⟨w.heap.size, 1, none⟩))) 9 (.slice A' m d))) _ ⟨g1, g2, gZ, gR, gE, gF, g3, g7, d37, d34, d07, d04, f0, f1, f2, f3, f4, (fun _ => rfl), (fun _ => rfl), f7, f8⟩
    · rintro L ⟨gh, s⟩ W hu hd hdn ⟨g1, g2, gZ, gR, gE, gF, g3, g7, d37, d34, d07, d04, f0, f1, f2, f3, f4, f5, f6, f7, f8⟩ K Q hK
      try dsimp only at g1 g2 gZ gR gE gF g3 g7 d37 d34 d07 d04 f0 f1 f2 f3 f4 f5 f6 f7 f8 ⊢
      have e4 := f4 (hd.at_ 4 rfl)
      have e6 := f6 (hd.at_ 6 rfl)
      have h9 : L 9 = false := by
        cases hc : L 9 with
        | false => rfl
        | true => exact hdn.no 9 7 hc rfl hu
      have HE := Lib.hid (gF (hd.at_ 4 rfl) hu)
      have HI := Lib.hid ((HT.out.links.below g1).more g1.size)
      have HO : Hid (Own W w.heap.size 45 5 (some ⟨gh.g4, 0, none⟩) 0 0 []) := Own.mk_ (by have := HE.out.2; omega) HE.out.1 (Nat.le_refl _) (Nat.zero_le _) rfl rfl (fun k hk => by omega)
      have HG1 := Lib.hid g1
      have h4 : L 4 = true := hd.at_ 4 rfl
      have hW := (gZ h9).lt
      have HF := Lib.hid (show (Below w.heap.size w W) ∧ (Blk W w.heap.size 25 #[.slice A n c, .slice A' m d]) ∧ (L 9 = false → Blk W (w.heap.size + 1) 25 #[.slice none 0 0, .slice none 0 0]) ∧ (L 9 = true → Blk W (w.heap.size + 1) 25 #[.slice gh.A1 n gh.c1, .slice gh.A2 m gh.c2]) ∧ (L 0 = true → L 3 = false → Blk W gh.g0 3 #[] ∧ w.heap.size + 1 < gh.g0) ∧ (L 4 = true → L 7 = false → Blk W gh.g4 45 #[] ∧ w.heap.size + 1 < gh.g4) ∧ (L 3 = true → Own W w.heap.size 3 1 gh.A1 n gh.c1 (t.places.map (Value.int .i64)) ∧ Above (w.heap.size + 1) gh.A1) ∧ (L 7 = true → Own W w.heap.size 45 5 gh.A2 m gh.c2 (t.links.flatMap Link.vals) ∧ Above (w.heap.size + 1) gh.A2) ∧ (L 3 = true → L 7 = true → Apart gh.A1 gh.A2) ∧ (L 3 = true → L 4 = true → L 7 = false → ∀ a, gh.A1 = some a → a.block ≠ gh.g4) ∧ (L 0 = true → L 7 = true → L 3 = false → ∀ a, gh.A2 = some a → a.block ≠ gh.g0) ∧ (L 0 = true → L 4 = true → L 3 = false → L 7 = false → gh.g0 ≠ gh.g4) ∧ (L 0 = true → s 3 = .slice (some ⟨gh.g0, 0, none⟩) 0 0) ∧ (L 1 = true → s 4 = .pointer (some ⟨w.heap.size, 0, none⟩)) ∧ (L 2 = true → s 5 = .slice A n c) ∧ (L 3 = true → s 6 = .slice gh.A1 n gh.c1) ∧ (L 4 = true → s 7 = .slice (some ⟨gh.g4, 0, none⟩) 0 0) ∧ (L 5 = true → s 8 = .pointer (some ⟨w.heap.size, 1, none⟩)) ∧ (L 6 = true → s 9 = .slice A' m d) ∧ (L 7 = true → s 10 = .slice gh.A2 m gh.c2) ∧ (L 8 = true → s 11 = .agg #[.slice gh.A1 n gh.c1, .slice gh.A2 m gh.c2]) from ⟨g1, g2, gZ, gR, gE, gF, g3, g7, d37, d34, d07, d04, f0, f1, f2, f3, f4, f5, f6, f7, f8⟩)
      clear f8 f7 f6 f5 f4 f3 f2 f1 f0 d04 d07 d34 d37 g7 g3 gF gE gR gZ g2 g1 hd
      try simp only at e4 e6 ⊢
      go_wp2_with (at_builtin; refine wpList_append_any _ rfl _ _ rfl elem_link e4 HO.out e6 HI.out (links_one _) (by simpa using hm1) (by simpa using hm2) HG1.out.size ?_)
      rintro A2 c2 W1 hown hg hA
      have hg : W.grownBy W1 (some gh.g4) := hg
      go_wp2_with fail
      obtain ⟨g1, g2, gZ, gR, gE, gF, g3, g7, d37, d34, d07, d04, f0, f1, f2, f3, f4, f5, f6, f7, f8⟩ := HF.out
      have hg0 := HE.out.2
      have hA2 : Above (w.heap.size + 1) A2 := fun a ha => by
        rcases hA with h | h
        · rw [h] at ha; cases ha; exact hg0
        · rw [h] at ha; cases ha; exact hW
      exact hK ({ gh with A2 := A2, c2 := c2 }, (upd (upd (upd s 7 (.slice (some ⟨gh.g4, 0, none⟩) 0 0)) 9 (.slice A' m d)) 10 (.slice A2 m c2))) _ ⟨(g1.grown hg g1.size (fun k hk => by cases hk; omega)), (g2.grown hg (by intro e; have := Option.some.inj e; omega)), (fun h => (gZ h).grown hg (by intro e; have := Option.some.inj e; omega)), (fun h => hdn.no 9 7 h rfl hu), (fun h h3 => ⟨(gE h h3).1.grown hg (by intro e; have := Option.some.inj e; exact d04 h h4 h3 hu this), (gE h h3).2⟩), (fun _ h => by cases h), (fun h => ⟨(g3 h).1.grown hg (fun a ha => by intro e; exact d34 h h4 hu a ha (Option.some.inj e)), (g3 h).2⟩), (fun _ => ⟨hown, hA2⟩), (fun h3 _ => fun a b ha hb => by
            rcases hA with h | h
            · rw [h] at hb; cases hb; exact d34 h3 h4 hu a ha
            · rw [h] at hb; cases hb; exact fun e => by have := ((g3 h3).1.lt ha).2; simp at e; omega), (fun _ _ h => by cases h), (fun h0 _ h3 a ha => by
            rcases hA with h | h
            · rw [h] at ha; cases ha; exact (d04 h0 h4 h3 hu).symm
            · rw [h] at ha; cases ha; exact fun e => by have := (gE h0 h3).1.lt; simp at e; omega), (fun _ _ _ h => by cases h), f0, f1, f2, f3, (fun _ => rfl), f5, (fun _ => rfl), (fun _ => rfl), (fun h => hdn.no 8 7 h rfl hu)⟩
    · rintro L ⟨gh, s⟩ W hu hd hdn ⟨g1, g2, gZ, gR, gE, gF, g3, g7, d37, d34, d07, d04, f0, f1, f2, f3, f4, f5, f6, f7, f8⟩ K Q hK
      try dsimp only at g1 g2 gZ gR gE gF g3 g7 d37 d34 d07 d04 f0 f1 f2 f3 f4 f5 f6 f7 f8 ⊢
      have e3 := f3 (hd.at_ 3 rfl)
      have e7 := f7 (hd.at_ 7 rfl)
      have HF := Lib.hid (show (Below w.heap.size w W) ∧ (Blk W w.heap.size 25 #[.slice A n c, .slice A' m d]) ∧ (L 9 = false → Blk W (w.heap.size + 1) 25 #[.slice none 0 0, .slice none 0 0]) ∧ (L 9 = true → Blk W (w.heap.size + 1) 25 #[.slice gh.A1 n gh.c1, .slice gh.A2 m gh.c2]) ∧ (L 0 = true → L 3 = false → Blk W gh.g0 3 #[] ∧ w.heap.size + 1 < gh.g0) ∧ (L 4 = true → L 7 = false → Blk W gh.g4 45 #[] ∧ w.heap.size + 1 < gh.g4) ∧ (L 3 = true → Own W w.heap.size 3 1 gh.A1 n gh.c1 (t.places.map (Value.int .i64)) ∧ Above (w.heap.size + 1) gh.A1) ∧ (L 7 = true → Own W w.heap.size 45 5 gh.A2 m gh.c2 (t.links.flatMap Link.vals) ∧ Above (w.heap.size + 1) gh.A2) ∧ (L 3 = true → L 7 = true → Apart gh.A1 gh.A2) ∧ (L 3 = true → L 4 = true → L 7 = false → ∀ a, gh.A1 = some a → a.block ≠ gh.g4) ∧ (L 0 = true → L 7 = true → L 3 = false → ∀ a, gh.A2 = some a → a.block ≠ gh.g0) ∧ (L 0 = true → L 4 = true → L 3 = false → L 7 = false → gh.g0 ≠ gh.g4) ∧ (L 0 = true → s 3 = .slice (some ⟨gh.g0, 0, none⟩) 0 0) ∧ (L 1 = true → s 4 = .pointer (some ⟨w.heap.size, 0, none⟩)) ∧ (L 2 = true → s 5 = .slice A n c) ∧ (L 3 = true → s 6 = .slice gh.A1 n gh.c1) ∧ (L 4 = true → s 7 = .slice (some ⟨gh.g4, 0, none⟩) 0 0) ∧ (L 5 = true → s 8 = .pointer (some ⟨w.heap.size, 1, none⟩)) ∧ (L 6 = true → s 9 = .slice A' m d) ∧ (L 7 = true → s 10 = .slice gh.A2 m gh.c2) ∧ (L 8 = true → s 11 = .agg #[.slice gh.A1 n gh.c1, .slice gh.A2 m gh.c2]) from ⟨g1, g2, gZ, gR, gE, gF, g3, g7, d37, d34, d07, d04, f0, f1, f2, f3, f4, f5, f6, f7, f8⟩)
      clear f8 f7 f6 f5 f4 f3 f2 f1 f0 d04 d07 d34 d37 g7 g3 gF gE gR gZ g2 g1 hd
      try simp only at e3 e7 ⊢
      go_wp2_with fail
      obtain ⟨g1, g2, gZ, gR, gE, gF, g3, g7, d37, d34, d07, d04, f0, f1, f2, f3, f4, f5, f6, f7, f8⟩ := HF.out
      exact hK (gh, (upd (upd (upd s 6 (.slice gh.A1 n gh.c1)) 10 (.slice gh.A2 m gh.c2)) 11 (.agg #[.slice gh.A1 n gh.c1, .slice gh.A2 m gh.c2]))) _ ⟨g1, g2, gZ, gR, gE, gF, g3, g7, d37, d34, d07, d04, f0, f1, f2, (fun _ => rfl), f4, f5, f6, (fun _ => rfl), (fun _ => rfl)⟩
    · rintro L ⟨gh, s⟩ W hu hd hdn ⟨g1, g2, gZ, gR, gE, gF, g3, g7, d37, d34, d07, d04, f0, f1, f2, f3, f4, f5, f6, f7, f8⟩ K Q hK
      try dsimp only at g1 g2 gZ gR gE gF g3 g7 d37 d34 d07 d04 f0 f1 f2 f3 f4 f5 f6 f7 f8 ⊢
      have e8 := f8 (hd.at_ 8 rfl)
      have G2 := gZ hu
      have c0 : W.cell? ⟨w.heap.size + 1, 0, none⟩ = some (.slice none 0 0) := G2.cell 0
      have c1 : W.cell? ⟨w.heap.size + 1, 1, none⟩ = some (.slice none 0 0) := G2.cell 1
      have y0 : W.frozen? ⟨w.heap.size + 1, 0, none⟩ = false := G2.frozen 0
      have y1 : W.frozen? ⟨w.heap.size + 1, 1, none⟩ = false := G2.frozen 1
      have HG2 := Lib.hid G2
      clear G2
      have HF := Lib.hid (show (Below w.heap.size w W) ∧ (Blk W w.heap.size 25 #[.slice A n c, .slice A' m d]) ∧ (L 9 = false → Blk W (w.heap.size + 1) 25 #[.slice none 0 0, .slice none 0 0]) ∧ (L 9 = true → Blk W (w.heap.size + 1) 25 #[.slice gh.A1 n gh.c1, .slice gh.A2 m gh.c2]) ∧ (L 0 = true → L 3 = false → Blk W gh.g0 3 #[] ∧ w.heap.size + 1 < gh.g0) ∧ (L 4 = true → L 7 = false → Blk W gh.g4 45 #[] ∧ w.heap.size + 1 < gh.g4) ∧ (L 3 = true → Own W w.heap.size 3 1 gh.A1 n gh.c1 (t.places.map (Value.int .i64)) ∧ Above (w.heap.size + 1) gh.A1) ∧ (L 7 = true → Own W w.heap.size 45 5 gh.A2 m gh.c2 (t.links.flatMap Link.vals) ∧ Above (w.heap.size + 1) gh.A2) ∧ (L 3 = true → L 7 = true → Apart gh.A1 gh.A2) ∧ (L 3 = true → L 4 = true → L 7 = false → ∀ a, gh.A1 = some a → a.block ≠ gh.g4) ∧ (L 0 = true → L 7 = true → L 3 = false → ∀ a, gh.A2 = some a → a.block ≠ gh.g0) ∧ (L 0 = true → L 4 = true → L 3 = false → L 7 = false → gh.g0 ≠ gh.g4) ∧ (L 0 = true → s 3 = .slice (some ⟨gh.g0, 0, none⟩) 0 0) ∧ (L 1 = true → s 4 = .pointer (some ⟨w.heap.size, 0, none⟩)) ∧ (L 2 = true → s 5 = .slice A n c) ∧ (L 3 = true → s 6 = .slice gh.A1 n gh.c1) ∧ (L 4 = true → s 7 = .slice (some ⟨gh.g4, 0, none⟩) 0 0) ∧ (L 5 = true → s 8 = .pointer (some ⟨w.heap.size, 1, none⟩)) ∧ (L 6 = true → s 9 = .slice A' m d) ∧ (L 7 = true → s 10 = .slice gh.A2 m gh.c2) ∧ (L 8 = true → s 11 = .agg #[.slice gh.A1 n gh.c1, .slice gh.A2 m gh.c2]) from ⟨g1, g2, gZ, gR, gE, gF, g3, g7, d37, d34, d07, d04, f0, f1, f2, f3, f4, f5, f6, f7, f8⟩)
      clear f8 f7 f6 f5 f4 f3 f2 f1 f0 d04 d07 d34 d37 g7 g3 gF gE gR gZ g2 g1 hd
      try simp only at e8 ⊢
      go_wp2_with fail
      obtain ⟨g1, g2, gZ, gR, gE, gF, g3, g7, d37, d34, d07, d04, f0, f1, f2, f3, f4, f5, f6, f7, f8⟩ := HF.out
      have hg : W.grownBy ((W.setCell ⟨w.heap.size + 1, 0, none⟩ (.slice gh.A1 n gh.c1)).setCell ⟨w.heap.size + 1, 1, none⟩ (.slice gh.A2 m gh.c2)) (some (w.heap.size + 1)) := grown_setCell (grown_setCell (grown_refl _ _) (p := ⟨w.heap.size + 1, 0, none⟩) (.inl rfl) _) (p := ⟨w.heap.size + 1, 1, none⟩) (.inl rfl) _
      exact hK (gh, (upd s 11 (.agg #[.slice gh.A1 n gh.c1, .slice gh.A2 m gh.c2]))) _ ⟨(g1.grown hg g1.size (fun k hk => by cases hk; omega)), (g2.grown hg (by intro e; have := Option.some.inj e; omega)), (fun h => by cases h), (fun _ => (HG2.out.set_ 0 (.slice gh.A1 n gh.c1)).set_ 1 (.slice gh.A2 m gh.c2)), (fun h h3 => ⟨(gE h h3).1.grown hg (by have := (gE h h3).2; intro e; have := Option.some.inj e; omega), (gE h h3).2⟩), (fun h h3 => ⟨(gF h h3).1.grown hg (by have := (gF h h3).2; intro e; have := Option.some.inj e; omega), (gF h h3).2⟩), (fun h => ⟨(g3 h).1.grown hg (fun a ha => by have := (g3 h).2 a ha; intro e; have := Option.some.inj e; omega), (g3 h).2⟩), (fun h => ⟨(g7 h).1.grown hg (fun a ha => by have := (g7 h).2 a ha; intro e; have := Option.some.inj e; omega), (g7 h).2⟩), d37, d34, d07, d04, f0, f1, f2, f3, f4, f5, f6, f7, (fun _ => rfl)⟩
  · rintro L ⟨gh, s⟩ W hall ⟨g1, g2, gZ, gR, gE, gF, g3, g7, d37, d34, d07, d04, f0, f1, f2, f3, f4, f5, f6, f7, f8⟩
    have G := gR (hall 9 (by decide))
    have G3 := g3 (hall 3 (by decide))
    have G7 := g7 (hall 7 (by decide))
    have DD := Lib.hid (d37 (hall 3 (by decide)) (hall 7 (by decide)))
    have z0 := G.cell 0
    have z1 := G.cell 1
    have HG3 := Lib.hid G3
    have HG7 := Lib.hid G7
    have HG1 := Lib.hid g1
    clear hall g1 g2 gZ gR gE gF g3 g7 d37 d34 d07 d04 f0 f1 f2 f3 f4 f5 f6 f7 f8 G G3 G7
    simp only
    go_wp2_with fail
    refine bodyPost_ret (v := .agg #[.slice gh.A1 n gh.c1, .slice gh.A2 m gh.c2]) (by simp [results, Tryd.results10, go_sem, z0, z1]) rfl ?_
    refine ⟨gh.A1, gh.c1, gh.A2, gh.c2, ?_, ?_, ?_, DD.out, HG1.out⟩
    · rw [HLn.out, HLm.out]
    · rw [HLn.out]; exact HG3.out.1
    · rw [HLm.out]; exact HG7.out.1

end Go.Proofs.YtahkjagjcogeiaaDoor
