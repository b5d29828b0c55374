/- climb.Open. -/
import Derived.Test.YtahkjagjcogeiaaDoorClClose
import Derived.Test.YtahkjagjcogeiaaDoorRegionW
namespace Go.Proofs.YtahkjagjcogeiaaDoor
open Go.RowKit
set_option linter.unusedVariables false

/-- Where things lie while Open works. -/
structure OpenGh where
  AP : Option Addr
  cP : Nat
  AK : Option Addr
  cK : Nat
  AI : Option Addr
  cI : Nat
  g : Nat

def Above (B : Nat) (A : Option Addr) : Prop := ∀ a, A = some a → B < a.block
theorem above_ne {B : Nat} {A : Option Addr} (h : Above B A) {k : Nat} (hk : k ≤ B) : some k ≠ A.map (·.block) := by
  cases A with
  | none => simp
  | some a => have := h a rfl; simp; omega
theorem above_row {B : Nat} {A : Option Addr} (h : Above B A) {k : Nat} (hk : A.map (·.block) = some k) : B < k := by
  cases A with
  | none => cases hk
  | some a => have := h a rfl; simp at hk; omega
theorem row_ne {A C : Option Addr} (h : Apart A C) {a : Addr} (ha : A = some a) : some a.block ≠ C.map (·.block) := by
  cases C with
  | none => simp
  | some c => have := h a c ha rfl; simpa using this

def openT (t : Town) (x : Link) : Town := ⟨t.places, t.links.take (lowB t.links x.id) ++ x :: t.links.drop (lowB t.links x.id)⟩
def openR (t : Town) (x : Link) : Town := if townB t && townB (openT t x) then openT t x else noTown
def openE (t : Town) (x : Link) : Int := if townB t then (if townB (openT t x) then 0 else 34) else 30

theorem linksB_pw {t : Town} : ∀ {l : List Link} {last : Int}, linksB t last l = true → (∀ x ∈ l, last < x.id) ∧ l.Pairwise fun x y => x.id < y.id
  | [], _, _ => ⟨by simp, List.Pairwise.nil⟩
  | x :: l, last, h => by
    simp only [linksB, Bool.and_eq_true] at h
    obtain ⟨h1, h2⟩ := linksB_pw h.2
    have h3 : last < x.id := by
      have := h.1
      unfold linkB at this
      simp only [Bool.and_eq_true] at this
      have := inB_iff.1 this.1.1.1.1
      omega
    refine ⟨fun y hy => ?_, List.Pairwise.cons h1 h2⟩
    rcases List.mem_cons.1 hy with rfl | hy
    · exact h3
    · have := h1 y hy; omega
theorem townB_links {t : Town} (h : townB t = true) : t.links.Pairwise fun x y => x.id < y.id := by
  unfold townB at h
  simp only [Bool.and_eq_true] at h
  exact (linksB_pw h.2).2
theorem townB_size {t : Town} (h : townB t = true) : t.places.length ≤ 9 ∧ t.links.length ≤ 20 := by
  unfold townB sizeB at h
  simp only [Bool.and_eq_true, decide_eq_true_eq] at h
  have := inB_iff.1 h.1.1.1
  exact ⟨by omega, h.1.1.2⟩

set_option maxRecDepth 100000 in
set_option maxHeartbeats 8000000 in
theorem open_any (A : Option Addr) (n c : Nat) (A' : Option Addr) (m d : Nat) (t : Town) (x : Link) (w : World) (hn : n ≤ 1000) (hm : m ≤ 1000) (ht : TownAt w w.heap.size A n A' m t) (hL : Laid w) :
    Calls Tryd.prog 19 #[.agg #[.slice A n c, .slice A' m d], .agg #[.int .i64 x.id, .int .i64 x.fr, .int .i64 x.to, .int .i64 x.steps, .int .i64 x.paces]] w fun e w' => TownErr w e w' (openR t x) (openE t x) := by
  have HT := Lib.hid ht
  have HL := Lib.hid hL
  have hl0 := hL.2.2.2
  have hn1 : n ≤ maxLen := by unfold maxLen; omega
  have hm1 : m ≤ maxLen := by unfold maxLen; omega
  have hn2 : n * 8 ≤ 140737488355328 := by omega
  have hm2 : m * 40 ≤ 140737488355328 := by omega
  clear ht hL
  go_enter Tryd.func19, Tryd.ntmps19
  go_wp2_with fail
  have X0 := ((Blk.new w 25 #[.slice A n c, .slice A' m d]).alloc (.cells #[.int .i64 x.id, .int .i64 x.fr, .int .i64 x.to, .int .i64 x.steps, .int .i64 x.paces] 45)).alloc (.cells #[.slice none 0 0, .slice none 0 0] 25)
  have Y0 := (Blk.new (w.alloc (.cells #[.slice A n c, .slice A' m d] 25)) 45 #[.int .i64 x.id, .int .i64 x.fr, .int .i64 x.to, .int .i64 x.steps, .int .i64 x.paces]).alloc (.cells #[.slice none 0 0, .slice none 0 0] 25)
  have Z0 := Blk.new ((w.alloc (.cells #[.slice A n c, .slice A' m d] 25)).alloc (.cells #[.int .i64 x.id, .int .i64 x.fr, .int .i64 x.to, .int .i64 x.steps, .int .i64 x.paces] 45)) 25 #[.slice none 0 0, .slice none 0 0]
  have B0 : Below w.heap.size w (((w.alloc (.cells #[.slice A n c, .slice A' m d] 25)).alloc (.cells #[.int .i64 x.id, .int .i64 x.fr, .int .i64 x.to, .int .i64 x.steps, .int .i64 x.paces] 45)).alloc (.cells #[.slice none 0 0, .slice none 0 0] 25)) := (((Below.refl _ _).alloc (Nat.le_refl _) _).alloc (by simp) _).alloc (by simp; omega) _
  rw [World.size_alloc] at Y0
  rw [World.size_alloc, World.size_alloc] at Z0
  generalize (((w.alloc (.cells #[.slice A n c, .slice A' m d] 25)).alloc (.cells #[.int .i64 x.id, .int .i64 x.fr, .int .i64 x.to, .int .i64 x.steps, .int .i64 x.paces] 45)).alloc (.cells #[.slice none 0 0, .slice none 0 0] 25)) = w0 at *
  with_reducible refine (check_any A n c A' m d t w0 hn1 hm1 ((HT.out.below B0).more B0.size) (HL.out.below B0 hl0)).mono ?_
  rintro e w1 ⟨rfl, hb1⟩
  replace X0 := X0.below hb1 X0.lt
  replace Y0 := Y0.below hb1 Y0.lt
  replace Z0 := Z0.below hb1 Z0.lt
  replace B0 := B0.trans (hb1.mono B0.size)
  have x0 := X0.cell 0
  have x1 := X0.cell 1
  have y0 := Y0.cell 0
  have z0 := Z0.cell 0
  have z1 := Z0.cell 1
  have q0 := Z0.frozen 0
  have q1 := Z0.frozen 1
  clear hb1
  cases htb : townB t with
  | false =>
    have hc : chk t = 30 := by unfold chk; rw [htb]; rfl
    have HC := Lib.hid htb
    clear htb
    go_wp2_with fail
    have e1 : openR t x = noTown := by unfold openR; rw [HC.out]; rfl
    have e2 : openE t x = 30 := by unfold openE; rw [HC.out]; rfl
    rw [e1, e2]
    exact bodyPost_ret (v := .tuple #[.agg #[.slice none 0 0, .slice none 0 0], .int .i64 30]) (by simp [results, Tryd.results19, go_sem, z0, z1]) rfl (TownErr.none_ ((B0.setCell (p := ⟨w.heap.size + 1 + 1, 0, none⟩) (by show w.heap.size ≤ w.heap.size + 1 + 1; omega) _).setCell (p := ⟨w.heap.size + 1 + 1, 1, none⟩) (by show w.heap.size ≤ w.heap.size + 1 + 1; omega) _))
  | true =>
    have hc : chk t = 0 := by unfold chk; rw [htb]; rfl
    have hsz := townB_size htb
    have hl1 := HT.out.links.len
    have hm3 : m ≤ 100 := by omega
    have hlow : lowB t.links x.id ≤ m := by rw [← hl1]; exact lowB_le _ _
    have HS := Lib.hid (townB_links htb)
    have HC := Lib.hid htb
    have Hl1 := Lib.hid hl1
    clear htb z0 z1 q0 q1 hsz hl1
    go_wp2_with fail
    with_reducible refine (search_link A' m d t.links x.id w1 ((HT.out.links.below B0).more B0.size) hm HS.out).mono ?_
    rintro e w2 ⟨⟨fb, rfl⟩, hb2⟩
    replace X0 := X0.below hb2 X0.lt
    replace Y0 := Y0.below hb2 Y0.lt
    replace Z0 := Z0.below hb2 Z0.lt
    replace B0 := B0.trans (hb2.mono B0.size)
    clear x0 x1 y0 hb2
    go_wp2_with fail
    refine wp_region_steps (by kernel_rfl) (by kernel_rfl) (fun σ : OpenGh × (Nat → Value) => { tmps := #[.agg #[.slice A n c, .slice A' m d], .agg #[.int .i64 x.id, .int .i64 x.fr, .int .i64 x.to, .int .i64 x.steps, .int .i64 x.paces], .pointer (some ⟨w.heap.size, 0, none⟩), .pointer (some ⟨w.heap.size + 1, 0, none⟩), .pointer (some ⟨w.heap.size + 1 + 1, 0, none⟩), .int .i64 0, .int .i64 0, .int .i64 (lowB t.links x.id), .bool fb, .agg #[.slice A n c, .slice A' m d], .int .i64 0, .int .i64 0, .bool false, undef, undef, .tuple #[.int .i64 (lowB t.links x.id), .bool fb], .pointer (some ⟨w.heap.size, 1, none⟩), .slice A' m d, .pointer (some ⟨w.heap.size + 1, 0, none⟩), .int .i64 x.id, .tuple #[.int .i64 (lowB t.links x.id), .bool fb], .int .i64 (lowB t.links x.id), .bool fb, σ.2 23, σ.2 24, σ.2 25, σ.2 26, σ.2 27, σ.2 28, σ.2 29, σ.2 30, σ.2 31, σ.2 32, σ.2 33, undef, undef, undef, undef, undef], defers := [] })
      (fun L σ W => (Below w.heap.size w W) ∧ (L 11 = false → Blk W w.heap.size 25 #[.slice A n c, .slice A' m d]) ∧ (L 11 = true → Blk W w.heap.size 25 #[.slice σ.1.AP n σ.1.cP, .slice σ.1.AI (m + 1) σ.1.cI]) ∧ (Blk W (w.heap.size + 1) 45 #[.int .i64 x.id, .int .i64 x.fr, .int .i64 x.to, .int .i64 x.steps, .int .i64 x.paces]) ∧ (Blk W (w.heap.size + 1 + 1) 25 #[.slice none 0 0, .slice none 0 0]) ∧ (L 2 = true → Own W w.heap.size 3 1 σ.1.AP n σ.1.cP (t.places.map (Value.int .i64)) ∧ Above (w.heap.size + 2) σ.1.AP) ∧ (L 5 = true → L 9 = false → Own W w.heap.size 45 5 σ.1.AK m σ.1.cK (t.links.flatMap Link.vals) ∧ Above (w.heap.size + 2) σ.1.AK) ∧ (L 8 = true → L 9 = false → Blk W σ.1.g 45 #[.int .i64 x.id, .int .i64 x.fr, .int .i64 x.to, .int .i64 x.steps, .int .i64 x.paces] ∧ w.heap.size + 2 < σ.1.g) ∧ (L 9 = true → Own W w.heap.size 45 5 σ.1.AI (m + 1) σ.1.cI ((t.links.take (lowB t.links x.id) ++ x :: t.links.drop (lowB t.links x.id)).flatMap Link.vals) ∧ Above (w.heap.size + 2) σ.1.AI) ∧ (L 2 = true → L 5 = true → L 9 = false → Apart σ.1.AP σ.1.AK) ∧ (L 2 = true → L 9 = true → Apart σ.1.AP σ.1.AI) ∧ (L 5 = true → L 8 = true → L 9 = false → ∀ a, σ.1.AK = some a → σ.1.g ≠ a.block) ∧ (L 0 = true → σ.2 23 = .pointer (some ⟨w.heap.size, 0, none⟩)) ∧ (L 1 = true → σ.2 24 = .slice A n c) ∧ (L 2 = true → σ.2 25 = .slice σ.1.AP n σ.1.cP) ∧ (L 3 = true → σ.2 26 = .pointer (some ⟨w.heap.size, 1, none⟩)) ∧ (L 4 = true → σ.2 27 = .slice A' m d) ∧ (L 5 = true → σ.2 28 = .slice σ.1.AK m σ.1.cK) ∧ (L 6 = true → σ.2 29 = .int .i64 (lowB t.links x.id)) ∧ (L 7 = true → σ.2 30 = .agg #[.int .i64 x.id, .int .i64 x.fr, .int .i64 x.to, .int .i64 x.steps, .int .i64 x.paces]) ∧ (L 8 = true → σ.2 31 = .slice (some ⟨σ.1.g, 0, none⟩) 1 1) ∧ (L 9 = true → σ.2 32 = .slice σ.1.AI (m + 1) σ.1.cI) ∧ (L 10 = true → σ.2 33 = .agg #[.slice σ.1.AP n σ.1.cP, .slice σ.1.AI (m + 1) σ.1.cI]))
      (⟨none, 0, none, 0, none, 0, 0⟩, fun k => undef) rfl ?_ ?_ ?_
    · exact ⟨B0.drew, fun _ => X0.drew, (fun h => by cases h), Y0.drew, Z0.drew, (fun h => by cases h), (fun h => by cases h), (fun h => by cases h), (fun h => by cases h), (fun h => by cases h), (fun h => by cases h), (fun h => by cases h), (fun h => by cases h), (fun h => by cases h), (fun h => by cases h), (fun h => by cases h), (fun h => by cases h), (fun h => by cases h), (fun h => by cases h), (fun h => by cases h), (fun h => by cases h), (fun h => by cases h), (fun h => by cases h)⟩
    · refine ⟨?_, ?_, ?_, ?_, ?_, ?_, ?_, ?_, ?_, ?_, ?_, ?_, trivial⟩
      · rintro L ⟨gh, s⟩ W hu hd hdn ⟨g1, g2, g3, g4, g5, gP, gK, gB, gI, dPK, dPI, dKB, f0, f1, f2, f3, f4, f5, f6, f7, f8, f9, f10⟩ K Q hK
        have HF := Lib.hid (show (Below w.heap.size w W) ∧ (L 11 = false → Blk W w.heap.size 25 #[.slice A n c, .slice A' m d]) ∧ (L 11 = true → Blk W w.heap.size 25 #[.slice gh.AP n gh.cP, .slice gh.AI (m + 1) gh.cI]) ∧ (Blk W (w.heap.size + 1) 45 #[.int .i64 x.id, .int .i64 x.fr, .int .i64 x.to, .int .i64 x.steps, .int .i64 x.paces]) ∧ (Blk W (w.heap.size + 1 + 1) 25 #[.slice none 0 0, .slice none 0 0]) ∧ (L 2 = true → Own W w.heap.size 3 1 gh.AP n gh.cP (t.places.map (Value.int .i64)) ∧ Above (w.heap.size + 2) gh.AP) ∧ (L 5 = true → L 9 = false → Own W w.heap.size 45 5 gh.AK m gh.cK (t.links.flatMap Link.vals) ∧ Above (w.heap.size + 2) gh.AK) ∧ (L 8 = true → L 9 = false → Blk W gh.g 45 #[.int .i64 x.id, .int .i64 x.fr, .int .i64 x.to, .int .i64 x.steps, .int .i64 x.paces] ∧ w.heap.size + 2 < gh.g) ∧ (L 9 = true → Own W w.heap.size 45 5 gh.AI (m + 1) gh.cI ((t.links.take (lowB t.links x.id) ++ x :: t.links.drop (lowB t.links x.id)).flatMap Link.vals) ∧ Above (w.heap.size + 2) gh.AI) ∧ (L 2 = true → L 5 = true → L 9 = false → Apart gh.AP gh.AK) ∧ (L 2 = true → L 9 = true → Apart gh.AP gh.AI) ∧ (L 5 = true → L 8 = true → L 9 = false → ∀ a, gh.AK = some a → gh.g ≠ a.block) ∧ (L 0 = true → s 23 = .pointer (some ⟨w.heap.size, 0, none⟩)) ∧ (L 1 = true → s 24 = .slice A n c) ∧ (L 2 = true → s 25 = .slice gh.AP n gh.cP) ∧ (L 3 = true → s 26 = .pointer (some ⟨w.heap.size, 1, none⟩)) ∧ (L 4 = true → s 27 = .slice A' m d) ∧ (L 5 = true → s 28 = .slice gh.AK m gh.cK) ∧ (L 6 = true → s 29 = .int .i64 (lowB t.links x.id)) ∧ (L 7 = true → s 30 = .agg #[.int .i64 x.id, .int .i64 x.fr, .int .i64 x.to, .int .i64 x.steps, .int .i64 x.paces]) ∧ (L 8 = true → s 31 = .slice (some ⟨gh.g, 0, none⟩) 1 1) ∧ (L 9 = true → s 32 = .slice gh.AI (m + 1) gh.cI) ∧ (L 10 = true → s 33 = .agg #[.slice gh.AP n gh.cP, .slice gh.AI (m + 1) gh.cI]) from ⟨g1, g2, g3, g4, g5, gP, gK, gB, gI, dPK, dPI, dKB, f0, f1, f2, f3, f4, f5, f6, f7, f8, f9, f10⟩)
        clear f10 f9 f8 f7 f6 f5 f4 f3 f2 f1 f0 dKB dPI dPK gI gB gK gP g5 g4 g3 g2 g1 hd
        simp only
        go_wp2_with fail
        obtain ⟨g1, g2, g3, g4, g5, gP, gK, gB, gI, dPK, dPI, dKB, f0, f1, f2, f3, f4, f5, f6, f7, f8, f9, f10⟩ := HF.out
        exact hK (gh, (upd s 23 (.pointer (some ⟨w.heap.size, 0, none⟩)))) _ ⟨g1, g2, g3, g4, g5, gP, gK, gB, gI, dPK, dPI, dKB, (fun _ => rfl), f1, f2, f3, f4, f5, f6, f7, f8, f9, f10⟩
      · rintro L ⟨gh, s⟩ W hu hd hdn ⟨g1, g2, g3, g4, g5, gP, gK, gB, gI, dPK, dPI, dKB, f0, f1, f2, f3, f4, f5, f6, f7, f8, f9, f10⟩ K Q hK
        have e0 := f0 (hd.at_ 0 rfl)
        have h11 : L 11 = false := by
          cases hc : L 11 with
          | false => rfl
          | true => exact hdn.no 11 1 hc rfl hu
        have c0 : W.cell? ⟨w.heap.size, 0, none⟩ = some (.slice A n c) := (g2 h11).cell 0
        have HF := Lib.hid (show (Below w.heap.size w W) ∧ (L 11 = false → Blk W w.heap.size 25 #[.slice A n c, .slice A' m d]) ∧ (L 11 = true → Blk W w.heap.size 25 #[.slice gh.AP n gh.cP, .slice gh.AI (m + 1) gh.cI]) ∧ (Blk W (w.heap.size + 1) 45 #[.int .i64 x.id, .int .i64 x.fr, .int .i64 x.to, .int .i64 x.steps, .int .i64 x.paces]) ∧ (Blk W (w.heap.size + 1 + 1) 25 #[.slice none 0 0, .slice none 0 0]) ∧ (L 2 = true → Own W w.heap.size 3 1 gh.AP n gh.cP (t.places.map (Value.int .i64)) ∧ Above (w.heap.size + 2) gh.AP) ∧ (L 5 = true → L 9 = false → Own W w.heap.size 45 5 gh.AK m gh.cK (t.links.flatMap Link.vals) ∧ Above (w.heap.size + 2) gh.AK) ∧ (L 8 = true → L 9 = false → Blk W gh.g 45 #[.int .i64 x.id, .int .i64 x.fr, .int .i64 x.to, .int .i64 x.steps, .int .i64 x.paces] ∧ w.heap.size + 2 < gh.g) ∧ (L 9 = true → Own W w.heap.size 45 5 gh.AI (m + 1) gh.cI ((t.links.take (lowB t.links x.id) ++ x :: t.links.drop (lowB t.links x.id)).flatMap Link.vals) ∧ Above (w.heap.size + 2) gh.AI) ∧ (L 2 = true → L 5 = true → L 9 = false → Apart gh.AP gh.AK) ∧ (L 2 = true → L 9 = true → Apart gh.AP gh.AI) ∧ (L 5 = true → L 8 = true → L 9 = false → ∀ a, gh.AK = some a → gh.g ≠ a.block) ∧ (L 0 = true → s 23 = .pointer (some ⟨w.heap.size, 0, none⟩)) ∧ (L 1 = true → s 24 = .slice A n c) ∧ (L 2 = true → s 25 = .slice gh.AP n gh.cP) ∧ (L 3 = true → s 26 = .pointer (some ⟨w.heap.size, 1, none⟩)) ∧ (L 4 = true → s 27 = .slice A' m d) ∧ (L 5 = true → s 28 = .slice gh.AK m gh.cK) ∧ (L 6 = true → s 29 = .int .i64 (lowB t.links x.id)) ∧ (L 7 = true → s 30 = .agg #[.int .i64 x.id, .int .i64 x.fr, .int .i64 x.to, .int .i64 x.steps, .int .i64 x.paces]) ∧ (L 8 = true → s 31 = .slice (some ⟨gh.g, 0, none⟩) 1 1) ∧ (L 9 = true → s 32 = .slice gh.AI (m + 1) gh.cI) ∧ (L 10 = true → s 33 = .agg #[.slice gh.AP n gh.cP, .slice gh.AI (m + 1) gh.cI]) from ⟨g1, g2, g3, g4, g5, gP, gK, gB, gI, dPK, dPI, dKB, f0, f1, f2, f3, f4, f5, f6, f7, f8, f9, f10⟩)
        clear f10 f9 f8 f7 f6 f5 f4 f3 f2 f1 f0 dKB dPI dPK gI gB gK gP g5 g4 g3 g2 g1 hd
        simp only at e0 ⊢
        go_wp2_with fail
        obtain ⟨g1, g2, g3, g4, g5, gP, gK, gB, gI, dPK, dPI, dKB, f0, f1, f2, f3, f4, f5, f6, f7, f8, f9, f10⟩ := HF.out
        exact hK (gh, (upd (upd s 23 (.pointer (some ⟨w.heap.size, 0, none⟩))) 24 (.slice A n c))) _ ⟨g1, g2, g3, g4, g5, gP, gK, gB, gI, dPK, dPI, dKB, (fun _ => rfl), (fun _ => rfl), f2, f3, f4, f5, f6, f7, f8, f9, f10⟩
      · rintro L ⟨gh, s⟩ W hu hd hdn ⟨g1, g2, g3, g4, g5, gP, gK, gB, gI, dPK, dPI, dKB, f0, f1, f2, f3, f4, f5, f6, f7, f8, f9, f10⟩ K Q hK
        have e1 := f1 (hd.at_ 1 rfl)
        have HI := Lib.hid ((HT.out.places.below g1).more g1.size)
        have HG1 := Lib.hid g1
        have hW := g5.lt
        have HF := Lib.hid (show (Below w.heap.size w W) ∧ (L 11 = false → Blk W w.heap.size 25 #[.slice A n c, .slice A' m d]) ∧ (L 11 = true → Blk W w.heap.size 25 #[.slice gh.AP n gh.cP, .slice gh.AI (m + 1) gh.cI]) ∧ (Blk W (w.heap.size + 1) 45 #[.int .i64 x.id, .int .i64 x.fr, .int .i64 x.to, .int .i64 x.steps, .int .i64 x.paces]) ∧ (Blk W (w.heap.size + 1 + 1) 25 #[.slice none 0 0, .slice none 0 0]) ∧ (L 2 = true → Own W w.heap.size 3 1 gh.AP n gh.cP (t.places.map (Value.int .i64)) ∧ Above (w.heap.size + 2) gh.AP) ∧ (L 5 = true → L 9 = false → Own W w.heap.size 45 5 gh.AK m gh.cK (t.links.flatMap Link.vals) ∧ Above (w.heap.size + 2) gh.AK) ∧ (L 8 = true → L 9 = false → Blk W gh.g 45 #[.int .i64 x.id, .int .i64 x.fr, .int .i64 x.to, .int .i64 x.steps, .int .i64 x.paces] ∧ w.heap.size + 2 < gh.g) ∧ (L 9 = true → Own W w.heap.size 45 5 gh.AI (m + 1) gh.cI ((t.links.take (lowB t.links x.id) ++ x :: t.links.drop (lowB t.links x.id)).flatMap Link.vals) ∧ Above (w.heap.size + 2) gh.AI) ∧ (L 2 = true → L 5 = true → L 9 = false → Apart gh.AP gh.AK) ∧ (L 2 = true → L 9 = true → Apart gh.AP gh.AI) ∧ (L 5 = true → L 8 = true → L 9 = false → ∀ a, gh.AK = some a → gh.g ≠ a.block) ∧ (L 0 = true → s 23 = .pointer (some ⟨w.heap.size, 0, none⟩)) ∧ (L 1 = true → s 24 = .slice A n c) ∧ (L 2 = true → s 25 = .slice gh.AP n gh.cP) ∧ (L 3 = true → s 26 = .pointer (some ⟨w.heap.size, 1, none⟩)) ∧ (L 4 = true → s 27 = .slice A' m d) ∧ (L 5 = true → s 28 = .slice gh.AK m gh.cK) ∧ (L 6 = true → s 29 = .int .i64 (lowB t.links x.id)) ∧ (L 7 = true → s 30 = .agg #[.int .i64 x.id, .int .i64 x.fr, .int .i64 x.to, .int .i64 x.steps, .int .i64 x.paces]) ∧ (L 8 = true → s 31 = .slice (some ⟨gh.g, 0, none⟩) 1 1) ∧ (L 9 = true → s 32 = .slice gh.AI (m + 1) gh.cI) ∧ (L 10 = true → s 33 = .agg #[.slice gh.AP n gh.cP, .slice gh.AI (m + 1) gh.cI]) from ⟨g1, g2, g3, g4, g5, gP, gK, gB, gI, dPK, dPI, dKB, f0, f1, f2, f3, f4, f5, f6, f7, f8, f9, f10⟩)
        clear f10 f9 f8 f7 f6 f5 f4 f3 f2 f1 f0 dKB dPI dPK gI gB gK gP g5 g4 g3 g2 g1 hd
        simp only at e1 ⊢
        go_wp2_with fail
        with_reducible refine (clone_int A n c t.places W HI.out hn1 hn2).mono ?_
        rintro e W1 ⟨AP, cP, rfl, hP, -, hb⟩
        go_wp2_with fail
        obtain ⟨g1, g2, g3, g4, g5, gP, gK, gB, gI, dPK, dPI, dKB, f0, f1, f2, f3, f4, f5, f6, f7, f8, f9, f10⟩ := HF.out
        have hA : Above (w.heap.size + 2) AP := fun a ha => Nat.lt_of_lt_of_le hW (hP.lt ha).1
        exact hK ({ gh with AP := AP, cP := cP }, (upd (upd s 24 (.slice A n c)) 25 (.slice AP n cP))) _ ⟨(g1.trans (hb.mono g1.size)), (fun h => (g2 h).below hb (g2 h).lt), (fun h => hdn.no 11 2 h rfl hu), (g4.below hb g4.lt), (g5.below hb g5.lt), (fun _ => ⟨hP.mono g1.size, hA⟩), (fun h h2 => ⟨(gK h h2).1.below hb (Nat.le_refl _), (gK h h2).2⟩), (fun h h2 => ⟨(gB h h2).1.below hb (gB h h2).1.lt, (gB h h2).2⟩), (fun h => ⟨(gI h).1.below hb (Nat.le_refl _), (gI h).2⟩), (fun _ h5 h9 => (apart_new (gK h5 h9).1 hP (Nat.le_refl _)).symm), (fun _ h9 => (apart_new (gI h9).1 hP (Nat.le_refl _)).symm), dKB, f0, (fun _ => rfl), (fun _ => rfl), f3, f4, f5, f6, f7, f8, f9, (fun h => hdn.no 10 2 h rfl hu)⟩
      · rintro L ⟨gh, s⟩ W hu hd hdn ⟨g1, g2, g3, g4, g5, gP, gK, gB, gI, dPK, dPI, dKB, f0, f1, f2, f3, f4, f5, f6, f7, f8, f9, f10⟩ K Q hK
        have HF := Lib.hid (show (Below w.heap.size w W) ∧ (L 11 = false → Blk W w.heap.size 25 #[.slice A n c, .slice A' m d]) ∧ (L 11 = true → Blk W w.heap.size 25 #[.slice gh.AP n gh.cP, .slice gh.AI (m + 1) gh.cI]) ∧ (Blk W (w.heap.size + 1) 45 #[.int .i64 x.id, .int .i64 x.fr, .int .i64 x.to, .int .i64 x.steps, .int .i64 x.paces]) ∧ (Blk W (w.heap.size + 1 + 1) 25 #[.slice none 0 0, .slice none 0 0]) ∧ (L 2 = true → Own W w.heap.size 3 1 gh.AP n gh.cP (t.places.map (Value.int .i64)) ∧ Above (w.heap.size + 2) gh.AP) ∧ (L 5 = true → L 9 = false → Own W w.heap.size 45 5 gh.AK m gh.cK (t.links.flatMap Link.vals) ∧ Above (w.heap.size + 2) gh.AK) ∧ (L 8 = true → L 9 = false → Blk W gh.g 45 #[.int .i64 x.id, .int .i64 x.fr, .int .i64 x.to, .int .i64 x.steps, .int .i64 x.paces] ∧ w.heap.size + 2 < gh.g) ∧ (L 9 = true → Own W w.heap.size 45 5 gh.AI (m + 1) gh.cI ((t.links.take (lowB t.links x.id) ++ x :: t.links.drop (lowB t.links x.id)).flatMap Link.vals) ∧ Above (w.heap.size + 2) gh.AI) ∧ (L 2 = true → L 5 = true → L 9 = false → Apart gh.AP gh.AK) ∧ (L 2 = true → L 9 = true → Apart gh.AP gh.AI) ∧ (L 5 = true → L 8 = true → L 9 = false → ∀ a, gh.AK = some a → gh.g ≠ a.block) ∧ (L 0 = true → s 23 = .pointer (some ⟨w.heap.size, 0, none⟩)) ∧ (L 1 = true → s 24 = .slice A n c) ∧ (L 2 = true → s 25 = .slice gh.AP n gh.cP) ∧ (L 3 = true → s 26 = .pointer (some ⟨w.heap.size, 1, none⟩)) ∧ (L 4 = true → s 27 = .slice A' m d) ∧ (L 5 = true → s 28 = .slice gh.AK m gh.cK) ∧ (L 6 = true → s 29 = .int .i64 (lowB t.links x.id)) ∧ (L 7 = true → s 30 = .agg #[.int .i64 x.id, .int .i64 x.fr, .int .i64 x.to, .int .i64 x.steps, .int .i64 x.paces]) ∧ (L 8 = true → s 31 = .slice (some ⟨gh.g, 0, none⟩) 1 1) ∧ (L 9 = true → s 32 = .slice gh.AI (m + 1) gh.cI) ∧ (L 10 = true → s 33 = .agg #[.slice gh.AP n gh.cP, .slice gh.AI (m + 1) gh.cI]) from ⟨g1, g2, g3, g4, g5, gP, gK, gB, gI, dPK, dPI, dKB, f0, f1, f2, f3, f4, f5, f6, f7, f8, f9, f10⟩)
        clear f10 f9 f8 f7 f6 f5 f4 f3 f2 f1 f0 dKB dPI dPK gI gB gK gP g5 g4 g3 g2 g1 hd
        simp only
        go_wp2_with fail
        obtain ⟨g1, g2, g3, g4, g5, gP, gK, gB, gI, dPK, dPI, dKB, f0, f1, f2, f3, f4, f5, f6, f7, f8, f9, f10⟩ := HF.out
        exact hK (gh, (upd s 26 (.pointer (some ⟨w.heap.size, 1, none⟩)))) _ ⟨g1, g2, g3, g4, g5, gP, gK, gB, gI, dPK, dPI, dKB, f0, f1, f2, (fun _ => rfl), f4, f5, f6, f7, f8, f9, f10⟩
      · rintro L ⟨gh, s⟩ W hu hd hdn ⟨g1, g2, g3, g4, g5, gP, gK, gB, gI, dPK, dPI, dKB, f0, f1, f2, f3, f4, f5, f6, f7, f8, f9, f10⟩ K Q hK
        have e3 := f3 (hd.at_ 3 rfl)
        have h11 : L 11 = false := by
          cases hc : L 11 with
          | false => rfl
          | true => exact hdn.no 11 4 hc rfl hu
        have c0 : W.cell? ⟨w.heap.size, 1, none⟩ = some (.slice A' m d) := (g2 h11).cell 1
        have HF := Lib.hid (show (Below w.heap.size w W) ∧ (L 11 = false → Blk W w.heap.size 25 #[.slice A n c, .slice A' m d]) ∧ (L 11 = true → Blk W w.heap.size 25 #[.slice gh.AP n gh.cP, .slice gh.AI (m + 1) gh.cI]) ∧ (Blk W (w.heap.size + 1) 45 #[.int .i64 x.id, .int .i64 x.fr, .int .i64 x.to, .int .i64 x.steps, .int .i64 x.paces]) ∧ (Blk W (w.heap.size + 1 + 1) 25 #[.slice none 0 0, .slice none 0 0]) ∧ (L 2 = true → Own W w.heap.size 3 1 gh.AP n gh.cP (t.places.map (Value.int .i64)) ∧ Above (w.heap.size + 2) gh.AP) ∧ (L 5 = true → L 9 = false → Own W w.heap.size 45 5 gh.AK m gh.cK (t.links.flatMap Link.vals) ∧ Above (w.heap.size + 2) gh.AK) ∧ (L 8 = true → L 9 = false → Blk W gh.g 45 #[.int .i64 x.id, .int .i64 x.fr, .int .i64 x.to, .int .i64 x.steps, .int .i64 x.paces] ∧ w.heap.size + 2 < gh.g) ∧ (L 9 = true → Own W w.heap.size 45 5 gh.AI (m + 1) gh.cI ((t.links.take (lowB t.links x.id) ++ x :: t.links.drop (lowB t.links x.id)).flatMap Link.vals) ∧ Above (w.heap.size + 2) gh.AI) ∧ (L 2 = true → L 5 = true → L 9 = false → Apart gh.AP gh.AK) ∧ (L 2 = true → L 9 = true → Apart gh.AP gh.AI) ∧ (L 5 = true → L 8 = true → L 9 = false → ∀ a, gh.AK = some a → gh.g ≠ a.block) ∧ (L 0 = true → s 23 = .pointer (some ⟨w.heap.size, 0, none⟩)) ∧ (L 1 = true → s 24 = .slice A n c) ∧ (L 2 = true → s 25 = .slice gh.AP n gh.cP) ∧ (L 3 = true → s 26 = .pointer (some ⟨w.heap.size, 1, none⟩)) ∧ (L 4 = true → s 27 = .slice A' m d) ∧ (L 5 = true → s 28 = .slice gh.AK m gh.cK) ∧ (L 6 = true → s 29 = .int .i64 (lowB t.links x.id)) ∧ (L 7 = true → s 30 = .agg #[.int .i64 x.id, .int .i64 x.fr, .int .i64 x.to, .int .i64 x.steps, .int .i64 x.paces]) ∧ (L 8 = true → s 31 = .slice (some ⟨gh.g, 0, none⟩) 1 1) ∧ (L 9 = true → s 32 = .slice gh.AI (m + 1) gh.cI) ∧ (L 10 = true → s 33 = .agg #[.slice gh.AP n gh.cP, .slice gh.AI (m + 1) gh.cI]) from ⟨g1, g2, g3, g4, g5, gP, gK, gB, gI, dPK, dPI, dKB, f0, f1, f2, f3, f4, f5, f6, f7, f8, f9, f10⟩)
        clear f10 f9 f8 f7 f6 f5 f4 f3 f2 f1 f0 dKB dPI dPK gI gB gK gP g5 g4 g3 g2 g1 hd
        simp only at e3 ⊢
        go_wp2_with fail
        obtain ⟨g1, g2, g3, g4, g5, gP, gK, gB, gI, dPK, dPI, dKB, f0, f1, f2, f3, f4, f5, f6, f7, f8, f9, f10⟩ := HF.out
        exact hK (gh, (upd (upd s 26 (.pointer (some ⟨w.heap.size, 1, none⟩))) 27 (.slice A' m d))) _ ⟨g1, g2, g3, g4, g5, gP, gK, gB, gI, dPK, dPI, dKB, f0, f1, f2, (fun _ => rfl), (fun _ => rfl), f5, f6, f7, f8, f9, f10⟩
      · rintro L ⟨gh, s⟩ W hu hd hdn ⟨g1, g2, g3, g4, g5, gP, gK, gB, gI, dPK, dPI, dKB, f0, f1, f2, f3, f4, f5, f6, f7, f8, f9, f10⟩ K Q hK
        have e4 := f4 (hd.at_ 4 rfl)
        have HI := Lib.hid ((HT.out.links.below g1).more g1.size)
        have HG1 := Lib.hid g1
        have hW := g5.lt
        have HF := Lib.hid (show (Below w.heap.size w W) ∧ (L 11 = false → Blk W w.heap.size 25 #[.slice A n c, .slice A' m d]) ∧ (L 11 = true → Blk W w.heap.size 25 #[.slice gh.AP n gh.cP, .slice gh.AI (m + 1) gh.cI]) ∧ (Blk W (w.heap.size + 1) 45 #[.int .i64 x.id, .int .i64 x.fr, .int .i64 x.to, .int .i64 x.steps, .int .i64 x.paces]) ∧ (Blk W (w.heap.size + 1 + 1) 25 #[.slice none 0 0, .slice none 0 0]) ∧ (L 2 = true → Own W w.heap.size 3 1 gh.AP n gh.cP (t.places.map (Value.int .i64)) ∧ Above (w.heap.size + 2) gh.AP) ∧ (L 5 = true → L 9 = false → Own W w.heap.size 45 5 gh.AK m gh.cK (t.links.flatMap Link.vals) ∧ Above (w.heap.size + 2) gh.AK) ∧ (L 8 = true → L 9 = false → Blk W gh.g 45 #[.int .i64 x.id, .int .i64 x.fr, .int .i64 x.to, .int .i64 x.steps, .int .i64 x.paces] ∧ w.heap.size + 2 < gh.g) ∧ (L 9 = true → Own W w.heap.size 45 5 gh.AI (m + 1) gh.cI ((t.links.take (lowB t.links x.id) ++ x :: t.links.drop (lowB t.links x.id)).flatMap Link.vals) ∧ Above (w.heap.size + 2) gh.AI) ∧ (L 2 = true → L 5 = true → L 9 = false → Apart gh.AP gh.AK) ∧ (L 2 = true → L 9 = true → Apart gh.AP gh.AI) ∧ (L 5 = true → L 8 = true → L 9 = false → ∀ a, gh.AK = some a → gh.g ≠ a.block) ∧ (L 0 = true → s 23 = .pointer (some ⟨w.heap.size, 0, none⟩)) ∧ (L 1 = true → s 24 = .slice A n c) ∧ (L 2 = true → s 25 = .slice gh.AP n gh.cP) ∧ (L 3 = true → s 26 = .pointer (some ⟨w.heap.size, 1, none⟩)) ∧ (L 4 = true → s 27 = .slice A' m d) ∧ (L 5 = true → s 28 = .slice gh.AK m gh.cK) ∧ (L 6 = true → s 29 = .int .i64 (lowB t.links x.id)) ∧ (L 7 = true → s 30 = .agg #[.int .i64 x.id, .int .i64 x.fr, .int .i64 x.to, .int .i64 x.steps, .int .i64 x.paces]) ∧ (L 8 = true → s 31 = .slice (some ⟨gh.g, 0, none⟩) 1 1) ∧ (L 9 = true → s 32 = .slice gh.AI (m + 1) gh.cI) ∧ (L 10 = true → s 33 = .agg #[.slice gh.AP n gh.cP, .slice gh.AI (m + 1) gh.cI]) from ⟨g1, g2, g3, g4, g5, gP, gK, gB, gI, dPK, dPI, dKB, f0, f1, f2, f3, f4, f5, f6, f7, f8, f9, f10⟩)
        clear f10 f9 f8 f7 f6 f5 f4 f3 f2 f1 f0 dKB dPI dPK gI gB gK gP g5 g4 g3 g2 g1 hd
        simp only at e4 ⊢
        go_wp2_with fail
        with_reducible refine (clone_link A' m d t.links W HI.out hm1 hm2).mono ?_
        rintro e W1 ⟨AK, cK, rfl, hK2, -, hb⟩
        go_wp2_with fail
        obtain ⟨g1, g2, g3, g4, g5, gP, gK, gB, gI, dPK, dPI, dKB, f0, f1, f2, f3, f4, f5, f6, f7, f8, f9, f10⟩ := HF.out
        have hA : Above (w.heap.size + 2) AK := fun a ha => Nat.lt_of_lt_of_le hW (hK2.lt ha).1
        exact hK ({ gh with AK := AK, cK := cK }, (upd (upd s 27 (.slice A' m d)) 28 (.slice AK m cK))) _ ⟨(g1.trans (hb.mono g1.size)), (fun h => (g2 h).below hb (g2 h).lt), (fun h => (g3 h).below hb (g3 h).lt), (g4.below hb g4.lt), (g5.below hb g5.lt), (fun h => ⟨(gP h).1.below hb (Nat.le_refl _), (gP h).2⟩), (fun _ _ => ⟨hK2.mono g1.size, hA⟩), (fun h h2 => ⟨(gB h h2).1.below hb (gB h h2).1.lt, (gB h h2).2⟩), (fun h => ⟨(gI h).1.below hb (Nat.le_refl _), (gI h).2⟩), (fun h2 _ _ => apart_new (gP h2).1 hK2 (Nat.le_refl _)), dPI, (fun _ h8 h9 a ha => fun (e : gh.g = a.block) => by have h1 := (gB h8 h9).1.lt; have h2 := (hK2.lt ha).1; omega), f0, f1, f2, f3, (fun _ => rfl), (fun _ => rfl), f6, f7, f8, (fun h => hdn.no 9 5 h rfl hu), f10⟩
      · rintro L ⟨gh, s⟩ W hu hd hdn ⟨g1, g2, g3, g4, g5, gP, gK, gB, gI, dPK, dPI, dKB, f0, f1, f2, f3, f4, f5, f6, f7, f8, f9, f10⟩ K Q hK
        have HF := Lib.hid (show (Below w.heap.size w W) ∧ (L 11 = false → Blk W w.heap.size 25 #[.slice A n c, .slice A' m d]) ∧ (L 11 = true → Blk W w.heap.size 25 #[.slice gh.AP n gh.cP, .slice gh.AI (m + 1) gh.cI]) ∧ (Blk W (w.heap.size + 1) 45 #[.int .i64 x.id, .int .i64 x.fr, .int .i64 x.to, .int .i64 x.steps, .int .i64 x.paces]) ∧ (Blk W (w.heap.size + 1 + 1) 25 #[.slice none 0 0, .slice none 0 0]) ∧ (L 2 = true → Own W w.heap.size 3 1 gh.AP n gh.cP (t.places.map (Value.int .i64)) ∧ Above (w.heap.size + 2) gh.AP) ∧ (L 5 = true → L 9 = false → Own W w.heap.size 45 5 gh.AK m gh.cK (t.links.flatMap Link.vals) ∧ Above (w.heap.size + 2) gh.AK) ∧ (L 8 = true → L 9 = false → Blk W gh.g 45 #[.int .i64 x.id, .int .i64 x.fr, .int .i64 x.to, .int .i64 x.steps, .int .i64 x.paces] ∧ w.heap.size + 2 < gh.g) ∧ (L 9 = true → Own W w.heap.size 45 5 gh.AI (m + 1) gh.cI ((t.links.take (lowB t.links x.id) ++ x :: t.links.drop (lowB t.links x.id)).flatMap Link.vals) ∧ Above (w.heap.size + 2) gh.AI) ∧ (L 2 = true → L 5 = true → L 9 = false → Apart gh.AP gh.AK) ∧ (L 2 = true → L 9 = true → Apart gh.AP gh.AI) ∧ (L 5 = true → L 8 = true → L 9 = false → ∀ a, gh.AK = some a → gh.g ≠ a.block) ∧ (L 0 = true → s 23 = .pointer (some ⟨w.heap.size, 0, none⟩)) ∧ (L 1 = true → s 24 = .slice A n c) ∧ (L 2 = true → s 25 = .slice gh.AP n gh.cP) ∧ (L 3 = true → s 26 = .pointer (some ⟨w.heap.size, 1, none⟩)) ∧ (L 4 = true → s 27 = .slice A' m d) ∧ (L 5 = true → s 28 = .slice gh.AK m gh.cK) ∧ (L 6 = true → s 29 = .int .i64 (lowB t.links x.id)) ∧ (L 7 = true → s 30 = .agg #[.int .i64 x.id, .int .i64 x.fr, .int .i64 x.to, .int .i64 x.steps, .int .i64 x.paces]) ∧ (L 8 = true → s 31 = .slice (some ⟨gh.g, 0, none⟩) 1 1) ∧ (L 9 = true → s 32 = .slice gh.AI (m + 1) gh.cI) ∧ (L 10 = true → s 33 = .agg #[.slice gh.AP n gh.cP, .slice gh.AI (m + 1) gh.cI]) from ⟨g1, g2, g3, g4, g5, gP, gK, gB, gI, dPK, dPI, dKB, f0, f1, f2, f3, f4, f5, f6, f7, f8, f9, f10⟩)
        clear f10 f9 f8 f7 f6 f5 f4 f3 f2 f1 f0 dKB dPI dPK gI gB gK gP g5 g4 g3 g2 g1 hd
        simp only
        go_wp2_with fail
        obtain ⟨g1, g2, g3, g4, g5, gP, gK, gB, gI, dPK, dPI, dKB, f0, f1, f2, f3, f4, f5, f6, f7, f8, f9, f10⟩ := HF.out
        exact hK (gh, (upd s 29 (.int .i64 (lowB t.links x.id)))) _ ⟨g1, g2, g3, g4, g5, gP, gK, gB, gI, dPK, dPI, dKB, f0, f1, f2, f3, f4, f5, (fun _ => rfl), f7, f8, f9, f10⟩
      · rintro L ⟨gh, s⟩ W hu hd hdn ⟨g1, g2, g3, g4, g5, gP, gK, gB, gI, dPK, dPI, dKB, f0, f1, f2, f3, f4, f5, f6, f7, f8, f9, f10⟩ K Q hK
        have c0 : W.cell? ⟨w.heap.size + 1, 0, none⟩ = some (.int .i64 x.id) := g4.cell 0
        have c1 : W.cell? ⟨w.heap.size + 1, 1, none⟩ = some (.int .i64 x.fr) := g4.cell 1
        have c2 : W.cell? ⟨w.heap.size + 1, 2, none⟩ = some (.int .i64 x.to) := g4.cell 2
        have c3 : W.cell? ⟨w.heap.size + 1, 3, none⟩ = some (.int .i64 x.steps) := g4.cell 3
        have c4 : W.cell? ⟨w.heap.size + 1, 4, none⟩ = some (.int .i64 x.paces) := g4.cell 4
        have HF := Lib.hid (show (Below w.heap.size w W) ∧ (L 11 = false → Blk W w.heap.size 25 #[.slice A n c, .slice A' m d]) ∧ (L 11 = true → Blk W w.heap.size 25 #[.slice gh.AP n gh.cP, .slice gh.AI (m + 1) gh.cI]) ∧ (Blk W (w.heap.size + 1) 45 #[.int .i64 x.id, .int .i64 x.fr, .int .i64 x.to, .int .i64 x.steps, .int .i64 x.paces]) ∧ (Blk W (w.heap.size + 1 + 1) 25 #[.slice none 0 0, .slice none 0 0]) ∧ (L 2 = true → Own W w.heap.size 3 1 gh.AP n gh.cP (t.places.map (Value.int .i64)) ∧ Above (w.heap.size + 2) gh.AP) ∧ (L 5 = true → L 9 = false → Own W w.heap.size 45 5 gh.AK m gh.cK (t.links.flatMap Link.vals) ∧ Above (w.heap.size + 2) gh.AK) ∧ (L 8 = true → L 9 = false → Blk W gh.g 45 #[.int .i64 x.id, .int .i64 x.fr, .int .i64 x.to, .int .i64 x.steps, .int .i64 x.paces] ∧ w.heap.size + 2 < gh.g) ∧ (L 9 = true → Own W w.heap.size 45 5 gh.AI (m + 1) gh.cI ((t.links.take (lowB t.links x.id) ++ x :: t.links.drop (lowB t.links x.id)).flatMap Link.vals) ∧ Above (w.heap.size + 2) gh.AI) ∧ (L 2 = true → L 5 = true → L 9 = false → Apart gh.AP gh.AK) ∧ (L 2 = true → L 9 = true → Apart gh.AP gh.AI) ∧ (L 5 = true → L 8 = true → L 9 = false → ∀ a, gh.AK = some a → gh.g ≠ a.block) ∧ (L 0 = true → s 23 = .pointer (some ⟨w.heap.size, 0, none⟩)) ∧ (L 1 = true → s 24 = .slice A n c) ∧ (L 2 = true → s 25 = .slice gh.AP n gh.cP) ∧ (L 3 = true → s 26 = .pointer (some ⟨w.heap.size, 1, none⟩)) ∧ (L 4 = true → s 27 = .slice A' m d) ∧ (L 5 = true → s 28 = .slice gh.AK m gh.cK) ∧ (L 6 = true → s 29 = .int .i64 (lowB t.links x.id)) ∧ (L 7 = true → s 30 = .agg #[.int .i64 x.id, .int .i64 x.fr, .int .i64 x.to, .int .i64 x.steps, .int .i64 x.paces]) ∧ (L 8 = true → s 31 = .slice (some ⟨gh.g, 0, none⟩) 1 1) ∧ (L 9 = true → s 32 = .slice gh.AI (m + 1) gh.cI) ∧ (L 10 = true → s 33 = .agg #[.slice gh.AP n gh.cP, .slice gh.AI (m + 1) gh.cI]) from ⟨g1, g2, g3, g4, g5, gP, gK, gB, gI, dPK, dPI, dKB, f0, f1, f2, f3, f4, f5, f6, f7, f8, f9, f10⟩)
        clear f10 f9 f8 f7 f6 f5 f4 f3 f2 f1 f0 dKB dPI dPK gI gB gK gP g5 g4 g3 g2 g1 hd
        simp only
        go_wp2_with fail
        obtain ⟨g1, g2, g3, g4, g5, gP, gK, gB, gI, dPK, dPI, dKB, f0, f1, f2, f3, f4, f5, f6, f7, f8, f9, f10⟩ := HF.out
        exact hK (gh, (upd s 30 (.agg #[.int .i64 x.id, .int .i64 x.fr, .int .i64 x.to, .int .i64 x.steps, .int .i64 x.paces]))) _ ⟨g1, g2, g3, g4, g5, gP, gK, gB, gI, dPK, dPI, dKB, f0, f1, f2, f3, f4, f5, f6, (fun _ => rfl), f8, f9, f10⟩
      · rintro L ⟨gh, s⟩ W hu hd hdn ⟨g1, g2, g3, g4, g5, gP, gK, gB, gI, dPK, dPI, dKB, f0, f1, f2, f3, f4, f5, f6, f7, f8, f9, f10⟩ K Q hK
        have e7 := f7 (hd.at_ 7 rfl)
        have hW := g5.lt
        have HF := Lib.hid (show (Below w.heap.size w W) ∧ (L 11 = false → Blk W w.heap.size 25 #[.slice A n c, .slice A' m d]) ∧ (L 11 = true → Blk W w.heap.size 25 #[.slice gh.AP n gh.cP, .slice gh.AI (m + 1) gh.cI]) ∧ (Blk W (w.heap.size + 1) 45 #[.int .i64 x.id, .int .i64 x.fr, .int .i64 x.to, .int .i64 x.steps, .int .i64 x.paces]) ∧ (Blk W (w.heap.size + 1 + 1) 25 #[.slice none 0 0, .slice none 0 0]) ∧ (L 2 = true → Own W w.heap.size 3 1 gh.AP n gh.cP (t.places.map (Value.int .i64)) ∧ Above (w.heap.size + 2) gh.AP) ∧ (L 5 = true → L 9 = false → Own W w.heap.size 45 5 gh.AK m gh.cK (t.links.flatMap Link.vals) ∧ Above (w.heap.size + 2) gh.AK) ∧ (L 8 = true → L 9 = false → Blk W gh.g 45 #[.int .i64 x.id, .int .i64 x.fr, .int .i64 x.to, .int .i64 x.steps, .int .i64 x.paces] ∧ w.heap.size + 2 < gh.g) ∧ (L 9 = true → Own W w.heap.size 45 5 gh.AI (m + 1) gh.cI ((t.links.take (lowB t.links x.id) ++ x :: t.links.drop (lowB t.links x.id)).flatMap Link.vals) ∧ Above (w.heap.size + 2) gh.AI) ∧ (L 2 = true → L 5 = true → L 9 = false → Apart gh.AP gh.AK) ∧ (L 2 = true → L 9 = true → Apart gh.AP gh.AI) ∧ (L 5 = true → L 8 = true → L 9 = false → ∀ a, gh.AK = some a → gh.g ≠ a.block) ∧ (L 0 = true → s 23 = .pointer (some ⟨w.heap.size, 0, none⟩)) ∧ (L 1 = true → s 24 = .slice A n c) ∧ (L 2 = true → s 25 = .slice gh.AP n gh.cP) ∧ (L 3 = true → s 26 = .pointer (some ⟨w.heap.size, 1, none⟩)) ∧ (L 4 = true → s 27 = .slice A' m d) ∧ (L 5 = true → s 28 = .slice gh.AK m gh.cK) ∧ (L 6 = true → s 29 = .int .i64 (lowB t.links x.id)) ∧ (L 7 = true → s 30 = .agg #[.int .i64 x.id, .int .i64 x.fr, .int .i64 x.to, .int .i64 x.steps, .int .i64 x.paces]) ∧ (L 8 = true → s 31 = .slice (some ⟨gh.g, 0, none⟩) 1 1) ∧ (L 9 = true → s 32 = .slice gh.AI (m + 1) gh.cI) ∧ (L 10 = true → s 33 = .agg #[.slice gh.AP n gh.cP, .slice gh.AI (m + 1) gh.cI]) from ⟨g1, g2, g3, g4, g5, gP, gK, gB, gI, dPK, dPI, dKB, f0, f1, f2, f3, f4, f5, f6, f7, f8, f9, f10⟩)
        clear f10 f9 f8 f7 f6 f5 f4 f3 f2 f1 f0 dKB dPI dPK gI gB gK gP g5 g4 g3 g2 g1 hd
        simp only at e7 ⊢
        go_wp2_with fail
        obtain ⟨g1, g2, g3, g4, g5, gP, gK, gB, gI, dPK, dPI, dKB, f0, f1, f2, f3, f4, f5, f6, f7, f8, f9, f10⟩ := HF.out
        have hb : Below W.heap.size W (W.alloc (.cells #[.int .i64 x.id, .int .i64 x.fr, .int .i64 x.to, .int .i64 x.steps, .int .i64 x.paces] 45)) := (Below.refl _ _).alloc (Nat.le_refl _) _
        exact hK ({ gh with g := W.heap.size }, (upd (upd s 30 (.agg #[.int .i64 x.id, .int .i64 x.fr, .int .i64 x.to, .int .i64 x.steps, .int .i64 x.paces])) 31 (.slice (some ⟨W.heap.size, 0, none⟩) 1 1))) _ ⟨(g1.trans (hb.mono g1.size)), (fun h => (g2 h).below hb (g2 h).lt), (fun h => (g3 h).below hb (g3 h).lt), (g4.below hb g4.lt), (g5.below hb g5.lt), (fun h => ⟨(gP h).1.below hb (Nat.le_refl _), (gP h).2⟩), (fun h h2 => ⟨(gK h h2).1.below hb (Nat.le_refl _), (gK h h2).2⟩), (fun _ _ => ⟨Blk.new W _ _, hW⟩), (fun h => ⟨(gI h).1.below hb (Nat.le_refl _), (gI h).2⟩), dPK, dPI, (fun h5 _ h9 a ha => fun (e : W.heap.size = a.block) => by have h2 := ((gK h5 h9).1.lt ha).2; omega), f0, f1, f2, f3, f4, f5, f6, (fun _ => rfl), (fun _ => rfl), f9, f10⟩
      · rintro L ⟨gh, s⟩ W hu hd hdn ⟨g1, g2, g3, g4, g5, gP, gK, gB, gI, dPK, dPI, dKB, f0, f1, f2, f3, f4, f5, f6, f7, f8, f9, f10⟩ K Q hK
        have e5 := f5 (hd.at_ 5 rfl)
        have e6 := f6 (hd.at_ 6 rfl)
        have e8 := f8 (hd.at_ 8 rfl)
        have HK := Lib.hid (gK (hd.at_ 5 rfl) hu)
        have HB := Lib.hid (gB (hd.at_ 8 rfl) hu)
        have HD := Lib.hid (dKB (hd.at_ 5 rfl) (hd.at_ 8 rfl) hu)
        have HG1 := Lib.hid g1
        have h5 : L 5 = true := hd.at_ 5 rfl
        have hW := g5.lt
        have HF := Lib.hid (show (Below w.heap.size w W) ∧ (L 11 = false → Blk W w.heap.size 25 #[.slice A n c, .slice A' m d]) ∧ (L 11 = true → Blk W w.heap.size 25 #[.slice gh.AP n gh.cP, .slice gh.AI (m + 1) gh.cI]) ∧ (Blk W (w.heap.size + 1) 45 #[.int .i64 x.id, .int .i64 x.fr, .int .i64 x.to, .int .i64 x.steps, .int .i64 x.paces]) ∧ (Blk W (w.heap.size + 1 + 1) 25 #[.slice none 0 0, .slice none 0 0]) ∧ (L 2 = true → Own W w.heap.size 3 1 gh.AP n gh.cP (t.places.map (Value.int .i64)) ∧ Above (w.heap.size + 2) gh.AP) ∧ (L 5 = true → L 9 = false → Own W w.heap.size 45 5 gh.AK m gh.cK (t.links.flatMap Link.vals) ∧ Above (w.heap.size + 2) gh.AK) ∧ (L 8 = true → L 9 = false → Blk W gh.g 45 #[.int .i64 x.id, .int .i64 x.fr, .int .i64 x.to, .int .i64 x.steps, .int .i64 x.paces] ∧ w.heap.size + 2 < gh.g) ∧ (L 9 = true → Own W w.heap.size 45 5 gh.AI (m + 1) gh.cI ((t.links.take (lowB t.links x.id) ++ x :: t.links.drop (lowB t.links x.id)).flatMap Link.vals) ∧ Above (w.heap.size + 2) gh.AI) ∧ (L 2 = true → L 5 = true → L 9 = false → Apart gh.AP gh.AK) ∧ (L 2 = true → L 9 = true → Apart gh.AP gh.AI) ∧ (L 5 = true → L 8 = true → L 9 = false → ∀ a, gh.AK = some a → gh.g ≠ a.block) ∧ (L 0 = true → s 23 = .pointer (some ⟨w.heap.size, 0, none⟩)) ∧ (L 1 = true → s 24 = .slice A n c) ∧ (L 2 = true → s 25 = .slice gh.AP n gh.cP) ∧ (L 3 = true → s 26 = .pointer (some ⟨w.heap.size, 1, none⟩)) ∧ (L 4 = true → s 27 = .slice A' m d) ∧ (L 5 = true → s 28 = .slice gh.AK m gh.cK) ∧ (L 6 = true → s 29 = .int .i64 (lowB t.links x.id)) ∧ (L 7 = true → s 30 = .agg #[.int .i64 x.id, .int .i64 x.fr, .int .i64 x.to, .int .i64 x.steps, .int .i64 x.paces]) ∧ (L 8 = true → s 31 = .slice (some ⟨gh.g, 0, none⟩) 1 1) ∧ (L 9 = true → s 32 = .slice gh.AI (m + 1) gh.cI) ∧ (L 10 = true → s 33 = .agg #[.slice gh.AP n gh.cP, .slice gh.AI (m + 1) gh.cI]) from ⟨g1, g2, g3, g4, g5, gP, gK, gB, gI, dPK, dPI, dKB, f0, f1, f2, f3, f4, f5, f6, f7, f8, f9, f10⟩)
        clear f10 f9 f8 f7 f6 f5 f4 f3 f2 f1 f0 dKB dPI dPK gI gB gK gP g5 g4 g3 g2 g1 hd
        simp only at e5 e6 e8 ⊢
        go_wp2_with fail
        with_reducible refine (insert_link w.heap.size gh.AK m gh.cK (lowB t.links x.id) t.links gh.g x W HK.out.1 HG1.out.size hlow hm3 HB.out.1 HD.out).mono ?_
        rintro e W1 ⟨AI, cI, rfl, hI, hg, hA⟩
        go_wp2_with fail
        obtain ⟨g1, g2, g3, g4, g5, gP, gK, gB, gI, dPK, dPI, dKB, f0, f1, f2, f3, f4, f5, f6, f7, f8, f9, f10⟩ := HF.out
        have hKr : ∀ k, k ≤ w.heap.size + 2 → some k ≠ gh.AK.map (·.block) := fun k hk => above_ne HK.out.2 hk
        have hAI : Above (w.heap.size + 2) AI := fun a ha => by
          rcases hA with h | h
          · rw [h] at ha; exact HK.out.2 a ha
          · rw [h] at ha; cases ha; exact hW
        have hdPI : L 2 = true → Apart gh.AP AI := fun h2 => by
          rcases hA with h | h
          · rw [h]; exact dPK h2 h5 hu
          · rw [h]; intro a b ha hb; cases hb; have := ((gP h2).1.lt ha).2; exact fun e => by simp at e; omega
        exact hK ({ gh with AI := AI, cI := cI }, (upd (upd (upd (upd s 28 (.slice gh.AK m gh.cK)) 29 (.int .i64 (lowB t.links x.id))) 31 (.slice (some ⟨gh.g, 0, none⟩) 1 1)) 32 (.slice AI (m + 1) cI))) _ ⟨(g1.grown hg g1.size (fun k hk => by have := above_row HK.out.2 hk; omega)), (fun h => (g2 h).grown hg (hKr _ (by omega))), (fun h => hdn.no 11 9 h rfl hu), (g4.grown hg (hKr _ (by omega))), (g5.grown hg (hKr _ (by omega))), (fun h => ⟨(gP h).1.grown hg (fun a ha => row_ne (dPK h h5 hu) ha), (gP h).2⟩), (fun _ h9 => by cases h9), (fun _ h9 => by cases h9), (fun _ => ⟨hI, hAI⟩), (fun _ _ h9 => by cases h9), (fun h2 _ => hdPI h2), (fun _ _ h9 => by cases h9), f0, f1, f2, f3, f4, (fun _ => rfl), (fun _ => rfl), f7, (fun _ => rfl), (fun _ => rfl), (fun h => hdn.no 10 9 h rfl hu)⟩
      · rintro L ⟨gh, s⟩ W hu hd hdn ⟨g1, g2, g3, g4, g5, gP, gK, gB, gI, dPK, dPI, dKB, f0, f1, f2, f3, f4, f5, f6, f7, f8, f9, f10⟩ K Q hK
        have e2 := f2 (hd.at_ 2 rfl)
        have e9 := f9 (hd.at_ 9 rfl)
        have HF := Lib.hid (show (Below w.heap.size w W) ∧ (L 11 = false → Blk W w.heap.size 25 #[.slice A n c, .slice A' m d]) ∧ (L 11 = true → Blk W w.heap.size 25 #[.slice gh.AP n gh.cP, .slice gh.AI (m + 1) gh.cI]) ∧ (Blk W (w.heap.size + 1) 45 #[.int .i64 x.id, .int .i64 x.fr, .int .i64 x.to, .int .i64 x.steps, .int .i64 x.paces]) ∧ (Blk W (w.heap.size + 1 + 1) 25 #[.slice none 0 0, .slice none 0 0]) ∧ (L 2 = true → Own W w.heap.size 3 1 gh.AP n gh.cP (t.places.map (Value.int .i64)) ∧ Above (w.heap.size + 2) gh.AP) ∧ (L 5 = true → L 9 = false → Own W w.heap.size 45 5 gh.AK m gh.cK (t.links.flatMap Link.vals) ∧ Above (w.heap.size + 2) gh.AK) ∧ (L 8 = true → L 9 = false → Blk W gh.g 45 #[.int .i64 x.id, .int .i64 x.fr, .int .i64 x.to, .int .i64 x.steps, .int .i64 x.paces] ∧ w.heap.size + 2 < gh.g) ∧ (L 9 = true → Own W w.heap.size 45 5 gh.AI (m + 1) gh.cI ((t.links.take (lowB t.links x.id) ++ x :: t.links.drop (lowB t.links x.id)).flatMap Link.vals) ∧ Above (w.heap.size + 2) gh.AI) ∧ (L 2 = true → L 5 = true → L 9 = false → Apart gh.AP gh.AK) ∧ (L 2 = true → L 9 = true → Apart gh.AP gh.AI) ∧ (L 5 = true → L 8 = true → L 9 = false → ∀ a, gh.AK = some a → gh.g ≠ a.block) ∧ (L 0 = true → s 23 = .pointer (some ⟨w.heap.size, 0, none⟩)) ∧ (L 1 = true → s 24 = .slice A n c) ∧ (L 2 = true → s 25 = .slice gh.AP n gh.cP) ∧ (L 3 = true → s 26 = .pointer (some ⟨w.heap.size, 1, none⟩)) ∧ (L 4 = true → s 27 = .slice A' m d) ∧ (L 5 = true → s 28 = .slice gh.AK m gh.cK) ∧ (L 6 = true → s 29 = .int .i64 (lowB t.links x.id)) ∧ (L 7 = true → s 30 = .agg #[.int .i64 x.id, .int .i64 x.fr, .int .i64 x.to, .int .i64 x.steps, .int .i64 x.paces]) ∧ (L 8 = true → s 31 = .slice (some ⟨gh.g, 0, none⟩) 1 1) ∧ (L 9 = true → s 32 = .slice gh.AI (m + 1) gh.cI) ∧ (L 10 = true → s 33 = .agg #[.slice gh.AP n gh.cP, .slice gh.AI (m + 1) gh.cI]) from ⟨g1, g2, g3, g4, g5, gP, gK, gB, gI, dPK, dPI, dKB, f0, f1, f2, f3, f4, f5, f6, f7, f8, f9, f10⟩)
        clear f10 f9 f8 f7 f6 f5 f4 f3 f2 f1 f0 dKB dPI dPK gI gB gK gP g5 g4 g3 g2 g1 hd
        simp only at e2 e9 ⊢
        go_wp2_with fail
        obtain ⟨g1, g2, g3, g4, g5, gP, gK, gB, gI, dPK, dPI, dKB, f0, f1, f2, f3, f4, f5, f6, f7, f8, f9, f10⟩ := HF.out
        exact hK (gh, (upd (upd (upd s 25 (.slice gh.AP n gh.cP)) 32 (.slice gh.AI (m + 1) gh.cI)) 33 (.agg #[.slice gh.AP n gh.cP, .slice gh.AI (m + 1) gh.cI]))) _ ⟨g1, g2, g3, g4, g5, gP, gK, gB, gI, dPK, dPI, dKB, f0, f1, (fun _ => rfl), f3, f4, f5, f6, f7, f8, (fun _ => rfl), (fun _ => rfl)⟩
      · rintro L ⟨gh, s⟩ W hu hd hdn ⟨g1, g2, g3, g4, g5, gP, gK, gB, gI, dPK, dPI, dKB, f0, f1, f2, f3, f4, f5, f6, f7, f8, f9, f10⟩ K Q hK
        have e10 := f10 (hd.at_ 10 rfl)
        have h1 : L 1 = true := hd.at_ 1 rfl
        have h4 : L 4 = true := hd.at_ 4 rfl
        have G2 := g2 hu
        have c0 : W.cell? ⟨w.heap.size, 0, none⟩ = some (.slice A n c) := G2.cell 0
        have c1 : W.cell? ⟨w.heap.size, 1, none⟩ = some (.slice A' m d) := G2.cell 1
        have y0 : W.frozen? ⟨w.heap.size, 0, none⟩ = false := G2.frozen 0
        have y1 : W.frozen? ⟨w.heap.size, 1, none⟩ = false := G2.frozen 1
        have HG2 := Lib.hid G2
        clear G2
        have HF := Lib.hid (show (Below w.heap.size w W) ∧ (L 11 = false → Blk W w.heap.size 25 #[.slice A n c, .slice A' m d]) ∧ (L 11 = true → Blk W w.heap.size 25 #[.slice gh.AP n gh.cP, .slice gh.AI (m + 1) gh.cI]) ∧ (Blk W (w.heap.size + 1) 45 #[.int .i64 x.id, .int .i64 x.fr, .int .i64 x.to, .int .i64 x.steps, .int .i64 x.paces]) ∧ (Blk W (w.heap.size + 1 + 1) 25 #[.slice none 0 0, .slice none 0 0]) ∧ (L 2 = true → Own W w.heap.size 3 1 gh.AP n gh.cP (t.places.map (Value.int .i64)) ∧ Above (w.heap.size + 2) gh.AP) ∧ (L 5 = true → L 9 = false → Own W w.heap.size 45 5 gh.AK m gh.cK (t.links.flatMap Link.vals) ∧ Above (w.heap.size + 2) gh.AK) ∧ (L 8 = true → L 9 = false → Blk W gh.g 45 #[.int .i64 x.id, .int .i64 x.fr, .int .i64 x.to, .int .i64 x.steps, .int .i64 x.paces] ∧ w.heap.size + 2 < gh.g) ∧ (L 9 = true → Own W w.heap.size 45 5 gh.AI (m + 1) gh.cI ((t.links.take (lowB t.links x.id) ++ x :: t.links.drop (lowB t.links x.id)).flatMap Link.vals) ∧ Above (w.heap.size + 2) gh.AI) ∧ (L 2 = true → L 5 = true → L 9 = false → Apart gh.AP gh.AK) ∧ (L 2 = true → L 9 = true → Apart gh.AP gh.AI) ∧ (L 5 = true → L 8 = true → L 9 = false → ∀ a, gh.AK = some a → gh.g ≠ a.block) ∧ (L 0 = true → s 23 = .pointer (some ⟨w.heap.size, 0, none⟩)) ∧ (L 1 = true → s 24 = .slice A n c) ∧ (L 2 = true → s 25 = .slice gh.AP n gh.cP) ∧ (L 3 = true → s 26 = .pointer (some ⟨w.heap.size, 1, none⟩)) ∧ (L 4 = true → s 27 = .slice A' m d) ∧ (L 5 = true → s 28 = .slice gh.AK m gh.cK) ∧ (L 6 = true → s 29 = .int .i64 (lowB t.links x.id)) ∧ (L 7 = true → s 30 = .agg #[.int .i64 x.id, .int .i64 x.fr, .int .i64 x.to, .int .i64 x.steps, .int .i64 x.paces]) ∧ (L 8 = true → s 31 = .slice (some ⟨gh.g, 0, none⟩) 1 1) ∧ (L 9 = true → s 32 = .slice gh.AI (m + 1) gh.cI) ∧ (L 10 = true → s 33 = .agg #[.slice gh.AP n gh.cP, .slice gh.AI (m + 1) gh.cI]) from ⟨g1, g2, g3, g4, g5, gP, gK, gB, gI, dPK, dPI, dKB, f0, f1, f2, f3, f4, f5, f6, f7, f8, f9, f10⟩)
        clear f10 f9 f8 f7 f6 f5 f4 f3 f2 f1 f0 dKB dPI dPK gI gB gK gP g5 g4 g3 g2 g1 hd
        simp only at e10 ⊢
        go_wp2_with fail
        obtain ⟨g1, g2, g3, g4, g5, gP, gK, gB, gI, dPK, dPI, dKB, f0, f1, f2, f3, f4, f5, f6, f7, f8, f9, f10⟩ := HF.out
        have hg : W.grownBy ((W.setCell ⟨w.heap.size, 0, none⟩ (.slice gh.AP n gh.cP)).setCell ⟨w.heap.size, 1, none⟩ (.slice gh.AI (m + 1) gh.cI)) (some w.heap.size) := grown_setCell (grown_setCell (grown_refl _ _) (p := ⟨w.heap.size, 0, none⟩) (.inl rfl) _) (p := ⟨w.heap.size, 1, none⟩) (.inl rfl) _
        exact hK (gh, (upd s 33 (.agg #[.slice gh.AP n gh.cP, .slice gh.AI (m + 1) gh.cI]))) _ ⟨((g1.setCell (p := ⟨w.heap.size, 0, none⟩) (Nat.le_refl _) _).setCell (p := ⟨w.heap.size, 1, none⟩) (Nat.le_refl _) _), (fun h => by cases h), (fun _ => (HG2.out.set_ 0 (.slice gh.AP n gh.cP)).set_ 1 (.slice gh.AI (m + 1) gh.cI)), (g4.grown hg (by intro e; have := Option.some.inj e; omega)), (g5.grown hg (by intro e; have := Option.some.inj e; omega)), (fun h => ⟨(gP h).1.grown hg (fun a ha => by have := (gP h).2 a ha; simp; omega), (gP h).2⟩), (fun h h9 => ⟨(gK h h9).1.grown hg (fun a ha => by have := (gK h h9).2 a ha; simp; omega), (gK h h9).2⟩), (fun h h9 => ⟨(gB h h9).1.grown hg (by have := (gB h h9).2; simp; omega), (gB h h9).2⟩), (fun h => ⟨(gI h).1.grown hg (fun a ha => by have := (gI h).2 a ha; simp; omega), (gI h).2⟩), dPK, dPI, dKB, f0, f1, f2, f3, f4, f5, f6, f7, f8, f9, (fun _ => rfl)⟩
    · rintro L ⟨gh, s⟩ W hall ⟨g1, g2, g3, g4, g5, gP, gK, gB, gI, dPK, dPI, dKB, f0, f1, f2, f3, f4, f5, f6, f7, f8, f9, f10⟩
      have G3 := g3 (hall 11 (by decide))
      have GP := gP (hall 2 (by decide))
      have GI := gI (hall 9 (by decide))
      have DPI := Lib.hid (dPI (hall 2 (by decide)) (hall 9 (by decide)))
      have ht2 : TownAt W W.heap.size gh.AP n gh.AI (m + 1) (openT t x) := ⟨ints_of_own GP.1 (Nat.le_refl _), links_of_own GI.1 (Nat.le_refl _)⟩
      have HT2 := Lib.hid ht2
      have Hl3 : Hid (t.places.length = n) := HT.out.places.len
      have Hl2 : Hid ((openT t x).links.length = m + 1) := HT2.out.links.len
      have HGP := Lib.hid GP
      have HGI := Lib.hid GI
      have HG3 := Lib.hid G3
      have HG5 := Lib.hid g5
      have HG1 := Lib.hid g1
      have hm4 : m + 1 ≤ maxLen := by unfold maxLen; omega
      have x0 := G3.cell 0
      have x1 := G3.cell 1
      clear hall g1 g2 g3 g4 g5 gP gK gB gI dPK dPI dKB f0 f1 f2 f3 f4 f5 f6 f7 f8 f9 f10 G3 GP GI ht2
      simp only
      go_wp2_with fail
      with_reducible refine (check_any gh.AP n gh.cP gh.AI (m + 1) gh.cI (openT t x) W hn1 hm4 HT2.out (HL.out.below HG1.out hl0)).mono ?_
      rintro e W3 ⟨rfl, hb3⟩
      have Z3 := HG5.out.below hb3 HG5.out.lt
      have X3 := HG3.out.below hb3 HG3.out.lt
      have B3 := HG1.out.trans (hb3.mono HG1.out.size)
      have z0 := Z3.cell 0
      have z1 := Z3.cell 1
      have q0 := Z3.frozen 0
      have q1 := Z3.frozen 1
      cases hto : townB (openT t x) with
      | false =>
        have hc2 : chk (openT t x) = 30 := by unfold chk; rw [hto]; rfl
        have HC2 := Lib.hid hto
        clear hto x0 x1
        go_wp2_with fail
        have e1 : openR t x = noTown := by unfold openR; rw [HC2.out]; simp
        have e2 : openE t x = 34 := by unfold openE; rw [HC.out, HC2.out]; rfl
        rw [e1, e2]
        exact bodyPost_ret (v := .tuple #[.agg #[.slice none 0 0, .slice none 0 0], .int .i64 34]) (by simp [results, Tryd.results19, go_sem, z0, z1]) rfl (TownErr.none_ ((B3.setCell (p := ⟨w.heap.size + 1 + 1, 0, none⟩) (by show w.heap.size ≤ w.heap.size + 1 + 1; omega) _).setCell (p := ⟨w.heap.size + 1 + 1, 1, none⟩) (by show w.heap.size ≤ w.heap.size + 1 + 1; omega) _))
      | true =>
        have hc2 : chk (openT t x) = 0 := by unfold chk; rw [hto]; rfl
        have HC2 := Lib.hid hto
        have x2 := X3.cell 0
        have x3 := X3.cell 1
        clear hto x0 x1
        go_wp2_with fail
        have e1 : openR t x = openT t x := by unfold openR; rw [HC.out, HC2.out]; rfl
        have e2 : openE t x = 0 := by unfold openE; rw [HC.out, HC2.out]; rfl
        rw [e1, e2]
        refine bodyPost_ret (v := .tuple #[.agg #[.slice gh.AP n gh.cP, .slice gh.AI (m + 1) gh.cI], .int .i64 0]) (by simp [results, Tryd.results19, go_sem, z0, z1]) rfl ?_
        have hgr := grown_setCell (grown_setCell (grown_of_below hb3 (some (w.heap.size + 1 + 1))) (p := ⟨w.heap.size + 1 + 1, 0, none⟩) (.inl rfl) (.slice gh.AP n gh.cP)) (p := ⟨w.heap.size + 1 + 1, 1, none⟩) (.inl rfl) (.slice gh.AI (m + 1) gh.cI)
        have o1 := HGP.out.1.grown hgr (fun a ha => by have := HGP.out.2 a ha; simp; omega)
        have o2 := HGI.out.1.grown hgr (fun a ha => by have := HGI.out.2 a ha; simp; omega)
        refine ⟨gh.AP, gh.cP, gh.AI, gh.cI, ?_, ?_, ?_, DPI.out, (B3.setCell (p := ⟨w.heap.size + 1 + 1, 0, none⟩) (by show w.heap.size ≤ w.heap.size + 1 + 1; omega) _).setCell (p := ⟨w.heap.size + 1 + 1, 1, none⟩) (by show w.heap.size ≤ w.heap.size + 1 + 1; omega) _⟩
        · rw [Hl2.out, show (openT t x).places.length = n from Hl3.out]
        · rw [show (openT t x).places.length = n from Hl3.out]; exact o1
        · rw [Hl2.out]; exact o2
end Go.Proofs.YtahkjagjcogeiaaDoor
