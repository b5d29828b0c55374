/- The answer's Open. -/
import Derived.Test.YtahkjagjcogeiaaDoorRfClose
namespace Go.Proofs.YtahkjagjcogeiaaDoor
open Go.RowKit
set_option linter.unusedVariables false

structure ROpenGh where
  g0 : Nat
  A1 : Option Addr
  c1 : Nat
  g9 : Nat
  A2 : Option Addr
  c2 : Nat
  A3 : Option Addr
  c3 : Nat

theorem lowB_lt {l : List Link} {id : Int} {k : Nat} (hk : k < lowB l id) : ∃ x, l[k]? = some x ∧ x.id < id := by
  unfold lowB at hk
  induction l generalizing k with
  | nil => simp at hk
  | cons y l ih =>
    by_cases hy : y.id < id
    · rw [List.takeWhile_cons_of_pos (by simpa using hy), List.length_cons] at hk
      cases k with
      | zero => exact ⟨y, rfl, hy⟩
      | succ k => exact ih (by omega)
    · rw [List.takeWhile_cons_of_neg (by simpa using hy)] at hk
      simp at hk
theorem lowB_at {l : List Link} {id : Int} {x : Link} (h : l[lowB l id]? = some x) : ¬ x.id < id := by
  unfold lowB at h
  induction l with
  | nil => simp at h
  | cons y l ih =>
    by_cases hy : y.id < id
    · rw [List.takeWhile_cons_of_pos (by simpa using hy), List.length_cons, List.getElem?_cons_succ] at h
      exact ih h
    · rw [List.takeWhile_cons_of_neg (by simpa using hy)] at h
      simp at h; subst h; exact hy

theorem Reads.none_' {w : World} {B size : Nat} (A : Option Addr) : Reads w B size A 0 [] := ⟨by simp, fun h => absurd h (by omega)⟩
def UpFrom (S : Nat) (A : Option Addr) : Prop := ∀ a, A = some a → S ≤ a.block
theorem UpFrom.ne {S : Nat} {A : Option Addr} (h : UpFrom S A) {k : Nat} (hk : k < S) : some k ≠ A.map (·.block) := by
  cases A with
  | none => simp
  | some a => have := h a rfl; simp; omega
theorem UpFrom.row {S : Nat} {A : Option Addr} (h : UpFrom S A) {k : Nat} (hk : A.map (·.block) = some k) : S ≤ k := by
  cases A with
  | none => cases hk
  | some a => have := h a rfl; simp at hk; omega
theorem slice_lo (A : Option Addr) (m d k : Nat) (hk : k ≤ d) (hm : m ≤ d) : ∃ A4, ∀ W : World, (Instr.slice 23 (.slice A m d) none (some (.int .i64 k)) none).run Tryd.prog W = .ok (.slice A4 k d) W ∧ (k = 0 ∨ A4 = A) := by
  refine ⟨if d = 0 then A else A.map (·.add (0 * 5)), fun W => ⟨?_, ?_⟩⟩
  · have h1 : (0 : Int) ≤ (k : Int) ∧ (k : Int) ≤ (d : Int) := by omega
    simp [Instr.slice, Instr.sliceBounds, Instr.sliceBound, asIntOf, run_underlying Tryd.underlying23, h1, hk, Result.andThen]
  · right
    split
    · rfl
    · cases A with
      | none => rfl
      | some a => simp [Addr.add]
theorem slice_hi (A : Option Addr) (m d k : Nat) (hk : k ≤ m) (hm : m ≤ d) : ∃ A5, ∀ W : World, (Instr.slice 23 (.slice A m d) (some (.int .i64 k)) none none).run Tryd.prog W = .ok (.slice A5 (m - k) (d - k)) W ∧ (m - k = 0 ∨ A5 = A.map (·.add (k * 5))) := by
  refine ⟨if d = k then A else A.map (·.add (k * 5)), fun W => ⟨?_, ?_⟩⟩
  · have h1 : (0 : Int) ≤ (k : Int) ∧ (k : Int) ≤ (m : Int) := by omega
    simp [Instr.slice, Instr.sliceBounds, Instr.sliceBound, asIntOf, run_underlying Tryd.underlying23, h1, hk, Result.andThen]
  · by_cases h : d = k
    · left; omega
    · right; rw [if_neg h]

/-- A part of the links, in memory. -/
theorem reads_take {w : World} {B m : Nat} {A : Option Addr} {l : List Link} (h : LinksAt w B A m l) (k : Nat) (hk : k ≤ m) : LinksAt w B A k (l.take k) := by
  have hl := h.len
  refine ⟨by rw [flat_len' vals5, List.length_take]; congr 1; omega, fun h0 => ?_⟩
  obtain ⟨ad, e, hb, hc⟩ := h.2 (by omega)
  refine ⟨ad, e, hb, fun j u hu => hc j u ?_⟩
  rw [← flat_take vals5, List.getElem?_take] at hu
  split at hu
  · exact hu
  · cases hu
theorem reads_drop {w : World} {B m b off : Nat} {l : List Link} (h : LinksAt w B (some ⟨b, off, none⟩) m l) (k : Nat) (hk : k ≤ m) : LinksAt w B (some ⟨b, off + k * 5, none⟩) (m - k) (l.drop k) := by
  have hl := h.len
  refine ⟨by rw [flat_len' vals5, List.length_drop]; congr 1; omega, fun h0 => ?_⟩
  obtain ⟨ad, e, hb, hc⟩ := h.2 (by omega)
  cases e
  refine ⟨_, rfl, hb, fun j u hu => ?_⟩
  have := hc (k * 5 + j) u (by rw [← flat_drop vals5, List.getElem?_drop] at hu; exact hu)
  rw [lit_add] at this ⊢
  rw [Nat.add_assoc]; exact this

set_option maxRecDepth 100000 in
set_option maxHeartbeats 8000000 in
theorem ropen_any (A : Option Addr) (n c : Nat) (A' : Option Addr) (m d : Nat) (t : Town) (x : Link) (w : World) (hn : n ≤ 1000) (hm : m ≤ 1000) (hmd : m ≤ d) (ht : TownAt w w.heap.size A n A' m t) :
    Calls Tryd.prog 20 #[.agg #[.slice A n c, .slice A' m d], .agg #[.int .i64 x.id, .int .i64 x.fr, .int .i64 x.to, .int .i64 x.steps, .int .i64 x.paces]] w fun e w' => TownErr w e w' (openR t x) (openE t x) := by
  have HT := Lib.hid ht
  have hn1 : n ≤ maxLen := by unfold maxLen; omega
  have hm1 : m ≤ maxLen := by unfold maxLen; omega
  have HLn := Lib.hid ht.places.len
  have HLm := Lib.hid ht.links.len
  clear ht
  go_enter Tryd.func20, Tryd.ntmps20
  go_wp2_with fail
  have X0 := ((Blk.new w 25 #[.slice A n c, .slice A' m d]).alloc (.cells #[.int .i64 x.id, .int .i64 x.fr, .int .i64 x.to, .int .i64 x.steps, .int .i64 x.paces] 45)).alloc (.cells #[.slice none 0 0, .slice none 0 0] 25)
  have Y0 := (Blk.new (w.alloc (.cells #[.slice A n c, .slice A' m d] 25)) 45 #[.int .i64 x.id, .int .i64 x.fr, .int .i64 x.to, .int .i64 x.steps, .int .i64 x.paces]).alloc (.cells #[.slice none 0 0, .slice none 0 0] 25)
  have Z0 := Blk.new ((w.alloc (.cells #[.slice A n c, .slice A' m d] 25)).alloc (.cells #[.int .i64 x.id, .int .i64 x.fr, .int .i64 x.to, .int .i64 x.steps, .int .i64 x.paces] 45)) 25 #[.slice none 0 0, .slice none 0 0]
  have B0 : Below w.heap.size w (((w.alloc (.cells #[.slice A n c, .slice A' m d] 25)).alloc (.cells #[.int .i64 x.id, .int .i64 x.fr, .int .i64 x.to, .int .i64 x.steps, .int .i64 x.paces] 45)).alloc (.cells #[.slice none 0 0, .slice none 0 0] 25)) := (((Below.refl _ _).alloc (Nat.le_refl _) _).alloc (by simp) _).alloc (by simp; omega) _
  rw [World.size_alloc] at Y0
  rw [World.size_alloc, World.size_alloc] at Z0
  generalize (((w.alloc (.cells #[.slice A n c, .slice A' m d] 25)).alloc (.cells #[.int .i64 x.id, .int .i64 x.fr, .int .i64 x.to, .int .i64 x.steps, .int .i64 x.paces] 45)).alloc (.cells #[.slice none 0 0, .slice none 0 0] 25)) = w0 at *
  with_reducible refine (rtown_any A n c A' m d t w0 hn hm ((HT.out.below B0).more B0.size)).mono ?_
  rintro e w1 ⟨rfl, hb1⟩
  replace X0 := X0.below hb1 X0.lt
  replace Y0 := Y0.below hb1 Y0.lt
  replace Z0 := Z0.below hb1 Z0.lt
  replace B0 := B0.trans (hb1.mono B0.size)
  clear hb1
  cases htb : townB t with
  | false =>
    have z0 := Z0.cell 0
    have z1 := Z0.cell 1
    have q0 := Z0.frozen 0
    have q1 := Z0.frozen 1
    have HC := Lib.hid htb
    clear htb
    go_wp2_with fail
    have e1 : openR t x = noTown := by unfold openR; rw [HC.out]; rfl
    have e2 : openE t x = 30 := by unfold openE; rw [HC.out]; rfl
    rw [e1, e2]
    exact bodyPost_ret (v := .tuple #[.agg #[.slice none 0 0, .slice none 0 0], .int .i64 30]) (by simp [results, Tryd.results20, go_sem, z0, z1]) rfl (TownErr.none_ ((B0.setCell (p := ⟨w.heap.size + 1 + 1, 0, none⟩) (by show w.heap.size ≤ w.heap.size + 1 + 1; omega) _).setCell (p := ⟨w.heap.size + 1 + 1, 1, none⟩) (by show w.heap.size ≤ w.heap.size + 1 + 1; omega) _))
  | true =>
    have hsz := townB_size htb
    have hl1 := HLm.out
    have hm3 : m ≤ 100 := by omega
    have hlow : lowB t.links x.id ≤ m := by rw [← hl1]; exact lowB_le _ _
    have HC := Lib.hid htb
    clear htb hsz hl1
    obtain ⟨at_, hat⟩ : ∃ at_, lowB t.links x.id = at_ := ⟨_, rfl⟩
    have HAt := Lib.hid hat
    rw [hat] at hlow
    clear hat
    go_wp2_with fail
    go_loopw [6] (fun vi wr => ∃ k : Nat, k ≤ at_ ∧ vi = .int .i64 k ∧ Below w1.heap.size w1 wr) (fun vi _ => at_ - (intOf vi).toNat)
    case atStart => exact ⟨0, by omega, rfl, Below.refl _ _⟩
    case round =>
      obtain ⟨k, hk, rfl, hb⟩ := hrel
      have XQ := X0.below hb X0.lt
      have YQ := Y0.below hb Y0.lt
      have ZQ := Z0.below hb Z0.lt
      have BQ := B0.trans (hb.mono B0.size)
      have x1 := XQ.cell 1
      have y0 := YQ.cell 0
      rcases Nat.lt_or_ge k at_ with hka | hka
      · obtain ⟨b, off, y, rfl, hbB, hy, hc0, hc1, hc2, hc3, hc4⟩ := (HT.out.links.below BQ).cell (show k < m by omega)
        have hlt : y.id < x.id := by
          obtain ⟨y', hy', hlt⟩ := lowB_lt (l := t.links) (id := x.id) (k := k) (by rw [HAt.out]; exact hka)
          rw [hy] at hy'
          cases hy'
          exact hlt
        have kI : (k : Int) < (m : Int) := by omega
        have k0 : (0 : Int) ≤ (k : Int) := by omega
        clear hy
        go_wp2_with fail
        go_quiet (fail)
        go_wp2_with fail
        go_roundw
        case rel => exact ⟨k + 1, by omega, by go_num, below_drewN hb _⟩
        case measure => simp [intOf]; omega
      obtain rfl : k = at_ := by omega
      have hk0 : k ≤ m := hlow
      have x0 := XQ.cell 0
      by_cases hkm : k < m
      case' pos =>
        obtain ⟨b, off, y, hA', hbB, hy, hc0, hc1, hc2, hc3, hc4⟩ := (HT.out.links.below BQ).cell hkm
        have hge : ¬ y.id < x.id := lowB_at (by rw [HAt.out]; exact hy)
        have kI : (k : Int) < (m : Int) := by omega
        have k0 : (0 : Int) ≤ (k : Int) := by omega
        subst hA'
        clear hy
        go_wp2_with fail
        go_quiet (fail)
        go_wp2_with fail
        clear hc0 hc1 hc2 hc3 hc4
        generalize (some ⟨b, off, none⟩ : Option Addr) = A0 at *
      case' neg =>
        have kI : decide ((k : Int) < (m : Int)) = false := by simp; omega
        go_wp2_with fail
        go_quiet (fail)
        go_wp2_with fail
        generalize A' = A0 at *
      all_goals
        with_reducible refine (twin_any A n c _ m d t _ hn hm ((HT.out.below (below_drewN BQ nq)).more (below_drewN BQ nq).size)).mono ?_
        rintro e w4 ⟨AP, cP, AK, cK, rfl, hP, hK, hPK, hb4⟩
        have B4 := (below_drewN BQ nq).trans (hb4.mono (below_drewN BQ nq).size)
        have X4 := (Blk.drewN XQ nq).below hb4 XQ.lt
        have Y4 := (Blk.drewN YQ nq).below hb4 YQ.lt
        have Z4 := (Blk.drewN ZQ nq).below hb4 ZQ.lt
        have P4 := hP.mono (below_drewN BQ nq).size
        have hPl : ∀ a, AP = some a → a.block < w4.heap.size := fun a ha => (hP.lt ha).2
        have hUPz : Hid (∀ a, AP = some a → w.heap.size + 1 + 1 < a.block) := fun a ha => Nat.lt_of_lt_of_le (Blk.drewN ZQ nq).lt (hP.lt ha).1
        have hz4 := Z4.lt
        rw [HLn.out] at P4
        rw [HLn.out, HLm.out]
        have HP4 := Lib.hid P4
        have HPl := Lib.hid hPl
        have HX4 := Lib.hid X4
        have HY4 := Lib.hid Y4
        have HZ4 := Lib.hid Z4
        have HB4 := Lib.hid B4
        clear hP hK hPK hb4 X4 Y4 Z4 B4 P4 hPl
        go_wp2_with fail
        have GO := Blk.new w4 25 #[.slice AP n cP, .slice AK m cK]
        have XO := HX4.out.alloc (.cells #[.slice AP n cP, .slice AK m cK] 25)
        have YO := HY4.out.alloc (.cells #[.slice AP n cP, .slice AK m cK] 25)
        have ZO := HZ4.out.alloc (.cells #[.slice AP n cP, .slice AK m cK] 25)
        have PO := HP4.out.alloc (.cells #[.slice AP n cP, .slice AK m cK] 25)
        have BO := HB4.out.alloc HB4.out.size (.cells #[.slice AP n cP, .slice AK m cK] 25)
        obtain ⟨G, hG⟩ : ∃ G, w4.heap.size = G := ⟨_, rfl⟩
        rw [hG] at GO hz4 HPl
        have hPG : Hid (∀ a, AP = some a → a.block ≠ G) := fun a ha e => by have := HPl.out a ha; omega
        generalize (w4.alloc (.cells #[.slice AP n cP, .slice AK m cK] 25)) = w5 at *
        rw [hG]
        obtain ⟨S0, hS0⟩ : ∃ S0, w5.heap.size = S0 := ⟨_, rfl⟩
        have hGS : G < S0 := by rw [← hS0]; exact GO.lt
        have hPS : Hid (∀ a, AP = some a → a.block < S0) := fun a ha => by have := HPl.out a ha; omega
        obtain ⟨A4, hs4⟩ := slice_lo A0 m d k (by omega) hmd
        obtain ⟨A5, hs5⟩ := slice_hi A0 m d k (by omega) hmd
        have hr4 := fun W => (hs4 W).1
        have hr5 := fun W => (hs5 W).1
        have HR4 : Hid (LinksAt w w.heap.size A4 k (t.links.take k)) := by
          rcases (hs4 w).2 with h | h
          · rw [h]; exact Reads.none_' _
          · rw [h]; exact reads_take HT.out.links k hk0
        have HR5 : Hid (LinksAt w w.heap.size A5 (m - k) (t.links.drop k)) := by
          by_cases hmk : m - k = 0
          · rw [hmk, List.drop_eq_nil_of_le (by have := HLm.out; omega)]; exact Reads.none_' _
          · rcases (hs5 w).2 with h | h
            · omega
            · obtain ⟨b', off', _, hA0, _⟩ := HT.out.links.cell (show k < m by omega)
              rw [h, hA0]
              have h1 := reads_drop (by rw [← hA0]; exact HT.out.links) k hk0
              show LinksAt w w.heap.size (some ((⟨b', off', none⟩ : Addr).add (k * 5))) (m - k) (t.links.drop k)
              rw [lit_add]; exact h1
        clear hs4 hs5
        refine wp_region_steps (by kernel_rfl) (by kernel_rfl) (fun σ : ROpenGh × (Nat → Value) => { tmps := #[_, _, .pointer (some ⟨w.heap.size, 0, none⟩), .pointer (some ⟨w.heap.size + 1, 0, none⟩), .pointer (some ⟨w.heap.size + 1 + 1, 0, none⟩), .int .i64 0, .int .i64 k, .pointer (some ⟨G, 0, none⟩), _, _, _, _, _, _, _, _, _, _, _, _, _, _, _, _, _, _, _, _, _, _, _, _, σ.2 32, σ.2 33, σ.2 34, σ.2 35, σ.2 36, σ.2 37, σ.2 38, σ.2 39, σ.2 40, σ.2 41, σ.2 42, σ.2 43, σ.2 44, σ.2 45, σ.2 46, _, _, _, _, _], defers := [] })
          (fun L σ W => (Below w.heap.size w W) ∧ (S0 ≤ W.heap.size) ∧ (Blk W w.heap.size 25 #[.slice A n c, .slice A0 m d]) ∧ (Blk W (w.heap.size + 1) 45 #[.int .i64 x.id, .int .i64 x.fr, .int .i64 x.to, .int .i64 x.steps, .int .i64 x.paces]) ∧ (Blk W (w.heap.size + 1 + 1) 25 #[.slice none 0 0, .slice none 0 0]) ∧ (L 15 = false → Blk W G 25 #[.slice AP n cP, .slice AK m cK]) ∧ (L 15 = true → Blk W G 25 #[.slice AP n cP, .slice σ.1.A3 (m + 1) σ.1.c3]) ∧ (Own W w.heap.size 3 1 AP n cP (t.places.map (Value.int .i64))) ∧ (L 0 = true → L 5 = false → Blk W σ.1.g0 45 #[] ∧ S0 ≤ σ.1.g0) ∧ (L 7 = true → L 8 = false → Blk W σ.1.g9 45 #[.int .i64 x.id, .int .i64 x.fr, .int .i64 x.to, .int .i64 x.steps, .int .i64 x.paces] ∧ S0 ≤ σ.1.g9) ∧ (L 5 = true → L 8 = false → Own W w.heap.size 45 5 σ.1.A1 k σ.1.c1 ((t.links.take k).flatMap Link.vals) ∧ UpFrom S0 σ.1.A1) ∧ (L 8 = true → L 13 = false → Own W w.heap.size 45 5 σ.1.A2 (k + 1) σ.1.c2 ((t.links.take k).flatMap Link.vals ++ x.vals) ∧ UpFrom S0 σ.1.A2) ∧ (L 13 = true → Own W w.heap.size 45 5 σ.1.A3 (m + 1) σ.1.c3 ((t.links.take k).flatMap Link.vals ++ (x.vals ++ (t.links.drop k).flatMap Link.vals)) ∧ UpFrom S0 σ.1.A3) ∧ (L 0 = true → L 7 = true → L 5 = false → σ.1.g0 ≠ σ.1.g9) ∧ (L 5 = true → L 7 = true → L 8 = false → ∀ a, σ.1.A1 = some a → a.block ≠ σ.1.g9) ∧ (L 0 = true → σ.2 32 = .slice (some ⟨σ.1.g0, 0, none⟩) 0 0) ∧ (L 1 = true → σ.2 33 = .pointer (some ⟨w.heap.size, 1, none⟩)) ∧ (L 2 = true → σ.2 34 = .slice A0 m d) ∧ (L 3 = true → σ.2 35 = .int .i64 k) ∧ (L 4 = true → σ.2 36 = .slice A4 k d) ∧ (L 5 = true → σ.2 37 = .slice σ.1.A1 k σ.1.c1) ∧ (L 6 = true → σ.2 38 = .agg #[.int .i64 x.id, .int .i64 x.fr, .int .i64 x.to, .int .i64 x.steps, .int .i64 x.paces]) ∧ (L 7 = true → σ.2 39 = .slice (some ⟨σ.1.g9, 0, none⟩) 1 1) ∧ (L 8 = true → σ.2 40 = .slice σ.1.A2 (k + 1) σ.1.c2) ∧ (L 9 = true → σ.2 41 = .pointer (some ⟨w.heap.size, 1, none⟩)) ∧ (L 10 = true → σ.2 42 = .slice A0 m d) ∧ (L 11 = true → σ.2 43 = .int .i64 k) ∧ (L 12 = true → σ.2 44 = .slice A5 (m - k) (d - k)) ∧ (L 13 = true → σ.2 45 = .slice σ.1.A3 (m + 1) σ.1.c3) ∧ (L 14 = true → σ.2 46 = .pointer (some ⟨G, 1, none⟩)))
          (⟨0, none, 0, 0, none, 0, none, 0⟩, fun k => undef) rfl ?_ ?_ ?_
        · exact ⟨BO.drew, Nat.le_of_eq hS0.symm, XO.drew, YO.drew, ZO.drew, fun _ => GO.drew, (fun h => by cases h), PO.drewN 1, (fun h => by cases h), (fun h => by cases h), (fun h => by cases h), (fun h => by cases h), (fun h => by cases h), (fun h => by cases h), (fun h => by cases h), (fun h => by cases h), (fun h => by cases h), (fun h => by cases h), (fun h => by cases h), (fun h => by cases h), (fun h => by cases h), (fun h => by cases h), (fun h => by cases h), (fun h => by cases h), (fun h => by cases h), (fun h => by cases h), (fun h => by cases h), (fun h => by cases h), (fun h => by cases h), (fun h => by cases h)⟩
        · refine ⟨?_, ?_, ?_, ?_, ?_, ?_, ?_, ?_, ?_, ?_, ?_, ?_, ?_, ?_, ?_, ?_, trivial⟩
          · rintro L ⟨gh, s⟩ W hu hd hdn ⟨g1, gS, g2, g3, g4, gO, gR, gP, gE, gX, gA, gB, gC, d07, d57, f0, f1, f2, f3, f4, f5, f6, f7, f8, f9, f10, f11, f12, f13, f14⟩ K Q hK
            try dsimp only at g1 gS g2 g3 g4 gO gR gP gE gX gA gB gC d07 d57 f0 f1 f2 f3 f4 f5 f6 f7 f8 f9 f10 f11 f12 f13 f14 ⊢
            have HF := Lib.hid (show (Below w.heap.size w W) ∧ (S0 ≤ W.heap.size) ∧ (Blk W w.heap.size 25 #[.slice A n c, .slice A0 m d]) ∧ (Blk W (w.heap.size + 1) 45 #[.int .i64 x.id, .int .i64 x.fr, .int .i64 x.to, .int .i64 x.steps, .int .i64 x.paces]) ∧ (Blk W (w.heap.size + 1 + 1) 25 #[.slice none 0 0, .slice none 0 0]) ∧ (L 15 = false → Blk W G 25 #[.slice AP n cP, .slice AK m cK]) ∧ (L 15 = true → Blk W G 25 #[.slice AP n cP, .slice gh.A3 (m + 1) gh.c3]) ∧ (Own W w.heap.size 3 1 AP n cP (t.places.map (Value.int .i64))) ∧ (L 0 = true → L 5 = false → Blk W gh.g0 45 #[] ∧ S0 ≤ gh.g0) ∧ (L 7 = true → L 8 = false → Blk W gh.g9 45 #[.int .i64 x.id, .int .i64 x.fr, .int .i64 x.to, .int .i64 x.steps, .int .i64 x.paces] ∧ S0 ≤ gh.g9) ∧ (L 5 = true → L 8 = false → Own W w.heap.size 45 5 gh.A1 k gh.c1 ((t.links.take k).flatMap Link.vals) ∧ UpFrom S0 gh.A1) ∧ (L 8 = true → L 13 = false → Own W w.heap.size 45 5 gh.A2 (k + 1) gh.c2 ((t.links.take k).flatMap Link.vals ++ x.vals) ∧ UpFrom S0 gh.A2) ∧ (L 13 = true → Own W w.heap.size 45 5 gh.A3 (m + 1) gh.c3 ((t.links.take k).flatMap Link.vals ++ (x.vals ++ (t.links.drop k).flatMap Link.vals)) ∧ UpFrom S0 gh.A3) ∧ (L 0 = true → L 7 = true → L 5 = false → gh.g0 ≠ gh.g9) ∧ (L 5 = true → L 7 = true → L 8 = false → ∀ a, gh.A1 = some a → a.block ≠ gh.g9) ∧ (L 0 = true → s 32 = .slice (some ⟨gh.g0, 0, none⟩) 0 0) ∧ (L 1 = true → s 33 = .pointer (some ⟨w.heap.size, 1, none⟩)) ∧ (L 2 = true → s 34 = .slice A0 m d) ∧ (L 3 = true → s 35 = .int .i64 k) ∧ (L 4 = true → s 36 = .slice A4 k d) ∧ (L 5 = true → s 37 = .slice gh.A1 k gh.c1) ∧ (L 6 = true → s 38 = .agg #[.int .i64 x.id, .int .i64 x.fr, .int .i64 x.to, .int .i64 x.steps, .int .i64 x.paces]) ∧ (L 7 = true → s 39 = .slice (some ⟨gh.g9, 0, none⟩) 1 1) ∧ (L 8 = true → s 40 = .slice gh.A2 (k + 1) gh.c2) ∧ (L 9 = true → s 41 = .pointer (some ⟨w.heap.size, 1, none⟩)) ∧ (L 10 = true → s 42 = .slice A0 m d) ∧ (L 11 = true → s 43 = .int .i64 k) ∧ (L 12 = true → s 44 = .slice A5 (m - k) (d - k)) ∧ (L 13 = true → s 45 = .slice gh.A3 (m + 1) gh.c3) ∧ (L 14 = true → s 46 = .pointer (some ⟨G, 1, none⟩)) from ⟨g1, gS, g2, g3, g4, gO, gR, gP, gE, gX, gA, gB, gC, d07, d57, f0, f1, f2, f3, f4, f5, f6, f7, f8, f9, f10, f11, f12, f13, f14⟩)
            clear f14 f13 f12 f11 f10 f9 f8 f7 f6 f5 f4 f3 f2 f1 f0 d57 d07 gC gB gA gX gE gP gR gO g4 g3 g2 gS g1 hd
            try simp only
            go_wp2_with fail
            obtain ⟨g1, gS, g2, g3, g4, gO, gR, gP, gE, gX, gA, gB, gC, d07, d57, f0, f1, f2, f3, f4, f5, f6, f7, f8, f9, f10, f11, f12, f13, f14⟩ := HF.out
            have hb : Below W.heap.size W (W.alloc (.cells #[] 45)) := (Below.refl _ _).alloc (Nat.le_refl _) _
            exact hK ({ gh with g0 := W.heap.size }, (upd s 32 (.slice (some ⟨W.heap.size, 0, none⟩) 0 0))) _ ⟨(g1.trans (hb.mono g1.size)), (Nat.le_trans gS hb.size), (g2.below hb g2.lt), (g3.below hb g3.lt), (g4.below hb g4.lt), (fun h => (gO h).below hb (gO h).lt), (fun h => (gR h).below hb (gR h).lt), (gP.below hb (Nat.le_refl _)), (fun _ _ => ⟨Blk.new W _ _, gS⟩), (fun h h3 => ⟨(gX h h3).1.below hb (gX h h3).1.lt, (gX h h3).2⟩), (fun h h3 => ⟨(gA h h3).1.below hb (Nat.le_refl _), (gA h h3).2⟩), (fun h h3 => ⟨(gB h h3).1.below hb (Nat.le_refl _), (gB h h3).2⟩), (fun h => ⟨(gC h).1.below hb (Nat.le_refl _), (gC h).2⟩), (fun _ h7 h5 => fun (e : W.heap.size = gh.g9) => by have := (gX h7 (by cases hc : L 8 with | false => rfl | true => exact hdn.no 8 5 hc rfl h5)).1.lt; omega), d57, (fun _ => rfl), f1, f2, f3, f4, f5, f6, f7, f8, f9, f10, f11, f12, f13, f14⟩
          · rintro L ⟨gh, s⟩ W hu hd hdn ⟨g1, gS, g2, g3, g4, gO, gR, gP, gE, gX, gA, gB, gC, d07, d57, f0, f1, f2, f3, f4, f5, f6, f7, f8, f9, f10, f11, f12, f13, f14⟩ K Q hK
            try dsimp only at g1 gS g2 g3 g4 gO gR gP gE gX gA gB gC d07 d57 f0 f1 f2 f3 f4 f5 f6 f7 f8 f9 f10 f11 f12 f13 f14 ⊢
            have HF := Lib.hid (show (Below w.heap.size w W) ∧ (S0 ≤ W.heap.size) ∧ (Blk W w.heap.size 25 #[.slice A n c, .slice A0 m d]) ∧ (Blk W (w.heap.size + 1) 45 #[.int .i64 x.id, .int .i64 x.fr, .int .i64 x.to, .int .i64 x.steps, .int .i64 x.paces]) ∧ (Blk W (w.heap.size + 1 + 1) 25 #[.slice none 0 0, .slice none 0 0]) ∧ (L 15 = false → Blk W G 25 #[.slice AP n cP, .slice AK m cK]) ∧ (L 15 = true → Blk W G 25 #[.slice AP n cP, .slice gh.A3 (m + 1) gh.c3]) ∧ (Own W w.heap.size 3 1 AP n cP (t.places.map (Value.int .i64))) ∧ (L 0 = true → L 5 = false → Blk W gh.g0 45 #[] ∧ S0 ≤ gh.g0) ∧ (L 7 = true → L 8 = false → Blk W gh.g9 45 #[.int .i64 x.id, .int .i64 x.fr, .int .i64 x.to, .int .i64 x.steps, .int .i64 x.paces] ∧ S0 ≤ gh.g9) ∧ (L 5 = true → L 8 = false → Own W w.heap.size 45 5 gh.A1 k gh.c1 ((t.links.take k).flatMap Link.vals) ∧ UpFrom S0 gh.A1) ∧ (L 8 = true → L 13 = false → Own W w.heap.size 45 5 gh.A2 (k + 1) gh.c2 ((t.links.take k).flatMap Link.vals ++ x.vals) ∧ UpFrom S0 gh.A2) ∧ (L 13 = true → Own W w.heap.size 45 5 gh.A3 (m + 1) gh.c3 ((t.links.take k).flatMap Link.vals ++ (x.vals ++ (t.links.drop k).flatMap Link.vals)) ∧ UpFrom S0 gh.A3) ∧ (L 0 = true → L 7 = true → L 5 = false → gh.g0 ≠ gh.g9) ∧ (L 5 = true → L 7 = true → L 8 = false → ∀ a, gh.A1 = some a → a.block ≠ gh.g9) ∧ (L 0 = true → s 32 = .slice (some ⟨gh.g0, 0, none⟩) 0 0) ∧ (L 1 = true → s 33 = .pointer (some ⟨w.heap.size, 1, none⟩)) ∧ (L 2 = true → s 34 = .slice A0 m d) ∧ (L 3 = true → s 35 = .int .i64 k) ∧ (L 4 = true → s 36 = .slice A4 k d) ∧ (L 5 = true → s 37 = .slice gh.A1 k gh.c1) ∧ (L 6 = true → s 38 = .agg #[.int .i64 x.id, .int .i64 x.fr, .int .i64 x.to, .int .i64 x.steps, .int .i64 x.paces]) ∧ (L 7 = true → s 39 = .slice (some ⟨gh.g9, 0, none⟩) 1 1) ∧ (L 8 = true → s 40 = .slice gh.A2 (k + 1) gh.c2) ∧ (L 9 = true → s 41 = .pointer (some ⟨w.heap.size, 1, none⟩)) ∧ (L 10 = true → s 42 = .slice A0 m d) ∧ (L 11 = true → s 43 = .int .i64 k) ∧ (L 12 = true → s 44 = .slice A5 (m - k) (d - k)) ∧ (L 13 = true → s 45 = .slice gh.A3 (m + 1) gh.c3) ∧ (L 14 = true → s 46 = .pointer (some ⟨G, 1, none⟩)) from ⟨g1, gS, g2, g3, g4, gO, gR, gP, gE, gX, gA, gB, gC, d07, d57, f0, f1, f2, f3, f4, f5, f6, f7, f8, f9, f10, f11, f12, f13, f14⟩)
            clear f14 f13 f12 f11 f10 f9 f8 f7 f6 f5 f4 f3 f2 f1 f0 d57 d07 gC gB gA gX gE gP gR gO g4 g3 g2 gS g1 hd
            try simp only
            go_wp2_with fail
            obtain ⟨g1, gS, g2, g3, g4, gO, gR, gP, gE, gX, gA, gB, gC, d07, d57, f0, f1, f2, f3, f4, f5, f6, f7, f8, f9, f10, f11, f12, f13, f14⟩ := HF.out
            exact hK (gh, (upd s 33 (.pointer (some ⟨w.heap.size, 1, none⟩)))) _ ⟨g1, gS, g2, g3, g4, gO, gR, gP, gE, gX, gA, gB, gC, d07, d57, f0, (fun _ => rfl), f2, f3, f4, f5, f6, f7, f8, f9, f10, f11, f12, f13, f14⟩
          · rintro L ⟨gh, s⟩ W hu hd hdn ⟨g1, gS, g2, g3, g4, gO, gR, gP, gE, gX, gA, gB, gC, d07, d57, f0, f1, f2, f3, f4, f5, f6, f7, f8, f9, f10, f11, f12, f13, f14⟩ K Q hK
            try dsimp only at g1 gS g2 g3 g4 gO gR gP gE gX gA gB gC d07 d57 f0 f1 f2 f3 f4 f5 f6 f7 f8 f9 f10 f11 f12 f13 f14 ⊢
            have e1 := f1 (hd.at_ 1 rfl)
            have c0 : W.cell? ⟨w.heap.size, 1, none⟩ = some (.slice A0 m d) := g2.cell 1
            have HF := Lib.hid (show (Below w.heap.size w W) ∧ (S0 ≤ W.heap.size) ∧ (Blk W w.heap.size 25 #[.slice A n c, .slice A0 m d]) ∧ (Blk W (w.heap.size + 1) 45 #[.int .i64 x.id, .int .i64 x.fr, .int .i64 x.to, .int .i64 x.steps, .int .i64 x.paces]) ∧ (Blk W (w.heap.size + 1 + 1) 25 #[.slice none 0 0, .slice none 0 0]) ∧ (L 15 = false → Blk W G 25 #[.slice AP n cP, .slice AK m cK]) ∧ (L 15 = true → Blk W G 25 #[.slice AP n cP, .slice gh.A3 (m + 1) gh.c3]) ∧ (Own W w.heap.size 3 1 AP n cP (t.places.map (Value.int .i64))) ∧ (L 0 = true → L 5 = false → Blk W gh.g0 45 #[] ∧ S0 ≤ gh.g0) ∧ (L 7 = true → L 8 = false → Blk W gh.g9 45 #[.int .i64 x.id, .int .i64 x.fr, .int .i64 x.to, .int .i64 x.steps, .int .i64 x.paces] ∧ S0 ≤ gh.g9) ∧ (L 5 = true → L 8 = false → Own W w.heap.size 45 5 gh.A1 k gh.c1 ((t.links.take k).flatMap Link.vals) ∧ UpFrom S0 gh.A1) ∧ (L 8 = true → L 13 = false → Own W w.heap.size 45 5 gh.A2 (k + 1) gh.c2 ((t.links.take k).flatMap Link.vals ++ x.vals) ∧ UpFrom S0 gh.A2) ∧ (L 13 = true → Own W w.heap.size 45 5 gh.A3 (m + 1) gh.c3 ((t.links.take k).flatMap Link.vals ++ (x.vals ++ (t.links.drop k).flatMap Link.vals)) ∧ UpFrom S0 gh.A3) ∧ (L 0 = true → L 7 = true → L 5 = false → gh.g0 ≠ gh.g9) ∧ (L 5 = true → L 7 = true → L 8 = false → ∀ a, gh.A1 = some a → a.block ≠ gh.g9) ∧ (L 0 = true → s 32 = .slice (some ⟨gh.g0, 0, none⟩) 0 0) ∧ (L 1 = true → s 33 = .pointer (some ⟨w.heap.size, 1, none⟩)) ∧ (L 2 = true → s 34 = .slice A0 m d) ∧ (L 3 = true → s 35 = .int .i64 k) ∧ (L 4 = true → s 36 = .slice A4 k d) ∧ (L 5 = true → s 37 = .slice gh.A1 k gh.c1) ∧ (L 6 = true → s 38 = .agg #[.int .i64 x.id, .int .i64 x.fr, .int .i64 x.to, .int .i64 x.steps, .int .i64 x.paces]) ∧ (L 7 = true → s 39 = .slice (some ⟨gh.g9, 0, none⟩) 1 1) ∧ (L 8 = true → s 40 = .slice gh.A2 (k + 1) gh.c2) ∧ (L 9 = true → s 41 = .pointer (some ⟨w.heap.size, 1, none⟩)) ∧ (L 10 = true → s 42 = .slice A0 m d) ∧ (L 11 = true → s 43 = .int .i64 k) ∧ (L 12 = true → s 44 = .slice A5 (m - k) (d - k)) ∧ (L 13 = true → s 45 = .slice gh.A3 (m + 1) gh.c3) ∧ (L 14 = true → s 46 = .pointer (some ⟨G, 1, none⟩)) from ⟨g1, gS, g2, g3, g4, gO, gR, gP, gE, gX, gA, gB, gC, d07, d57, f0, f1, f2, f3, f4, f5, f6, f7, f8, f9, f10, f11, f12, f13, f14⟩)
            clear f14 f13 f12 f11 f10 f9 f8 f7 f6 f5 f4 f3 f2 f1 f0 d57 d07 gC gB gA gX gE gP gR gO g4 g3 g2 gS g1 hd
            try simp only at e1 ⊢
            go_wp2_with fail
            obtain ⟨g1, gS, g2, g3, g4, gO, gR, gP, gE, gX, gA, gB, gC, d07, d57, f0, f1, f2, f3, f4, f5, f6, f7, f8, f9, f10, f11, f12, f13, f14⟩ := HF.out
            exact hK (gh, (upd (upd s 33 (.pointer (some ⟨w.heap.size, 1, none⟩))) 34 (.slice A0 m d))) _ ⟨g1, gS, g2, g3, g4, gO, gR, gP, gE, gX, gA, gB, gC, d07, d57, f0, (fun _ => rfl), (fun _ => rfl), f3, f4, f5, f6, f7, f8, f9, f10, f11, f12, f13, f14⟩
          · rintro L ⟨gh, s⟩ W hu hd hdn ⟨g1, gS, g2, g3, g4, gO, gR, gP, gE, gX, gA, gB, gC, d07, d57, f0, f1, f2, f3, f4, f5, f6, f7, f8, f9, f10, f11, f12, f13, f14⟩ K Q hK
            try dsimp only at g1 gS g2 g3 g4 gO gR gP gE gX gA gB gC d07 d57 f0 f1 f2 f3 f4 f5 f6 f7 f8 f9 f10 f11 f12 f13 f14 ⊢
            have HF := Lib.hid (show (Below w.heap.size w W) ∧ (S0 ≤ W.heap.size) ∧ (Blk W w.heap.size 25 #[.slice A n c, .slice A0 m d]) ∧ (Blk W (w.heap.size + 1) 45 #[.int .i64 x.id, .int .i64 x.fr, .int .i64 x.to, .int .i64 x.steps, .int .i64 x.paces]) ∧ (Blk W (w.heap.size + 1 + 1) 25 #[.slice none 0 0, .slice none 0 0]) ∧ (L 15 = false → Blk W G 25 #[.slice AP n cP, .slice AK m cK]) ∧ (L 15 = true → Blk W G 25 #[.slice AP n cP, .slice gh.A3 (m + 1) gh.c3]) ∧ (Own W w.heap.size 3 1 AP n cP (t.places.map (Value.int .i64))) ∧ (L 0 = true → L 5 = false → Blk W gh.g0 45 #[] ∧ S0 ≤ gh.g0) ∧ (L 7 = true → L 8 = false → Blk W gh.g9 45 #[.int .i64 x.id, .int .i64 x.fr, .int .i64 x.to, .int .i64 x.steps, .int .i64 x.paces] ∧ S0 ≤ gh.g9) ∧ (L 5 = true → L 8 = false → Own W w.heap.size 45 5 gh.A1 k gh.c1 ((t.links.take k).flatMap Link.vals) ∧ UpFrom S0 gh.A1) ∧ (L 8 = true → L 13 = false → Own W w.heap.size 45 5 gh.A2 (k + 1) gh.c2 ((t.links.take k).flatMap Link.vals ++ x.vals) ∧ UpFrom S0 gh.A2) ∧ (L 13 = true → Own W w.heap.size 45 5 gh.A3 (m + 1) gh.c3 ((t.links.take k).flatMap Link.vals ++ (x.vals ++ (t.links.drop k).flatMap Link.vals)) ∧ UpFrom S0 gh.A3) ∧ (L 0 = true → L 7 = true → L 5 = false → gh.g0 ≠ gh.g9) ∧ (L 5 = true → L 7 = true → L 8 = false → ∀ a, gh.A1 = some a → a.block ≠ gh.g9) ∧ (L 0 = true → s 32 = .slice (some ⟨gh.g0, 0, none⟩) 0 0) ∧ (L 1 = true → s 33 = .pointer (some ⟨w.heap.size, 1, none⟩)) ∧ (L 2 = true → s 34 = .slice A0 m d) ∧ (L 3 = true → s 35 = .int .i64 k) ∧ (L 4 = true → s 36 = .slice A4 k d) ∧ (L 5 = true → s 37 = .slice gh.A1 k gh.c1) ∧ (L 6 = true → s 38 = .agg #[.int .i64 x.id, .int .i64 x.fr, .int .i64 x.to, .int .i64 x.steps, .int .i64 x.paces]) ∧ (L 7 = true → s 39 = .slice (some ⟨gh.g9, 0, none⟩) 1 1) ∧ (L 8 = true → s 40 = .slice gh.A2 (k + 1) gh.c2) ∧ (L 9 = true → s 41 = .pointer (some ⟨w.heap.size, 1, none⟩)) ∧ (L 10 = true → s 42 = .slice A0 m d) ∧ (L 11 = true → s 43 = .int .i64 k) ∧ (L 12 = true → s 44 = .slice A5 (m - k) (d - k)) ∧ (L 13 = true → s 45 = .slice gh.A3 (m + 1) gh.c3) ∧ (L 14 = true → s 46 = .pointer (some ⟨G, 1, none⟩)) from ⟨g1, gS, g2, g3, g4, gO, gR, gP, gE, gX, gA, gB, gC, d07, d57, f0, f1, f2, f3, f4, f5, f6, f7, f8, f9, f10, f11, f12, f13, f14⟩)
            clear f14 f13 f12 f11 f10 f9 f8 f7 f6 f5 f4 f3 f2 f1 f0 d57 d07 gC gB gA gX gE gP gR gO g4 g3 g2 gS g1 hd
            try simp only
            go_wp2_with fail
            obtain ⟨g1, gS, g2, g3, g4, gO, gR, gP, gE, gX, gA, gB, gC, d07, d57, f0, f1, f2, f3, f4, f5, f6, f7, f8, f9, f10, f11, f12, f13, f14⟩ := HF.out
            exact hK (gh, (upd s 35 (.int .i64 k))) _ ⟨g1, gS, g2, g3, g4, gO, gR, gP, gE, gX, gA, gB, gC, d07, d57, f0, f1, f2, (fun _ => rfl), f4, f5, f6, f7, f8, f9, f10, f11, f12, f13, f14⟩
          · rintro L ⟨gh, s⟩ W hu hd hdn ⟨g1, gS, g2, g3, g4, gO, gR, gP, gE, gX, gA, gB, gC, d07, d57, f0, f1, f2, f3, f4, f5, f6, f7, f8, f9, f10, f11, f12, f13, f14⟩ K Q hK
            try dsimp only at g1 gS g2 g3 g4 gO gR gP gE gX gA gB gC d07 d57 f0 f1 f2 f3 f4 f5 f6 f7 f8 f9 f10 f11 f12 f13 f14 ⊢
            have e2 := f2 (hd.at_ 2 rfl)
            have e3 := f3 (hd.at_ 3 rfl)
            have HF := Lib.hid (show (Below w.heap.size w W) ∧ (S0 ≤ W.heap.size) ∧ (Blk W w.heap.size 25 #[.slice A n c, .slice A0 m d]) ∧ (Blk W (w.heap.size + 1) 45 #[.int .i64 x.id, .int .i64 x.fr, .int .i64 x.to, .int .i64 x.steps, .int .i64 x.paces]) ∧ (Blk W (w.heap.size + 1 + 1) 25 #[.slice none 0 0, .slice none 0 0]) ∧ (L 15 = false → Blk W G 25 #[.slice AP n cP, .slice AK m cK]) ∧ (L 15 = true → Blk W G 25 #[.slice AP n cP, .slice gh.A3 (m + 1) gh.c3]) ∧ (Own W w.heap.size 3 1 AP n cP (t.places.map (Value.int .i64))) ∧ (L 0 = true → L 5 = false → Blk W gh.g0 45 #[] ∧ S0 ≤ gh.g0) ∧ (L 7 = true → L 8 = false → Blk W gh.g9 45 #[.int .i64 x.id, .int .i64 x.fr, .int .i64 x.to, .int .i64 x.steps, .int .i64 x.paces] ∧ S0 ≤ gh.g9) ∧ (L 5 = true → L 8 = false → Own W w.heap.size 45 5 gh.A1 k gh.c1 ((t.links.take k).flatMap Link.vals) ∧ UpFrom S0 gh.A1) ∧ (L 8 = true → L 13 = false → Own W w.heap.size 45 5 gh.A2 (k + 1) gh.c2 ((t.links.take k).flatMap Link.vals ++ x.vals) ∧ UpFrom S0 gh.A2) ∧ (L 13 = true → Own W w.heap.size 45 5 gh.A3 (m + 1) gh.c3 ((t.links.take k).flatMap Link.vals ++ (x.vals ++ (t.links.drop k).flatMap Link.vals)) ∧ UpFrom S0 gh.A3) ∧ (L 0 = true → L 7 = true → L 5 = false → gh.g0 ≠ gh.g9) ∧ (L 5 = true → L 7 = true → L 8 = false → ∀ a, gh.A1 = some a → a.block ≠ gh.g9) ∧ (L 0 = true → s 32 = .slice (some ⟨gh.g0, 0, none⟩) 0 0) ∧ (L 1 = true → s 33 = .pointer (some ⟨w.heap.size, 1, none⟩)) ∧ (L 2 = true → s 34 = .slice A0 m d) ∧ (L 3 = true → s 35 = .int .i64 k) ∧ (L 4 = true → s 36 = .slice A4 k d) ∧ (L 5 = true → s 37 = .slice gh.A1 k gh.c1) ∧ (L 6 = true → s 38 = .agg #[.int .i64 x.id, .int .i64 x.fr, .int .i64 x.to, .int .i64 x.steps, .int .i64 x.paces]) ∧ (L 7 = true → s 39 = .slice (some ⟨gh.g9, 0, none⟩) 1 1) ∧ (L 8 = true → s 40 = .slice gh.A2 (k + 1) gh.c2) ∧ (L 9 = true → s 41 = .pointer (some ⟨w.heap.size, 1, none⟩)) ∧ (L 10 = true → s 42 = .slice A0 m d) ∧ (L 11 = true → s 43 = .int .i64 k) ∧ (L 12 = true → s 44 = .slice A5 (m - k) (d - k)) ∧ (L 13 = true → s 45 = .slice gh.A3 (m + 1) gh.c3) ∧ (L 14 = true → s 46 = .pointer (some ⟨G, 1, none⟩)) from ⟨g1, gS, g2, g3, g4, gO, gR, gP, gE, gX, gA, gB, gC, d07, d57, f0, f1, f2, f3, f4, f5, f6, f7, f8, f9, f10, f11, f12, f13, f14⟩)
            clear f14 f13 f12 f11 f10 f9 f8 f7 f6 f5 f4 f3 f2 f1 f0 d57 d07 gC gB gA gX gE gP gR gO g4 g3 g2 gS g1 hd
            try simp only at e2 e3 ⊢
            go_wp2_with fail
            obtain ⟨g1, gS, g2, g3, g4, gO, gR, gP, gE, gX, gA, gB, gC, d07, d57, f0, f1, f2, f3, f4, f5, f6, f7, f8, f9, f10, f11, f12, f13, f14⟩ := HF.out
            exact hK (gh, (upd (upd (upd s 34 (.slice A0 m d)) 35 (.int .i64 k)) 36 (.slice A4 k d))) _ ⟨g1, gS, g2, g3, g4, gO, gR, gP, gE, gX, gA, gB, gC, d07, d57, f0, f1, (fun _ => rfl), (fun _ => rfl), (fun _ => rfl), f5, f6, f7, f8, f9, f10, f11, f12, f13, f14⟩
          · rintro L ⟨gh, s⟩ W hu hd hdn ⟨g1, gS, g2, g3, g4, gO, gR, gP, gE, gX, gA, gB, gC, d07, d57, f0, f1, f2, f3, f4, f5, f6, f7, f8, f9, f10, f11, f12, f13, f14⟩ K Q hK
            try dsimp only at g1 gS g2 g3 g4 gO gR gP gE gX gA gB gC d07 d57 f0 f1 f2 f3 f4 f5 f6 f7 f8 f9 f10 f11 f12 f13 f14 ⊢
            have e0 := f0 (hd.at_ 0 rfl)
            have e4 := f4 (hd.at_ 4 rfl)
            have HE := Lib.hid (gE (hd.at_ 0 rfl) hu)
            have HI : Hid (LinksAt W W.heap.size A4 k (t.links.take k)) := (HR4.out.below g1).more g1.size
            have HO : Hid (Own W w.heap.size 45 5 (some ⟨gh.g0, 0, none⟩) 0 0 []) := Own.mk_ (by have := HE.out.2; omega) HE.out.1 (Nat.le_refl _) (Nat.zero_le _) rfl rfl (fun k hk => by omega)
            have HG1 := Lib.hid g1
            have h0 : L 0 = true := hd.at_ 0 rfl
            have h8 : L 8 = false := by
              cases hc : L 8 with
              | false => rfl
              | true => exact hdn.no 8 5 hc rfl hu
            have HF := Lib.hid (show (Below w.heap.size w W) ∧ (S0 ≤ W.heap.size) ∧ (Blk W w.heap.size 25 #[.slice A n c, .slice A0 m d]) ∧ (Blk W (w.heap.size + 1) 45 #[.int .i64 x.id, .int .i64 x.fr, .int .i64 x.to, .int .i64 x.steps, .int .i64 x.paces]) ∧ (Blk W (w.heap.size + 1 + 1) 25 #[.slice none 0 0, .slice none 0 0]) ∧ (L 15 = false → Blk W G 25 #[.slice AP n cP, .slice AK m cK]) ∧ (L 15 = true → Blk W G 25 #[.slice AP n cP, .slice gh.A3 (m + 1) gh.c3]) ∧ (Own W w.heap.size 3 1 AP n cP (t.places.map (Value.int .i64))) ∧ (L 0 = true → L 5 = false → Blk W gh.g0 45 #[] ∧ S0 ≤ gh.g0) ∧ (L 7 = true → L 8 = false → Blk W gh.g9 45 #[.int .i64 x.id, .int .i64 x.fr, .int .i64 x.to, .int .i64 x.steps, .int .i64 x.paces] ∧ S0 ≤ gh.g9) ∧ (L 5 = true → L 8 = false → Own W w.heap.size 45 5 gh.A1 k gh.c1 ((t.links.take k).flatMap Link.vals) ∧ UpFrom S0 gh.A1) ∧ (L 8 = true → L 13 = false → Own W w.heap.size 45 5 gh.A2 (k + 1) gh.c2 ((t.links.take k).flatMap Link.vals ++ x.vals) ∧ UpFrom S0 gh.A2) ∧ (L 13 = true → Own W w.heap.size 45 5 gh.A3 (m + 1) gh.c3 ((t.links.take k).flatMap Link.vals ++ (x.vals ++ (t.links.drop k).flatMap Link.vals)) ∧ UpFrom S0 gh.A3) ∧ (L 0 = true → L 7 = true → L 5 = false → gh.g0 ≠ gh.g9) ∧ (L 5 = true → L 7 = true → L 8 = false → ∀ a, gh.A1 = some a → a.block ≠ gh.g9) ∧ (L 0 = true → s 32 = .slice (some ⟨gh.g0, 0, none⟩) 0 0) ∧ (L 1 = true → s 33 = .pointer (some ⟨w.heap.size, 1, none⟩)) ∧ (L 2 = true → s 34 = .slice A0 m d) ∧ (L 3 = true → s 35 = .int .i64 k) ∧ (L 4 = true → s 36 = .slice A4 k d) ∧ (L 5 = true → s 37 = .slice gh.A1 k gh.c1) ∧ (L 6 = true → s 38 = .agg #[.int .i64 x.id, .int .i64 x.fr, .int .i64 x.to, .int .i64 x.steps, .int .i64 x.paces]) ∧ (L 7 = true → s 39 = .slice (some ⟨gh.g9, 0, none⟩) 1 1) ∧ (L 8 = true → s 40 = .slice gh.A2 (k + 1) gh.c2) ∧ (L 9 = true → s 41 = .pointer (some ⟨w.heap.size, 1, none⟩)) ∧ (L 10 = true → s 42 = .slice A0 m d) ∧ (L 11 = true → s 43 = .int .i64 k) ∧ (L 12 = true → s 44 = .slice A5 (m - k) (d - k)) ∧ (L 13 = true → s 45 = .slice gh.A3 (m + 1) gh.c3) ∧ (L 14 = true → s 46 = .pointer (some ⟨G, 1, none⟩)) from ⟨g1, gS, g2, g3, g4, gO, gR, gP, gE, gX, gA, gB, gC, d07, d57, f0, f1, f2, f3, f4, f5, f6, f7, f8, f9, f10, f11, f12, f13, f14⟩)
            clear f14 f13 f12 f11 f10 f9 f8 f7 f6 f5 f4 f3 f2 f1 f0 d57 d07 gC gB gA gX gE gP gR gO g4 g3 g2 gS g1 hd
            try simp only at e0 e4 ⊢
            go_wp2_with (at_builtin; refine wpList_append_any _ rfl _ _ rfl elem_link e0 HO.out e4 HI.out (links_one _) (by unfold maxLen; omega) (by omega) HG1.out.size ?_)
            rintro A1 c1 W1 hown hg hA
            have hg : W.grownBy W1 (some gh.g0) := hg
            go_wp2_with fail
            obtain ⟨g1, gS, g2, g3, g4, gO, gR, gP, gE, gX, gA, gB, gC, d07, d57, f0, f1, f2, f3, f4, f5, f6, f7, f8, f9, f10, f11, f12, f13, f14⟩ := HF.out
            have hg0 := HE.out.2
            have hr : ∀ k, k < S0 → some k ≠ some gh.g0 := fun k hk e => by have := Option.some.inj e; omega
            have hrB : ∀ k, some gh.g0 = some k → w.heap.size ≤ k := fun k hk => by have := Option.some.inj hk; omega
            have hUp : UpFrom S0 A1 := fun a ha => by
              rcases hA with h | h
              · rw [h] at ha; cases ha; exact hg0
              · rw [h] at ha; cases ha; exact gS
            exact hK ({ gh with A1 := A1, c1 := c1 }, (upd (upd (upd s 32 (.slice (some ⟨gh.g0, 0, none⟩) 0 0)) 36 (.slice A4 k d)) 37 (.slice A1 k c1))) _ ⟨(g1.grown hg g1.size hrB), (Nat.le_trans gS hg.size), (g2.grown hg (hr _ (by omega))), (g3.grown hg (hr _ (by omega))), (g4.grown hg (hr _ (by omega))), (fun h => (gO h).grown hg (hr _ hGS)), (fun h => hdn.no 15 5 h rfl hu), (gP.grown hg (fun a ha => hr _ (hPS.out a ha))), (fun _ h => by cases h), (fun h h8 => ⟨(gX h h8).1.grown hg (by intro e; exact d07 h0 h hu (Option.some.inj e).symm), (gX h h8).2⟩), (fun _ _ => ⟨by simpa using hown, hUp⟩), (fun h => hdn.no 8 5 h rfl hu), (fun h => hdn.no 13 8 h rfl h8), (fun _ _ h => by cases h), (fun _ h7 h8 a ha => by
            rcases hA with h | h
            · rw [h] at ha; cases ha; exact d07 h0 h7 hu
            · rw [h] at ha; cases ha; exact fun e => by have := (gX h7 h8).1.lt; simp at e; omega), (fun _ => rfl), f1, f2, f3, (fun _ => rfl), (fun _ => rfl), f6, f7, (fun h => hdn.no 8 5 h rfl hu), f9, f10, f11, f12, f13, f14⟩
          · rintro L ⟨gh, s⟩ W hu hd hdn ⟨g1, gS, g2, g3, g4, gO, gR, gP, gE, gX, gA, gB, gC, d07, d57, f0, f1, f2, f3, f4, f5, f6, f7, f8, f9, f10, f11, f12, f13, f14⟩ K Q hK
            try dsimp only at g1 gS g2 g3 g4 gO gR gP gE gX gA gB gC d07 d57 f0 f1 f2 f3 f4 f5 f6 f7 f8 f9 f10 f11 f12 f13 f14 ⊢
            have c0 : W.cell? ⟨w.heap.size + 1, 0, none⟩ = some (.int .i64 x.id) := g3.cell 0
            have c1 : W.cell? ⟨w.heap.size + 1, 1, none⟩ = some (.int .i64 x.fr) := g3.cell 1
            have c2 : W.cell? ⟨w.heap.size + 1, 2, none⟩ = some (.int .i64 x.to) := g3.cell 2
            have c3 : W.cell? ⟨w.heap.size + 1, 3, none⟩ = some (.int .i64 x.steps) := g3.cell 3
            have c4 : W.cell? ⟨w.heap.size + 1, 4, none⟩ = some (.int .i64 x.paces) := g3.cell 4
            have HF := Lib.hid (show (Below w.heap.size w W) ∧ (S0 ≤ W.heap.size) ∧ (Blk W w.heap.size 25 #[.slice A n c, .slice A0 m d]) ∧ (Blk W (w.heap.size + 1) 45 #[.int .i64 x.id, .int .i64 x.fr, .int .i64 x.to, .int .i64 x.steps, .int .i64 x.paces]) ∧ (Blk W (w.heap.size + 1 + 1) 25 #[.slice none 0 0, .slice none 0 0]) ∧ (L 15 = false → Blk W G 25 #[.slice AP n cP, .slice AK m cK]) ∧ (L 15 = true → Blk W G 25 #[.slice AP n cP, .slice gh.A3 (m + 1) gh.c3]) ∧ (Own W w.heap.size 3 1 AP n cP (t.places.map (Value.int .i64))) ∧ (L 0 = true → L 5 = false → Blk W gh.g0 45 #[] ∧ S0 ≤ gh.g0) ∧ (L 7 = true → L 8 = false → Blk W gh.g9 45 #[.int .i64 x.id, .int .i64 x.fr, .int .i64 x.to, .int .i64 x.steps, .int .i64 x.paces] ∧ S0 ≤ gh.g9) ∧ (L 5 = true → L 8 = false → Own W w.heap.size 45 5 gh.A1 k gh.c1 ((t.links.take k).flatMap Link.vals) ∧ UpFrom S0 gh.A1) ∧ (L 8 = true → L 13 = false → Own W w.heap.size 45 5 gh.A2 (k + 1) gh.c2 ((t.links.take k).flatMap Link.vals ++ x.vals) ∧ UpFrom S0 gh.A2) ∧ (L 13 = true → Own W w.heap.size 45 5 gh.A3 (m + 1) gh.c3 ((t.links.take k).flatMap Link.vals ++ (x.vals ++ (t.links.drop k).flatMap Link.vals)) ∧ UpFrom S0 gh.A3) ∧ (L 0 = true → L 7 = true → L 5 = false → gh.g0 ≠ gh.g9) ∧ (L 5 = true → L 7 = true → L 8 = false → ∀ a, gh.A1 = some a → a.block ≠ gh.g9) ∧ (L 0 = true → s 32 = .slice (some ⟨gh.g0, 0, none⟩) 0 0) ∧ (L 1 = true → s 33 = .pointer (some ⟨w.heap.size, 1, none⟩)) ∧ (L 2 = true → s 34 = .slice A0 m d) ∧ (L 3 = true → s 35 = .int .i64 k) ∧ (L 4 = true → s 36 = .slice A4 k d) ∧ (L 5 = true → s 37 = .slice gh.A1 k gh.c1) ∧ (L 6 = true → s 38 = .agg #[.int .i64 x.id, .int .i64 x.fr, .int .i64 x.to, .int .i64 x.steps, .int .i64 x.paces]) ∧ (L 7 = true → s 39 = .slice (some ⟨gh.g9, 0, none⟩) 1 1) ∧ (L 8 = true → s 40 = .slice gh.A2 (k + 1) gh.c2) ∧ (L 9 = true → s 41 = .pointer (some ⟨w.heap.size, 1, none⟩)) ∧ (L 10 = true → s 42 = .slice A0 m d) ∧ (L 11 = true → s 43 = .int .i64 k) ∧ (L 12 = true → s 44 = .slice A5 (m - k) (d - k)) ∧ (L 13 = true → s 45 = .slice gh.A3 (m + 1) gh.c3) ∧ (L 14 = true → s 46 = .pointer (some ⟨G, 1, none⟩)) from ⟨g1, gS, g2, g3, g4, gO, gR, gP, gE, gX, gA, gB, gC, d07, d57, f0, f1, f2, f3, f4, f5, f6, f7, f8, f9, f10, f11, f12, f13, f14⟩)
            clear f14 f13 f12 f11 f10 f9 f8 f7 f6 f5 f4 f3 f2 f1 f0 d57 d07 gC gB gA gX gE gP gR gO g4 g3 g2 gS g1 hd
            try simp only
            go_wp2_with fail
            obtain ⟨g1, gS, g2, g3, g4, gO, gR, gP, gE, gX, gA, gB, gC, d07, d57, f0, f1, f2, f3, f4, f5, f6, f7, f8, f9, f10, f11, f12, f13, f14⟩ := HF.out
            exact hK (gh, (upd s 38 (.agg #[.int .i64 x.id, .int .i64 x.fr, .int .i64 x.to, .int .i64 x.steps, .int .i64 x.paces]))) _ ⟨g1, gS, g2, g3, g4, gO, gR, gP, gE, gX, gA, gB, gC, d07, d57, f0, f1, f2, f3, f4, f5, (fun _ => rfl), f7, f8, f9, f10, f11, f12, f13, f14⟩
          · rintro L ⟨gh, s⟩ W hu hd hdn ⟨g1, gS, g2, g3, g4, gO, gR, gP, gE, gX, gA, gB, gC, d07, d57, f0, f1, f2, f3, f4, f5, f6, f7, f8, f9, f10, f11, f12, f13, f14⟩ K Q hK
            try dsimp only at g1 gS g2 g3 g4 gO gR gP gE gX gA gB gC d07 d57 f0 f1 f2 f3 f4 f5 f6 f7 f8 f9 f10 f11 f12 f13 f14 ⊢
            have e6 := f6 (hd.at_ 6 rfl)
            have HF := Lib.hid (show (Below w.heap.size w W) ∧ (S0 ≤ W.heap.size) ∧ (Blk W w.heap.size 25 #[.slice A n c, .slice A0 m d]) ∧ (Blk W (w.heap.size + 1) 45 #[.int .i64 x.id, .int .i64 x.fr, .int .i64 x.to, .int .i64 x.steps, .int .i64 x.paces]) ∧ (Blk W (w.heap.size + 1 + 1) 25 #[.slice none 0 0, .slice none 0 0]) ∧ (L 15 = false → Blk W G 25 #[.slice AP n cP, .slice AK m cK]) ∧ (L 15 = true → Blk W G 25 #[.slice AP n cP, .slice gh.A3 (m + 1) gh.c3]) ∧ (Own W w.heap.size 3 1 AP n cP (t.places.map (Value.int .i64))) ∧ (L 0 = true → L 5 = false → Blk W gh.g0 45 #[] ∧ S0 ≤ gh.g0) ∧ (L 7 = true → L 8 = false → Blk W gh.g9 45 #[.int .i64 x.id, .int .i64 x.fr, .int .i64 x.to, .int .i64 x.steps, .int .i64 x.paces] ∧ S0 ≤ gh.g9) ∧ (L 5 = true → L 8 = false → Own W w.heap.size 45 5 gh.A1 k gh.c1 ((t.links.take k).flatMap Link.vals) ∧ UpFrom S0 gh.A1) ∧ (L 8 = true → L 13 = false → Own W w.heap.size 45 5 gh.A2 (k + 1) gh.c2 ((t.links.take k).flatMap Link.vals ++ x.vals) ∧ UpFrom S0 gh.A2) ∧ (L 13 = true → Own W w.heap.size 45 5 gh.A3 (m + 1) gh.c3 ((t.links.take k).flatMap Link.vals ++ (x.vals ++ (t.links.drop k).flatMap Link.vals)) ∧ UpFrom S0 gh.A3) ∧ (L 0 = true → L 7 = true → L 5 = false → gh.g0 ≠ gh.g9) ∧ (L 5 = true → L 7 = true → L 8 = false → ∀ a, gh.A1 = some a → a.block ≠ gh.g9) ∧ (L 0 = true → s 32 = .slice (some ⟨gh.g0, 0, none⟩) 0 0) ∧ (L 1 = true → s 33 = .pointer (some ⟨w.heap.size, 1, none⟩)) ∧ (L 2 = true → s 34 = .slice A0 m d) ∧ (L 3 = true → s 35 = .int .i64 k) ∧ (L 4 = true → s 36 = .slice A4 k d) ∧ (L 5 = true → s 37 = .slice gh.A1 k gh.c1) ∧ (L 6 = true → s 38 = .agg #[.int .i64 x.id, .int .i64 x.fr, .int .i64 x.to, .int .i64 x.steps, .int .i64 x.paces]) ∧ (L 7 = true → s 39 = .slice (some ⟨gh.g9, 0, none⟩) 1 1) ∧ (L 8 = true → s 40 = .slice gh.A2 (k + 1) gh.c2) ∧ (L 9 = true → s 41 = .pointer (some ⟨w.heap.size, 1, none⟩)) ∧ (L 10 = true → s 42 = .slice A0 m d) ∧ (L 11 = true → s 43 = .int .i64 k) ∧ (L 12 = true → s 44 = .slice A5 (m - k) (d - k)) ∧ (L 13 = true → s 45 = .slice gh.A3 (m + 1) gh.c3) ∧ (L 14 = true → s 46 = .pointer (some ⟨G, 1, none⟩)) from ⟨g1, gS, g2, g3, g4, gO, gR, gP, gE, gX, gA, gB, gC, d07, d57, f0, f1, f2, f3, f4, f5, f6, f7, f8, f9, f10, f11, f12, f13, f14⟩)
            clear f14 f13 f12 f11 f10 f9 f8 f7 f6 f5 f4 f3 f2 f1 f0 d57 d07 gC gB gA gX gE gP gR gO g4 g3 g2 gS g1 hd
            try simp only at e6 ⊢
            go_wp2_with fail
            obtain ⟨g1, gS, g2, g3, g4, gO, gR, gP, gE, gX, gA, gB, gC, d07, d57, f0, f1, f2, f3, f4, f5, f6, f7, f8, f9, f10, f11, f12, f13, f14⟩ := HF.out
            have hb : Below W.heap.size W (W.alloc (.cells #[.int .i64 x.id, .int .i64 x.fr, .int .i64 x.to, .int .i64 x.steps, .int .i64 x.paces] 45)) := (Below.refl _ _).alloc (Nat.le_refl _) _
            exact hK ({ gh with g9 := W.heap.size }, (upd (upd s 38 (.agg #[.int .i64 x.id, .int .i64 x.fr, .int .i64 x.to, .int .i64 x.steps, .int .i64 x.paces])) 39 (.slice (some ⟨W.heap.size, 0, none⟩) 1 1))) _ ⟨(g1.trans (hb.mono g1.size)), (Nat.le_trans gS hb.size), (g2.below hb g2.lt), (g3.below hb g3.lt), (g4.below hb g4.lt), (fun h => (gO h).below hb (gO h).lt), (fun h => (gR h).below hb (gR h).lt), (gP.below hb (Nat.le_refl _)), (fun h h3 => ⟨(gE h h3).1.below hb (gE h h3).1.lt, (gE h h3).2⟩), (fun _ _ => ⟨Blk.new W _ _, gS⟩), (fun h h3 => ⟨(gA h h3).1.below hb (Nat.le_refl _), (gA h h3).2⟩), (fun h h3 => ⟨(gB h h3).1.below hb (Nat.le_refl _), (gB h h3).2⟩), (fun h => ⟨(gC h).1.below hb (Nat.le_refl _), (gC h).2⟩), (fun h0 _ h5 => fun (e : gh.g0 = W.heap.size) => by have := (gE h0 h5).1.lt; omega), (fun h5 _ h8 a ha => fun (e : a.block = W.heap.size) => by have := ((gA h5 h8).1.lt ha).2; omega), f0, f1, f2, f3, f4, f5, (fun _ => rfl), (fun _ => rfl), f8, f9, f10, f11, f12, f13, f14⟩
          · rintro L ⟨gh, s⟩ W hu hd hdn ⟨g1, gS, g2, g3, g4, gO, gR, gP, gE, gX, gA, gB, gC, d07, d57, f0, f1, f2, f3, f4, f5, f6, f7, f8, f9, f10, f11, f12, f13, f14⟩ K Q hK
            try dsimp only at g1 gS g2 g3 g4 gO gR gP gE gX gA gB gC d07 d57 f0 f1 f2 f3 f4 f5 f6 f7 f8 f9 f10 f11 f12 f13 f14 ⊢
            have e5 := f5 (hd.at_ 5 rfl)
            have e7 := f7 (hd.at_ 7 rfl)
            have HE := Lib.hid (gA (hd.at_ 5 rfl) hu)
            have HX := Lib.hid (gX (hd.at_ 7 rfl) hu)
            have HI : Hid (Reads W (gh.g9 + 1) 5 (some ⟨gh.g9, 0, none⟩) 1 x.vals) := one_link HX.out.1 (Nat.lt_succ_self _)
            have HG1 := Lib.hid g1
            have h5 : L 5 = true := hd.at_ 5 rfl
            have h13 : L 13 = false := by
              cases hc : L 13 with
              | false => rfl
              | true => exact hdn.no 13 8 hc rfl hu
            have HF := Lib.hid (show (Below w.heap.size w W) ∧ (S0 ≤ W.heap.size) ∧ (Blk W w.heap.size 25 #[.slice A n c, .slice A0 m d]) ∧ (Blk W (w.heap.size + 1) 45 #[.int .i64 x.id, .int .i64 x.fr, .int .i64 x.to, .int .i64 x.steps, .int .i64 x.paces]) ∧ (Blk W (w.heap.size + 1 + 1) 25 #[.slice none 0 0, .slice none 0 0]) ∧ (L 15 = false → Blk W G 25 #[.slice AP n cP, .slice AK m cK]) ∧ (L 15 = true → Blk W G 25 #[.slice AP n cP, .slice gh.A3 (m + 1) gh.c3]) ∧ (Own W w.heap.size 3 1 AP n cP (t.places.map (Value.int .i64))) ∧ (L 0 = true → L 5 = false → Blk W gh.g0 45 #[] ∧ S0 ≤ gh.g0) ∧ (L 7 = true → L 8 = false → Blk W gh.g9 45 #[.int .i64 x.id, .int .i64 x.fr, .int .i64 x.to, .int .i64 x.steps, .int .i64 x.paces] ∧ S0 ≤ gh.g9) ∧ (L 5 = true → L 8 = false → Own W w.heap.size 45 5 gh.A1 k gh.c1 ((t.links.take k).flatMap Link.vals) ∧ UpFrom S0 gh.A1) ∧ (L 8 = true → L 13 = false → Own W w.heap.size 45 5 gh.A2 (k + 1) gh.c2 ((t.links.take k).flatMap Link.vals ++ x.vals) ∧ UpFrom S0 gh.A2) ∧ (L 13 = true → Own W w.heap.size 45 5 gh.A3 (m + 1) gh.c3 ((t.links.take k).flatMap Link.vals ++ (x.vals ++ (t.links.drop k).flatMap Link.vals)) ∧ UpFrom S0 gh.A3) ∧ (L 0 = true → L 7 = true → L 5 = false → gh.g0 ≠ gh.g9) ∧ (L 5 = true → L 7 = true → L 8 = false → ∀ a, gh.A1 = some a → a.block ≠ gh.g9) ∧ (L 0 = true → s 32 = .slice (some ⟨gh.g0, 0, none⟩) 0 0) ∧ (L 1 = true → s 33 = .pointer (some ⟨w.heap.size, 1, none⟩)) ∧ (L 2 = true → s 34 = .slice A0 m d) ∧ (L 3 = true → s 35 = .int .i64 k) ∧ (L 4 = true → s 36 = .slice A4 k d) ∧ (L 5 = true → s 37 = .slice gh.A1 k gh.c1) ∧ (L 6 = true → s 38 = .agg #[.int .i64 x.id, .int .i64 x.fr, .int .i64 x.to, .int .i64 x.steps, .int .i64 x.paces]) ∧ (L 7 = true → s 39 = .slice (some ⟨gh.g9, 0, none⟩) 1 1) ∧ (L 8 = true → s 40 = .slice gh.A2 (k + 1) gh.c2) ∧ (L 9 = true → s 41 = .pointer (some ⟨w.heap.size, 1, none⟩)) ∧ (L 10 = true → s 42 = .slice A0 m d) ∧ (L 11 = true → s 43 = .int .i64 k) ∧ (L 12 = true → s 44 = .slice A5 (m - k) (d - k)) ∧ (L 13 = true → s 45 = .slice gh.A3 (m + 1) gh.c3) ∧ (L 14 = true → s 46 = .pointer (some ⟨G, 1, none⟩)) from ⟨g1, gS, g2, g3, g4, gO, gR, gP, gE, gX, gA, gB, gC, d07, d57, f0, f1, f2, f3, f4, f5, f6, f7, f8, f9, f10, f11, f12, f13, f14⟩)
            clear f14 f13 f12 f11 f10 f9 f8 f7 f6 f5 f4 f3 f2 f1 f0 d57 d07 gC gB gA gX gE gP gR gO g4 g3 g2 gS g1 hd
            try simp only at e5 e7 ⊢
            go_wp2_with (at_builtin; refine wpList_append_any _ rfl _ _ rfl elem_link e5 HE.out.1 e7 HI.out (vals_one x) (by unfold maxLen; omega) (by omega) HG1.out.size ?_)
            rintro A2 c2 W1 hown hg hA
            go_wp2_with fail
            obtain ⟨g1, gS, g2, g3, g4, gO, gR, gP, gE, gX, gA, gB, gC, d07, d57, f0, f1, f2, f3, f4, f5, f6, f7, f8, f9, f10, f11, f12, f13, f14⟩ := HF.out
            have hUA := HE.out.2
            have hr : ∀ k, k < S0 → some k ≠ gh.A1.map (·.block) := fun k hk => hUA.ne hk
            have hrB : ∀ k, gh.A1.map (·.block) = some k → w.heap.size ≤ k := fun k hk => by have := hUA.row hk; omega
            have hUp : UpFrom S0 A2 := fun a ha => by
              rcases hA with h | h
              · rw [h] at ha; exact hUA a ha
              · rw [h] at ha; cases ha; exact gS
            exact hK ({ gh with A2 := A2, c2 := c2 }, (upd (upd (upd s 37 (.slice gh.A1 k gh.c1)) 39 (.slice (some ⟨gh.g9, 0, none⟩) 1 1)) 40 (.slice A2 (k + 1) c2))) _ ⟨(g1.grown hg g1.size hrB), (Nat.le_trans gS hg.size), (g2.grown hg (hr _ (by omega))), (g3.grown hg (hr _ (by omega))), (g4.grown hg (hr _ (by omega))), (fun h => (gO h).grown hg (hr _ hGS)), (fun h => hdn.no 15 8 h rfl hu), (gP.grown hg (fun a ha => hr _ (hPS.out a ha))), (fun _ h => absurd (h5.symm.trans h) (by decide)), (fun _ h => by cases h), (fun _ h => by cases h), (fun _ _ => ⟨hown, hUp⟩), (fun h => hdn.no 13 8 h rfl hu), d07, (fun _ _ h => by cases h), f0, f1, f2, f3, f4, (fun _ => rfl), f6, (fun _ => rfl), (fun _ => rfl), f9, f10, f11, f12, (fun h => hdn.no 13 8 h rfl hu), f14⟩
          · rintro L ⟨gh, s⟩ W hu hd hdn ⟨g1, gS, g2, g3, g4, gO, gR, gP, gE, gX, gA, gB, gC, d07, d57, f0, f1, f2, f3, f4, f5, f6, f7, f8, f9, f10, f11, f12, f13, f14⟩ K Q hK
            try dsimp only at g1 gS g2 g3 g4 gO gR gP gE gX gA gB gC d07 d57 f0 f1 f2 f3 f4 f5 f6 f7 f8 f9 f10 f11 f12 f13 f14 ⊢
            have HF := Lib.hid (show (Below w.heap.size w W) ∧ (S0 ≤ W.heap.size) ∧ (Blk W w.heap.size 25 #[.slice A n c, .slice A0 m d]) ∧ (Blk W (w.heap.size + 1) 45 #[.int .i64 x.id, .int .i64 x.fr, .int .i64 x.to, .int .i64 x.steps, .int .i64 x.paces]) ∧ (Blk W (w.heap.size + 1 + 1) 25 #[.slice none 0 0, .slice none 0 0]) ∧ (L 15 = false → Blk W G 25 #[.slice AP n cP, .slice AK m cK]) ∧ (L 15 = true → Blk W G 25 #[.slice AP n cP, .slice gh.A3 (m + 1) gh.c3]) ∧ (Own W w.heap.size 3 1 AP n cP (t.places.map (Value.int .i64))) ∧ (L 0 = true → L 5 = false → Blk W gh.g0 45 #[] ∧ S0 ≤ gh.g0) ∧ (L 7 = true → L 8 = false → Blk W gh.g9 45 #[.int .i64 x.id, .int .i64 x.fr, .int .i64 x.to, .int .i64 x.steps, .int .i64 x.paces] ∧ S0 ≤ gh.g9) ∧ (L 5 = true → L 8 = false → Own W w.heap.size 45 5 gh.A1 k gh.c1 ((t.links.take k).flatMap Link.vals) ∧ UpFrom S0 gh.A1) ∧ (L 8 = true → L 13 = false → Own W w.heap.size 45 5 gh.A2 (k + 1) gh.c2 ((t.links.take k).flatMap Link.vals ++ x.vals) ∧ UpFrom S0 gh.A2) ∧ (L 13 = true → Own W w.heap.size 45 5 gh.A3 (m + 1) gh.c3 ((t.links.take k).flatMap Link.vals ++ (x.vals ++ (t.links.drop k).flatMap Link.vals)) ∧ UpFrom S0 gh.A3) ∧ (L 0 = true → L 7 = true → L 5 = false → gh.g0 ≠ gh.g9) ∧ (L 5 = true → L 7 = true → L 8 = false → ∀ a, gh.A1 = some a → a.block ≠ gh.g9) ∧ (L 0 = true → s 32 = .slice (some ⟨gh.g0, 0, none⟩) 0 0) ∧ (L 1 = true → s 33 = .pointer (some ⟨w.heap.size, 1, none⟩)) ∧ (L 2 = true → s 34 = .slice A0 m d) ∧ (L 3 = true → s 35 = .int .i64 k) ∧ (L 4 = true → s 36 = .slice A4 k d) ∧ (L 5 = true → s 37 = .slice gh.A1 k gh.c1) ∧ (L 6 = true → s 38 = .agg #[.int .i64 x.id, .int .i64 x.fr, .int .i64 x.to, .int .i64 x.steps, .int .i64 x.paces]) ∧ (L 7 = true → s 39 = .slice (some ⟨gh.g9, 0, none⟩) 1 1) ∧ (L 8 = true → s 40 = .slice gh.A2 (k + 1) gh.c2) ∧ (L 9 = true → s 41 = .pointer (some ⟨w.heap.size, 1, none⟩)) ∧ (L 10 = true → s 42 = .slice A0 m d) ∧ (L 11 = true → s 43 = .int .i64 k) ∧ (L 12 = true → s 44 = .slice A5 (m - k) (d - k)) ∧ (L 13 = true → s 45 = .slice gh.A3 (m + 1) gh.c3) ∧ (L 14 = true → s 46 = .pointer (some ⟨G, 1, none⟩)) from ⟨g1, gS, g2, g3, g4, gO, gR, gP, gE, gX, gA, gB, gC, d07, d57, f0, f1, f2, f3, f4, f5, f6, f7, f8, f9, f10, f11, f12, f13, f14⟩)
            clear f14 f13 f12 f11 f10 f9 f8 f7 f6 f5 f4 f3 f2 f1 f0 d57 d07 gC gB gA gX gE gP gR gO g4 g3 g2 gS g1 hd
            try simp only
            go_wp2_with fail
            obtain ⟨g1, gS, g2, g3, g4, gO, gR, gP, gE, gX, gA, gB, gC, d07, d57, f0, f1, f2, f3, f4, f5, f6, f7, f8, f9, f10, f11, f12, f13, f14⟩ := HF.out
            exact hK (gh, (upd s 41 (.pointer (some ⟨w.heap.size, 1, none⟩)))) _ ⟨g1, gS, g2, g3, g4, gO, gR, gP, gE, gX, gA, gB, gC, d07, d57, f0, f1, f2, f3, f4, f5, f6, f7, f8, (fun _ => rfl), f10, f11, f12, f13, f14⟩
          · rintro L ⟨gh, s⟩ W hu hd hdn ⟨g1, gS, g2, g3, g4, gO, gR, gP, gE, gX, gA, gB, gC, d07, d57, f0, f1, f2, f3, f4, f5, f6, f7, f8, f9, f10, f11, f12, f13, f14⟩ K Q hK
            try dsimp only at g1 gS g2 g3 g4 gO gR gP gE gX gA gB gC d07 d57 f0 f1 f2 f3 f4 f5 f6 f7 f8 f9 f10 f11 f12 f13 f14 ⊢
            have e9 := f9 (hd.at_ 9 rfl)
            have c0 : W.cell? ⟨w.heap.size, 1, none⟩ = some (.slice A0 m d) := g2.cell 1
            have HF := Lib.hid (show (Below w.heap.size w W) ∧ (S0 ≤ W.heap.size) ∧ (Blk W w.heap.size 25 #[.slice A n c, .slice A0 m d]) ∧ (Blk W (w.heap.size + 1) 45 #[.int .i64 x.id, .int .i64 x.fr, .int .i64 x.to, .int .i64 x.steps, .int .i64 x.paces]) ∧ (Blk W (w.heap.size + 1 + 1) 25 #[.slice none 0 0, .slice none 0 0]) ∧ (L 15 = false → Blk W G 25 #[.slice AP n cP, .slice AK m cK]) ∧ (L 15 = true → Blk W G 25 #[.slice AP n cP, .slice gh.A3 (m + 1) gh.c3]) ∧ (Own W w.heap.size 3 1 AP n cP (t.places.map (Value.int .i64))) ∧ (L 0 = true → L 5 = false → Blk W gh.g0 45 #[] ∧ S0 ≤ gh.g0) ∧ (L 7 = true → L 8 = false → Blk W gh.g9 45 #[.int .i64 x.id, .int .i64 x.fr, .int .i64 x.to, .int .i64 x.steps, .int .i64 x.paces] ∧ S0 ≤ gh.g9) ∧ (L 5 = true → L 8 = false → Own W w.heap.size 45 5 gh.A1 k gh.c1 ((t.links.take k).flatMap Link.vals) ∧ UpFrom S0 gh.A1) ∧ (L 8 = true → L 13 = false → Own W w.heap.size 45 5 gh.A2 (k + 1) gh.c2 ((t.links.take k).flatMap Link.vals ++ x.vals) ∧ UpFrom S0 gh.A2) ∧ (L 13 = true → Own W w.heap.size 45 5 gh.A3 (m + 1) gh.c3 ((t.links.take k).flatMap Link.vals ++ (x.vals ++ (t.links.drop k).flatMap Link.vals)) ∧ UpFrom S0 gh.A3) ∧ (L 0 = true → L 7 = true → L 5 = false → gh.g0 ≠ gh.g9) ∧ (L 5 = true → L 7 = true → L 8 = false → ∀ a, gh.A1 = some a → a.block ≠ gh.g9) ∧ (L 0 = true → s 32 = .slice (some ⟨gh.g0, 0, none⟩) 0 0) ∧ (L 1 = true → s 33 = .pointer (some ⟨w.heap.size, 1, none⟩)) ∧ (L 2 = true → s 34 = .slice A0 m d) ∧ (L 3 = true → s 35 = .int .i64 k) ∧ (L 4 = true → s 36 = .slice A4 k d) ∧ (L 5 = true → s 37 = .slice gh.A1 k gh.c1) ∧ (L 6 = true → s 38 = .agg #[.int .i64 x.id, .int .i64 x.fr, .int .i64 x.to, .int .i64 x.steps, .int .i64 x.paces]) ∧ (L 7 = true → s 39 = .slice (some ⟨gh.g9, 0, none⟩) 1 1) ∧ (L 8 = true → s 40 = .slice gh.A2 (k + 1) gh.c2) ∧ (L 9 = true → s 41 = .pointer (some ⟨w.heap.size, 1, none⟩)) ∧ (L 10 = true → s 42 = .slice A0 m d) ∧ (L 11 = true → s 43 = .int .i64 k) ∧ (L 12 = true → s 44 = .slice A5 (m - k) (d - k)) ∧ (L 13 = true → s 45 = .slice gh.A3 (m + 1) gh.c3) ∧ (L 14 = true → s 46 = .pointer (some ⟨G, 1, none⟩)) from ⟨g1, gS, g2, g3, g4, gO, gR, gP, gE, gX, gA, gB, gC, d07, d57, f0, f1, f2, f3, f4, f5, f6, f7, f8, f9, f10, f11, f12, f13, f14⟩)
            clear f14 f13 f12 f11 f10 f9 f8 f7 f6 f5 f4 f3 f2 f1 f0 d57 d07 gC gB gA gX gE gP gR gO g4 g3 g2 gS g1 hd
            try simp only at e9 ⊢
            go_wp2_with fail
            obtain ⟨g1, gS, g2, g3, g4, gO, gR, gP, gE, gX, gA, gB, gC, d07, d57, f0, f1, f2, f3, f4, f5, f6, f7, f8, f9, f10, f11, f12, f13, f14⟩ := HF.out
            exact hK (gh, (upd (upd s 41 (.pointer (some ⟨w.heap.size, 1, none⟩))) 42 (.slice A0 m d))) _ ⟨g1, gS, g2, g3, g4, gO, gR, gP, gE, gX, gA, gB, gC, d07, d57, f0, f1, f2, f3, f4, f5, f6, f7, f8, (fun _ => rfl), (fun _ => rfl), f11, f12, f13, f14⟩
          · rintro L ⟨gh, s⟩ W hu hd hdn ⟨g1, gS, g2, g3, g4, gO, gR, gP, gE, gX, gA, gB, gC, d07, d57, f0, f1, f2, f3, f4, f5, f6, f7, f8, f9, f10, f11, f12, f13, f14⟩ K Q hK
            try dsimp only at g1 gS g2 g3 g4 gO gR gP gE gX gA gB gC d07 d57 f0 f1 f2 f3 f4 f5 f6 f7 f8 f9 f10 f11 f12 f13 f14 ⊢
            have HF := Lib.hid (show (Below w.heap.size w W) ∧ (S0 ≤ W.heap.size) ∧ (Blk W w.heap.size 25 #[.slice A n c, .slice A0 m d]) ∧ (Blk W (w.heap.size + 1) 45 #[.int .i64 x.id, .int .i64 x.fr, .int .i64 x.to, .int .i64 x.steps, .int .i64 x.paces]) ∧ (Blk W (w.heap.size + 1 + 1) 25 #[.slice none 0 0, .slice none 0 0]) ∧ (L 15 = false → Blk W G 25 #[.slice AP n cP, .slice AK m cK]) ∧ (L 15 = true → Blk W G 25 #[.slice AP n cP, .slice gh.A3 (m + 1) gh.c3]) ∧ (Own W w.heap.size 3 1 AP n cP (t.places.map (Value.int .i64))) ∧ (L 0 = true → L 5 = false → Blk W gh.g0 45 #[] ∧ S0 ≤ gh.g0) ∧ (L 7 = true → L 8 = false → Blk W gh.g9 45 #[.int .i64 x.id, .int .i64 x.fr, .int .i64 x.to, .int .i64 x.steps, .int .i64 x.paces] ∧ S0 ≤ gh.g9) ∧ (L 5 = true → L 8 = false → Own W w.heap.size 45 5 gh.A1 k gh.c1 ((t.links.take k).flatMap Link.vals) ∧ UpFrom S0 gh.A1) ∧ (L 8 = true → L 13 = false → Own W w.heap.size 45 5 gh.A2 (k + 1) gh.c2 ((t.links.take k).flatMap Link.vals ++ x.vals) ∧ UpFrom S0 gh.A2) ∧ (L 13 = true → Own W w.heap.size 45 5 gh.A3 (m + 1) gh.c3 ((t.links.take k).flatMap Link.vals ++ (x.vals ++ (t.links.drop k).flatMap Link.vals)) ∧ UpFrom S0 gh.A3) ∧ (L 0 = true → L 7 = true → L 5 = false → gh.g0 ≠ gh.g9) ∧ (L 5 = true → L 7 = true → L 8 = false → ∀ a, gh.A1 = some a → a.block ≠ gh.g9) ∧ (L 0 = true → s 32 = .slice (some ⟨gh.g0, 0, none⟩) 0 0) ∧ (L 1 = true → s 33 = .pointer (some ⟨w.heap.size, 1, none⟩)) ∧ (L 2 = true → s 34 = .slice A0 m d) ∧ (L 3 = true → s 35 = .int .i64 k) ∧ (L 4 = true → s 36 = .slice A4 k d) ∧ (L 5 = true → s 37 = .slice gh.A1 k gh.c1) ∧ (L 6 = true → s 38 = .agg #[.int .i64 x.id, .int .i64 x.fr, .int .i64 x.to, .int .i64 x.steps, .int .i64 x.paces]) ∧ (L 7 = true → s 39 = .slice (some ⟨gh.g9, 0, none⟩) 1 1) ∧ (L 8 = true → s 40 = .slice gh.A2 (k + 1) gh.c2) ∧ (L 9 = true → s 41 = .pointer (some ⟨w.heap.size, 1, none⟩)) ∧ (L 10 = true → s 42 = .slice A0 m d) ∧ (L 11 = true → s 43 = .int .i64 k) ∧ (L 12 = true → s 44 = .slice A5 (m - k) (d - k)) ∧ (L 13 = true → s 45 = .slice gh.A3 (m + 1) gh.c3) ∧ (L 14 = true → s 46 = .pointer (some ⟨G, 1, none⟩)) from ⟨g1, gS, g2, g3, g4, gO, gR, gP, gE, gX, gA, gB, gC, d07, d57, f0, f1, f2, f3, f4, f5, f6, f7, f8, f9, f10, f11, f12, f13, f14⟩)
            clear f14 f13 f12 f11 f10 f9 f8 f7 f6 f5 f4 f3 f2 f1 f0 d57 d07 gC gB gA gX gE gP gR gO g4 g3 g2 gS g1 hd
            try simp only
            go_wp2_with fail
            obtain ⟨g1, gS, g2, g3, g4, gO, gR, gP, gE, gX, gA, gB, gC, d07, d57, f0, f1, f2, f3, f4, f5, f6, f7, f8, f9, f10, f11, f12, f13, f14⟩ := HF.out
            exact hK (gh, (upd s 43 (.int .i64 k))) _ ⟨g1, gS, g2, g3, g4, gO, gR, gP, gE, gX, gA, gB, gC, d07, d57, f0, f1, f2, f3, f4, f5, f6, f7, f8, f9, f10, (fun _ => rfl), f12, f13, f14⟩
          · rintro L ⟨gh, s⟩ W hu hd hdn ⟨g1, gS, g2, g3, g4, gO, gR, gP, gE, gX, gA, gB, gC, d07, d57, f0, f1, f2, f3, f4, f5, f6, f7, f8, f9, f10, f11, f12, f13, f14⟩ K Q hK
            try dsimp only at g1 gS g2 g3 g4 gO gR gP gE gX gA gB gC d07 d57 f0 f1 f2 f3 f4 f5 f6 f7 f8 f9 f10 f11 f12 f13 f14 ⊢
            have e10 := f10 (hd.at_ 10 rfl)
            have e11 := f11 (hd.at_ 11 rfl)
            have HF := Lib.hid (show (Below w.heap.size w W) ∧ (S0 ≤ W.heap.size) ∧ (Blk W w.heap.size 25 #[.slice A n c, .slice A0 m d]) ∧ (Blk W (w.heap.size + 1) 45 #[.int .i64 x.id, .int .i64 x.fr, .int .i64 x.to, .int .i64 x.steps, .int .i64 x.paces]) ∧ (Blk W (w.heap.size + 1 + 1) 25 #[.slice none 0 0, .slice none 0 0]) ∧ (L 15 = false → Blk W G 25 #[.slice AP n cP, .slice AK m cK]) ∧ (L 15 = true → Blk W G 25 #[.slice AP n cP, .slice gh.A3 (m + 1) gh.c3]) ∧ (Own W w.heap.size 3 1 AP n cP (t.places.map (Value.int .i64))) ∧ (L 0 = true → L 5 = false → Blk W gh.g0 45 #[] ∧ S0 ≤ gh.g0) ∧ (L 7 = true → L 8 = false → Blk W gh.g9 45 #[.int .i64 x.id, .int .i64 x.fr, .int .i64 x.to, .int .i64 x.steps, .int .i64 x.paces] ∧ S0 ≤ gh.g9) ∧ (L 5 = true → L 8 = false → Own W w.heap.size 45 5 gh.A1 k gh.c1 ((t.links.take k).flatMap Link.vals) ∧ UpFrom S0 gh.A1) ∧ (L 8 = true → L 13 = false → Own W w.heap.size 45 5 gh.A2 (k + 1) gh.c2 ((t.links.take k).flatMap Link.vals ++ x.vals) ∧ UpFrom S0 gh.A2) ∧ (L 13 = true → Own W w.heap.size 45 5 gh.A3 (m + 1) gh.c3 ((t.links.take k).flatMap Link.vals ++ (x.vals ++ (t.links.drop k).flatMap Link.vals)) ∧ UpFrom S0 gh.A3) ∧ (L 0 = true → L 7 = true → L 5 = false → gh.g0 ≠ gh.g9) ∧ (L 5 = true → L 7 = true → L 8 = false → ∀ a, gh.A1 = some a → a.block ≠ gh.g9) ∧ (L 0 = true → s 32 = .slice (some ⟨gh.g0, 0, none⟩) 0 0) ∧ (L 1 = true → s 33 = .pointer (some ⟨w.heap.size, 1, none⟩)) ∧ (L 2 = true → s 34 = .slice A0 m d) ∧ (L 3 = true → s 35 = .int .i64 k) ∧ (L 4 = true → s 36 = .slice A4 k d) ∧ (L 5 = true → s 37 = .slice gh.A1 k gh.c1) ∧ (L 6 = true → s 38 = .agg #[.int .i64 x.id, .int .i64 x.fr, .int .i64 x.to, .int .i64 x.steps, .int .i64 x.paces]) ∧ (L 7 = true → s 39 = .slice (some ⟨gh.g9, 0, none⟩) 1 1) ∧ (L 8 = true → s 40 = .slice gh.A2 (k + 1) gh.c2) ∧ (L 9 = true → s 41 = .pointer (some ⟨w.heap.size, 1, none⟩)) ∧ (L 10 = true → s 42 = .slice A0 m d) ∧ (L 11 = true → s 43 = .int .i64 k) ∧ (L 12 = true → s 44 = .slice A5 (m - k) (d - k)) ∧ (L 13 = true → s 45 = .slice gh.A3 (m + 1) gh.c3) ∧ (L 14 = true → s 46 = .pointer (some ⟨G, 1, none⟩)) from ⟨g1, gS, g2, g3, g4, gO, gR, gP, gE, gX, gA, gB, gC, d07, d57, f0, f1, f2, f3, f4, f5, f6, f7, f8, f9, f10, f11, f12, f13, f14⟩)
            clear f14 f13 f12 f11 f10 f9 f8 f7 f6 f5 f4 f3 f2 f1 f0 d57 d07 gC gB gA gX gE gP gR gO g4 g3 g2 gS g1 hd
            try simp only at e10 e11 ⊢
            go_wp2_with fail
            obtain ⟨g1, gS, g2, g3, g4, gO, gR, gP, gE, gX, gA, gB, gC, d07, d57, f0, f1, f2, f3, f4, f5, f6, f7, f8, f9, f10, f11, f12, f13, f14⟩ := HF.out
            exact hK (gh, (upd (upd (upd s 42 (.slice A0 m d)) 43 (.int .i64 k)) 44 (.slice A5 (m - k) (d - k)))) _ ⟨g1, gS, g2, g3, g4, gO, gR, gP, gE, gX, gA, gB, gC, d07, d57, f0, f1, f2, f3, f4, f5, f6, f7, f8, f9, (fun _ => rfl), (fun _ => rfl), (fun _ => rfl), f13, f14⟩
          · rintro L ⟨gh, s⟩ W hu hd hdn ⟨g1, gS, g2, g3, g4, gO, gR, gP, gE, gX, gA, gB, gC, d07, d57, f0, f1, f2, f3, f4, f5, f6, f7, f8, f9, f10, f11, f12, f13, f14⟩ K Q hK
            try dsimp only at g1 gS g2 g3 g4 gO gR gP gE gX gA gB gC d07 d57 f0 f1 f2 f3 f4 f5 f6 f7 f8 f9 f10 f11 f12 f13 f14 ⊢
            have e8 := f8 (hd.at_ 8 rfl)
            have e12 := f12 (hd.at_ 12 rfl)
            have HE := Lib.hid (gB (hd.at_ 8 rfl) hu)
            have HI : Hid (LinksAt W W.heap.size A5 (m - k) (t.links.drop k)) := (HR5.out.below g1).more g1.size
            have HG1 := Lib.hid g1
            have h8 : L 8 = true := hd.at_ 8 rfl
            have hkm : k + 1 + (m - k) = m + 1 := by omega
            have HF := Lib.hid (show (Below w.heap.size w W) ∧ (S0 ≤ W.heap.size) ∧ (Blk W w.heap.size 25 #[.slice A n c, .slice A0 m d]) ∧ (Blk W (w.heap.size + 1) 45 #[.int .i64 x.id, .int .i64 x.fr, .int .i64 x.to, .int .i64 x.steps, .int .i64 x.paces]) ∧ (Blk W (w.heap.size + 1 + 1) 25 #[.slice none 0 0, .slice none 0 0]) ∧ (L 15 = false → Blk W G 25 #[.slice AP n cP, .slice AK m cK]) ∧ (L 15 = true → Blk W G 25 #[.slice AP n cP, .slice gh.A3 (m + 1) gh.c3]) ∧ (Own W w.heap.size 3 1 AP n cP (t.places.map (Value.int .i64))) ∧ (L 0 = true → L 5 = false → Blk W gh.g0 45 #[] ∧ S0 ≤ gh.g0) ∧ (L 7 = true → L 8 = false → Blk W gh.g9 45 #[.int .i64 x.id, .int .i64 x.fr, .int .i64 x.to, .int .i64 x.steps, .int .i64 x.paces] ∧ S0 ≤ gh.g9) ∧ (L 5 = true → L 8 = false → Own W w.heap.size 45 5 gh.A1 k gh.c1 ((t.links.take k).flatMap Link.vals) ∧ UpFrom S0 gh.A1) ∧ (L 8 = true → L 13 = false → Own W w.heap.size 45 5 gh.A2 (k + 1) gh.c2 ((t.links.take k).flatMap Link.vals ++ x.vals) ∧ UpFrom S0 gh.A2) ∧ (L 13 = true → Own W w.heap.size 45 5 gh.A3 (m + 1) gh.c3 ((t.links.take k).flatMap Link.vals ++ (x.vals ++ (t.links.drop k).flatMap Link.vals)) ∧ UpFrom S0 gh.A3) ∧ (L 0 = true → L 7 = true → L 5 = false → gh.g0 ≠ gh.g9) ∧ (L 5 = true → L 7 = true → L 8 = false → ∀ a, gh.A1 = some a → a.block ≠ gh.g9) ∧ (L 0 = true → s 32 = .slice (some ⟨gh.g0, 0, none⟩) 0 0) ∧ (L 1 = true → s 33 = .pointer (some ⟨w.heap.size, 1, none⟩)) ∧ (L 2 = true → s 34 = .slice A0 m d) ∧ (L 3 = true → s 35 = .int .i64 k) ∧ (L 4 = true → s 36 = .slice A4 k d) ∧ (L 5 = true → s 37 = .slice gh.A1 k gh.c1) ∧ (L 6 = true → s 38 = .agg #[.int .i64 x.id, .int .i64 x.fr, .int .i64 x.to, .int .i64 x.steps, .int .i64 x.paces]) ∧ (L 7 = true → s 39 = .slice (some ⟨gh.g9, 0, none⟩) 1 1) ∧ (L 8 = true → s 40 = .slice gh.A2 (k + 1) gh.c2) ∧ (L 9 = true → s 41 = .pointer (some ⟨w.heap.size, 1, none⟩)) ∧ (L 10 = true → s 42 = .slice A0 m d) ∧ (L 11 = true → s 43 = .int .i64 k) ∧ (L 12 = true → s 44 = .slice A5 (m - k) (d - k)) ∧ (L 13 = true → s 45 = .slice gh.A3 (m + 1) gh.c3) ∧ (L 14 = true → s 46 = .pointer (some ⟨G, 1, none⟩)) from ⟨g1, gS, g2, g3, g4, gO, gR, gP, gE, gX, gA, gB, gC, d07, d57, f0, f1, f2, f3, f4, f5, f6, f7, f8, f9, f10, f11, f12, f13, f14⟩)
            clear f14 f13 f12 f11 f10 f9 f8 f7 f6 f5 f4 f3 f2 f1 f0 d57 d07 gC gB gA gX gE gP gR gO g4 g3 g2 gS g1 hd
            try simp only at e8 e12 ⊢
            go_wp2_with (at_builtin; refine wpList_append_any _ rfl _ _ rfl elem_link e8 HE.out.1 e12 HI.out (links_one _) (by unfold maxLen; omega) (by omega) HG1.out.size ?_)
            rintro A3 c3 W1 hown hg hA
            go_wp2_with fail
            obtain ⟨g1, gS, g2, g3, g4, gO, gR, gP, gE, gX, gA, gB, gC, d07, d57, f0, f1, f2, f3, f4, f5, f6, f7, f8, f9, f10, f11, f12, f13, f14⟩ := HF.out
            have hUA := HE.out.2
            have hr : ∀ k, k < S0 → some k ≠ gh.A2.map (·.block) := fun k hk => hUA.ne hk
            have hrB : ∀ k, gh.A2.map (·.block) = some k → w.heap.size ≤ k := fun k hk => by have := hUA.row hk; omega
            have hUp : UpFrom S0 A3 := fun a ha => by
              rcases hA with h | h
              · rw [h] at ha; exact hUA a ha
              · rw [h] at ha; cases ha; exact gS
            exact hK ({ gh with A3 := A3, c3 := c3 }, (upd (upd (upd s 40 (.slice gh.A2 (k + 1) gh.c2)) 44 (.slice A5 (m - k) (d - k))) 45 (.slice A3 (m + 1) c3))) _ ⟨(g1.grown hg g1.size hrB), (Nat.le_trans gS hg.size), (g2.grown hg (hr _ (by omega))), (g3.grown hg (hr _ (by omega))), (g4.grown hg (hr _ (by omega))), (fun h => (gO h).grown hg (hr _ hGS)), (fun h => hdn.no 15 13 h rfl hu), (gP.grown hg (fun a ha => hr _ (hPS.out a ha))), (fun _ h => hdn.no 8 5 h8 rfl h), (fun _ h => absurd (h8.symm.trans h) (by decide)), (fun _ h => absurd (h8.symm.trans h) (by decide)), (fun _ h => by cases h), (fun _ => ⟨hown, hUp⟩), d07, d57, f0, f1, f2, f3, f4, f5, f6, f7, (fun _ => rfl), f9, f10, f11, (fun _ => rfl), (fun _ => rfl), f14⟩
          · rintro L ⟨gh, s⟩ W hu hd hdn ⟨g1, gS, g2, g3, g4, gO, gR, gP, gE, gX, gA, gB, gC, d07, d57, f0, f1, f2, f3, f4, f5, f6, f7, f8, f9, f10, f11, f12, f13, f14⟩ K Q hK
            try dsimp only at g1 gS g2 g3 g4 gO gR gP gE gX gA gB gC d07 d57 f0 f1 f2 f3 f4 f5 f6 f7 f8 f9 f10 f11 f12 f13 f14 ⊢
            have HF := Lib.hid (show (Below w.heap.size w W) ∧ (S0 ≤ W.heap.size) ∧ (Blk W w.heap.size 25 #[.slice A n c, .slice A0 m d]) ∧ (Blk W (w.heap.size + 1) 45 #[.int .i64 x.id, .int .i64 x.fr, .int .i64 x.to, .int .i64 x.steps, .int .i64 x.paces]) ∧ (Blk W (w.heap.size + 1 + 1) 25 #[.slice none 0 0, .slice none 0 0]) ∧ (L 15 = false → Blk W G 25 #[.slice AP n cP, .slice AK m cK]) ∧ (L 15 = true → Blk W G 25 #[.slice AP n cP, .slice gh.A3 (m + 1) gh.c3]) ∧ (Own W w.heap.size 3 1 AP n cP (t.places.map (Value.int .i64))) ∧ (L 0 = true → L 5 = false → Blk W gh.g0 45 #[] ∧ S0 ≤ gh.g0) ∧ (L 7 = true → L 8 = false → Blk W gh.g9 45 #[.int .i64 x.id, .int .i64 x.fr, .int .i64 x.to, .int .i64 x.steps, .int .i64 x.paces] ∧ S0 ≤ gh.g9) ∧ (L 5 = true → L 8 = false → Own W w.heap.size 45 5 gh.A1 k gh.c1 ((t.links.take k).flatMap Link.vals) ∧ UpFrom S0 gh.A1) ∧ (L 8 = true → L 13 = false → Own W w.heap.size 45 5 gh.A2 (k + 1) gh.c2 ((t.links.take k).flatMap Link.vals ++ x.vals) ∧ UpFrom S0 gh.A2) ∧ (L 13 = true → Own W w.heap.size 45 5 gh.A3 (m + 1) gh.c3 ((t.links.take k).flatMap Link.vals ++ (x.vals ++ (t.links.drop k).flatMap Link.vals)) ∧ UpFrom S0 gh.A3) ∧ (L 0 = true → L 7 = true → L 5 = false → gh.g0 ≠ gh.g9) ∧ (L 5 = true → L 7 = true → L 8 = false → ∀ a, gh.A1 = some a → a.block ≠ gh.g9) ∧ (L 0 = true → s 32 = .slice (some ⟨gh.g0, 0, none⟩) 0 0) ∧ (L 1 = true → s 33 = .pointer (some ⟨w.heap.size, 1, none⟩)) ∧ (L 2 = true → s 34 = .slice A0 m d) ∧ (L 3 = true → s 35 = .int .i64 k) ∧ (L 4 = true → s 36 = .slice A4 k d) ∧ (L 5 = true → s 37 = .slice gh.A1 k gh.c1) ∧ (L 6 = true → s 38 = .agg #[.int .i64 x.id, .int .i64 x.fr, .int .i64 x.to, .int .i64 x.steps, .int .i64 x.paces]) ∧ (L 7 = true → s 39 = .slice (some ⟨gh.g9, 0, none⟩) 1 1) ∧ (L 8 = true → s 40 = .slice gh.A2 (k + 1) gh.c2) ∧ (L 9 = true → s 41 = .pointer (some ⟨w.heap.size, 1, none⟩)) ∧ (L 10 = true → s 42 = .slice A0 m d) ∧ (L 11 = true → s 43 = .int .i64 k) ∧ (L 12 = true → s 44 = .slice A5 (m - k) (d - k)) ∧ (L 13 = true → s 45 = .slice gh.A3 (m + 1) gh.c3) ∧ (L 14 = true → s 46 = .pointer (some ⟨G, 1, none⟩)) from ⟨g1, gS, g2, g3, g4, gO, gR, gP, gE, gX, gA, gB, gC, d07, d57, f0, f1, f2, f3, f4, f5, f6, f7, f8, f9, f10, f11, f12, f13, f14⟩)
            clear f14 f13 f12 f11 f10 f9 f8 f7 f6 f5 f4 f3 f2 f1 f0 d57 d07 gC gB gA gX gE gP gR gO g4 g3 g2 gS g1 hd
            try simp only
            go_wp2_with fail
            obtain ⟨g1, gS, g2, g3, g4, gO, gR, gP, gE, gX, gA, gB, gC, d07, d57, f0, f1, f2, f3, f4, f5, f6, f7, f8, f9, f10, f11, f12, f13, f14⟩ := HF.out
            exact hK (gh, (upd s 46 (.pointer (some ⟨G, 1, none⟩)))) _ ⟨g1, gS, g2, g3, g4, gO, gR, gP, gE, gX, gA, gB, gC, d07, d57, f0, f1, f2, f3, f4, f5, f6, f7, f8, f9, f10, f11, f12, f13, (fun _ => rfl)⟩
          · rintro L ⟨gh, s⟩ W hu hd hdn ⟨g1, gS, g2, g3, g4, gO, gR, gP, gE, gX, gA, gB, gC, d07, d57, f0, f1, f2, f3, f4, f5, f6, f7, f8, f9, f10, f11, f12, f13, f14⟩ K Q hK
            try dsimp only at g1 gS g2 g3 g4 gO gR gP gE gX gA gB gC d07 d57 f0 f1 f2 f3 f4 f5 f6 f7 f8 f9 f10 f11 f12 f13 f14 ⊢
            have e13 := f13 (hd.at_ 13 rfl)
            have e14 := f14 (hd.at_ 14 rfl)
            have G2 := gO hu
            have y1 : W.frozen? ⟨G, 1, none⟩ = false := G2.frozen 1
            have y2 : W.cell? ⟨G, 1, none⟩ = some (.slice AK m cK) := G2.cell 1
            have HG2 := Lib.hid G2
            have h13 : L 13 = true := hd.at_ 13 rfl
            clear G2
            have HF := Lib.hid (show (Below w.heap.size w W) ∧ (S0 ≤ W.heap.size) ∧ (Blk W w.heap.size 25 #[.slice A n c, .slice A0 m d]) ∧ (Blk W (w.heap.size + 1) 45 #[.int .i64 x.id, .int .i64 x.fr, .int .i64 x.to, .int .i64 x.steps, .int .i64 x.paces]) ∧ (Blk W (w.heap.size + 1 + 1) 25 #[.slice none 0 0, .slice none 0 0]) ∧ (L 15 = false → Blk W G 25 #[.slice AP n cP, .slice AK m cK]) ∧ (L 15 = true → Blk W G 25 #[.slice AP n cP, .slice gh.A3 (m + 1) gh.c3]) ∧ (Own W w.heap.size 3 1 AP n cP (t.places.map (Value.int .i64))) ∧ (L 0 = true → L 5 = false → Blk W gh.g0 45 #[] ∧ S0 ≤ gh.g0) ∧ (L 7 = true → L 8 = false → Blk W gh.g9 45 #[.int .i64 x.id, .int .i64 x.fr, .int .i64 x.to, .int .i64 x.steps, .int .i64 x.paces] ∧ S0 ≤ gh.g9) ∧ (L 5 = true → L 8 = false → Own W w.heap.size 45 5 gh.A1 k gh.c1 ((t.links.take k).flatMap Link.vals) ∧ UpFrom S0 gh.A1) ∧ (L 8 = true → L 13 = false → Own W w.heap.size 45 5 gh.A2 (k + 1) gh.c2 ((t.links.take k).flatMap Link.vals ++ x.vals) ∧ UpFrom S0 gh.A2) ∧ (L 13 = true → Own W w.heap.size 45 5 gh.A3 (m + 1) gh.c3 ((t.links.take k).flatMap Link.vals ++ (x.vals ++ (t.links.drop k).flatMap Link.vals)) ∧ UpFrom S0 gh.A3) ∧ (L 0 = true → L 7 = true → L 5 = false → gh.g0 ≠ gh.g9) ∧ (L 5 = true → L 7 = true → L 8 = false → ∀ a, gh.A1 = some a → a.block ≠ gh.g9) ∧ (L 0 = true → s 32 = .slice (some ⟨gh.g0, 0, none⟩) 0 0) ∧ (L 1 = true → s 33 = .pointer (some ⟨w.heap.size, 1, none⟩)) ∧ (L 2 = true → s 34 = .slice A0 m d) ∧ (L 3 = true → s 35 = .int .i64 k) ∧ (L 4 = true → s 36 = .slice A4 k d) ∧ (L 5 = true → s 37 = .slice gh.A1 k gh.c1) ∧ (L 6 = true → s 38 = .agg #[.int .i64 x.id, .int .i64 x.fr, .int .i64 x.to, .int .i64 x.steps, .int .i64 x.paces]) ∧ (L 7 = true → s 39 = .slice (some ⟨gh.g9, 0, none⟩) 1 1) ∧ (L 8 = true → s 40 = .slice gh.A2 (k + 1) gh.c2) ∧ (L 9 = true → s 41 = .pointer (some ⟨w.heap.size, 1, none⟩)) ∧ (L 10 = true → s 42 = .slice A0 m d) ∧ (L 11 = true → s 43 = .int .i64 k) ∧ (L 12 = true → s 44 = .slice A5 (m - k) (d - k)) ∧ (L 13 = true → s 45 = .slice gh.A3 (m + 1) gh.c3) ∧ (L 14 = true → s 46 = .pointer (some ⟨G, 1, none⟩)) from ⟨g1, gS, g2, g3, g4, gO, gR, gP, gE, gX, gA, gB, gC, d07, d57, f0, f1, f2, f3, f4, f5, f6, f7, f8, f9, f10, f11, f12, f13, f14⟩)
            clear f14 f13 f12 f11 f10 f9 f8 f7 f6 f5 f4 f3 f2 f1 f0 d57 d07 gC gB gA gX gE gP gR gO g4 g3 g2 gS g1 hd
            try simp only at e13 e14 ⊢
            go_wp2_with fail
            obtain ⟨g1, gS, g2, g3, g4, gO, gR, gP, gE, gX, gA, gB, gC, d07, d57, f0, f1, f2, f3, f4, f5, f6, f7, f8, f9, f10, f11, f12, f13, f14⟩ := HF.out
            have hg : W.grownBy (W.setCell ⟨G, 1, none⟩ (.slice gh.A3 (m + 1) gh.c3)) (some G) := grown_setCell (grown_refl _ _) (p := ⟨G, 1, none⟩) (.inl rfl) _
            have hGe : ∀ k, k ≠ G → some k ≠ some G := fun k hk e => hk (Option.some.inj e)
            exact hK (gh, (upd (upd s 45 (.slice gh.A3 (m + 1) gh.c3)) 46 (.pointer (some ⟨G, 1, none⟩)))) _ ⟨(g1.grown hg g1.size (fun k hk => by cases hk; omega)), (Nat.le_trans gS hg.size), (g2.grown hg (hGe _ (by omega))), (g3.grown hg (hGe _ (by omega))), (g4.grown hg (hGe _ (by omega))), (fun h => by cases h), (fun _ => HG2.out.set_ 1 _), (gP.grown hg (fun a ha => hGe _ (hPG.out a ha))), (fun h h3 => ⟨(gE h h3).1.grown hg (hGe _ (by have := (gE h h3).2; omega)), (gE h h3).2⟩), (fun h h3 => ⟨(gX h h3).1.grown hg (hGe _ (by have := (gX h h3).2; omega)), (gX h h3).2⟩), (fun h h3 => ⟨(gA h h3).1.grown hg (fun a ha => hGe _ (by have := (gA h h3).2 a ha; omega)), (gA h h3).2⟩), (fun h h3 => ⟨(gB h h3).1.grown hg (fun a ha => hGe _ (by have := (gB h h3).2 a ha; omega)), (gB h h3).2⟩), (fun h => ⟨(gC h).1.grown hg (fun a ha => hGe _ (by have := (gC h).2 a ha; omega)), (gC h).2⟩), d07, d57, f0, f1, f2, f3, f4, f5, f6, f7, f8, f9, f10, f11, f12, (fun _ => rfl), (fun _ => rfl)⟩
        · rintro L ⟨gh, s⟩ W hall ⟨g1, gS, g2, g3, g4, gO, gR, gP, gE, gX, gA, gB, gC, d07, d57, f0, f1, f2, f3, f4, f5, f6, f7, f8, f9, f10, f11, f12, f13, f14⟩
          have G3 := gR (hall 15 (by decide))
          have GI := gC (hall 13 (by decide))
          have hTL : (t.links.take k).flatMap Link.vals ++ (x.vals ++ (t.links.drop k).flatMap Link.vals) = (openT t x).links.flatMap Link.vals := by
            unfold openT
            rw [HAt.out]; simp
          rw [hTL] at GI
          have ht2 : TownAt W W.heap.size AP n gh.A3 (m + 1) (openT t x) := ⟨ints_of_own gP (Nat.le_refl _), links_of_own GI.1 (Nat.le_refl _)⟩
          have HT2 := Lib.hid ht2
          have Hl2 : Hid ((openT t x).links.length = m + 1) := HT2.out.links.len
          have HGP := Lib.hid gP
          have HGI := Lib.hid GI
          have HG3 := Lib.hid G3
          have HG5 := Lib.hid g4
          have HG1 := Lib.hid g1
          have HGS := Lib.hid gS
          have x0 := G3.cell 0
          have x1 := G3.cell 1
          clear hall g1 gS g2 g3 g4 gO gR gP gE gX gA gB gC d07 d57 f0 f1 f2 f3 f4 f5 f6 f7 f8 f9 f10 f11 f12 f13 f14 G3 GI ht2 hTL
          simp only
          go_wp2_with fail
          with_reducible refine (rtown_any AP n cP gh.A3 (m + 1) gh.c3 (openT t x) W hn (by omega) HT2.out).mono ?_
          rintro e W3 ⟨rfl, hb3⟩
          have Z3 := HG5.out.below hb3 HG5.out.lt
          have X3 := HG3.out.below hb3 HG3.out.lt
          have B3 := HG1.out.trans (hb3.mono HG1.out.size)
          have z0 := Z3.cell 0
          have z1 := Z3.cell 1
          have q0 := Z3.frozen 0
          have q1 := Z3.frozen 1
          cases hto : townB (openT t x) with
          | false =>
            have HC2 := Lib.hid hto
            clear hto x0 x1
            go_wp2_with fail
            have e1 : openR t x = noTown := by unfold openR; rw [HC2.out]; simp
            have e2 : openE t x = 34 := by unfold openE; rw [HC.out, HC2.out]; rfl
            rw [e1, e2]
            exact bodyPost_ret (v := .tuple #[.agg #[.slice none 0 0, .slice none 0 0], .int .i64 34]) (by simp [results, Tryd.results20, go_sem, z0, z1]) rfl (TownErr.none_ ((B3.setCell (p := ⟨w.heap.size + 1 + 1, 0, none⟩) (by show w.heap.size ≤ w.heap.size + 1 + 1; omega) _).setCell (p := ⟨w.heap.size + 1 + 1, 1, none⟩) (by show w.heap.size ≤ w.heap.size + 1 + 1; omega) _))
          | true =>
            have HC2 := Lib.hid hto
            have x2 := X3.cell 0
            have x3 := X3.cell 1
            clear hto x0 x1
            go_wp2_with fail
            have e1 : openR t x = openT t x := by unfold openR; rw [HC.out, HC2.out]; rfl
            have e2 : openE t x = 0 := by unfold openE; rw [HC.out, HC2.out]; rfl
            rw [e1, e2]
            refine bodyPost_ret (v := .tuple #[.agg #[.slice AP n cP, .slice gh.A3 (m + 1) gh.c3], .int .i64 0]) (by simp [results, Tryd.results20, go_sem, z0, z1]) rfl ?_
            have hgr := grown_setCell (grown_setCell (grown_of_below hb3 (some (w.heap.size + 1 + 1))) (p := ⟨w.heap.size + 1 + 1, 0, none⟩) (.inl rfl) (.slice AP n cP)) (p := ⟨w.heap.size + 1 + 1, 1, none⟩) (.inl rfl) (.slice gh.A3 (m + 1) gh.c3)
            have hgz : w.heap.size + 1 + 1 < S0 := by omega
            have o1 := HGP.out.grown hgr (fun a ha e => by have h1 := hUPz.out a ha; have h2 := Option.some.inj e; omega)
            have o2 := HGI.out.1.grown hgr (fun a ha e => by have h1 := HGI.out.2 a ha; have h2 := Option.some.inj e; omega)
            refine ⟨AP, cP, gh.A3, gh.c3, ?_, ?_, ?_, ?_, (B3.setCell (p := ⟨w.heap.size + 1 + 1, 0, none⟩) (by show w.heap.size ≤ w.heap.size + 1 + 1; omega) _).setCell (p := ⟨w.heap.size + 1 + 1, 1, none⟩) (by show w.heap.size ≤ w.heap.size + 1 + 1; omega) _⟩
            · rw [Hl2.out, show (openT t x).places.length = n from HLn.out]
            · rw [show (openT t x).places.length = n from HLn.out]; exact o1
            · rw [Hl2.out]; exact o2
            · intro a b ha hb' e
              have h1 := hPS.out a ha
              have h2 := HGI.out.2 b hb'
              omega
end Go.Proofs.YtahkjagjcogeiaaDoor
