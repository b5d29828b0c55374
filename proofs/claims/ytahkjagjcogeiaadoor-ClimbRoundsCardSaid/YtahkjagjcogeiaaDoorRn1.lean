/- Part 1 of the texts of this claim, joined. -/
import Derived.Test.YtahkjagjcogeiaaDoorRows
import Derived.WalkKit
import Derived.ProofKit
import Derived.Below
import Derived.Laws.OwnMore
import Derived.Deep.AppendLies
import Derived.Deep.Draws
import Derived.Laws.Rows
import Derived.Deep.QuietTactic
import Derived.BigQuiet
import Derived.Lib.Hide
import Derived.Outline
import Derived.WalkLawsBesides
import Derived.WalkSpells
import Derived.Maps.AppendAt
import Derived.Lib.SliceRun
import Derived.Laws.IdiomCopy
import Derived.Deep.RegionHeld3
import Derived.RangeFuncNested
import Derived.RangeFuncBound
import Derived.RangeFuncCalls
import Derived.RangeFuncLeaves
import Derived.Shelf.Abstract
import Derived.Shelf.RegionOpen
import Derived.OwnWalkIn
import Derived.TacticsInMore
import Derived.LoopNIn
import Derived.LoopIn
/- Words for memory: a slice that reads as a list, nil let in; frames behind draws. -/
namespace Go.Proofs.YtahkjagjcogeiaaDoor
open Go.RowKit

theorem ret_int {k : IntKind} {a b : Int} (h : a = b) : Ending.returned (.int k a) = .returned (.int k b) := by rw [h]
theorem ret_bool {a b : Bool} (h : a = b) : Ending.returned (.bool a) = .returned (.bool b) := by rw [h]

theorem block_of_add (a : Addr) (n : Nat) : (a.add n).block = a.block := by unfold Addr.add; split <;> rfl
theorem below_drewN {B : Nat} {a w : World} (h : Below B a w) (n : Nat) : Below B a (w.drewN n) := ⟨h.os, h.tape, h.output, h.size, h.block⟩

/-- The slice value '.slice A n c' holds the cells xs ('size' cells an element), below block B. -/
def Reads (w : World) (B size : Nat) (A : Option Addr) (n : Nat) (xs : List Value) : Prop :=
  xs.length = n * size ∧ (0 < n → ∃ ad, A = some ad ∧ ad.block < B ∧ ∀ j u, xs[j]? = some u → w.cell? (ad.add j) = some u)

section
variable {w w' : World} {B B' size n : Nat} {A : Option Addr} {xs : List Value}
theorem Reads.none_ : Reads w B size A 0 [] := ⟨by simp, fun h => absurd h (by omega)⟩
/-- Where there is a cell the address is plain. -/
theorem Reads.plain (h : Reads w B size A n xs) (hx : 0 < xs.length) : ∃ b off, A = some ⟨b, off, none⟩ ∧ b < B ∧ ∀ j u, xs[j]? = some u → w.cell? ⟨b, off + j, none⟩ = some u := by
  have hn : 0 < n := by
    rcases Nat.eq_zero_or_pos n with h0 | h0
    · have := h.1; rw [h0] at this; omega
    · exact h0
  obtain ⟨ad, e, hb, hc⟩ := h.2 hn
  obtain ⟨b, off, spot⟩ := ad
  have h0 := hc 0 _ (List.getElem?_eq_getElem hx)
  have hs : spot = none := by
    cases spot with
    | none => rfl
    | some s => simp [Addr.add, World.cell?] at h0; split at h0 <;> simp at h0
  subst hs
  refine ⟨b, off, e, hb, fun j u hu => ?_⟩
  have := hc j u hu
  unfold Addr.add at this
  by_cases hj : j = 0
  · subst hj; simpa using this
  · simpa [hj] using this
theorem Reads.keep (h : Reads w B size A n xs) (hk : ∀ p : Addr, p.block < B → w'.cell? p = w.cell? p) : Reads w' B size A n xs :=
  ⟨h.1, fun hn => by
    obtain ⟨ad, e, hb, hc⟩ := h.2 hn
    exact ⟨ad, e, hb, fun j u hu => (hk _ (by rw [block_of_add]; exact hb)).trans (hc j u hu)⟩⟩
theorem Reads.more (h : Reads w B size A n xs) (hB : B ≤ B') : Reads w B' size A n xs :=
  ⟨h.1, fun hn => by
    obtain ⟨ad, e, hb, hc⟩ := h.2 hn
    exact ⟨ad, e, by omega, hc⟩⟩
theorem Reads.below (h : Reads w B size A n xs) (hb : Below B w w') : Reads w' B size A n xs := h.keep fun _ hp => hb.cell hp
theorem Reads.drewN (h : Reads w B size A n xs) (k : Nat) : Reads (w.drewN k) B size A n xs := h
theorem Reads.alloc (h : Reads w B size A n xs) (hB : B ≤ w.heap.size) (o : Obj) : Reads (w.alloc o) B size A n xs := h.keep fun p hp => World.cell?_alloc_lt w o p (by omega)
theorem Reads.setCell (h : Reads w B size A n xs) {p : Addr} (hB : B ≤ p.block) (u : Value) : Reads (w.setCell p u) B size A n xs :=
  h.keep fun q hq => World.cell?_setCell_other w p q u (fun e => by subst e; omega)
end

/-- Block g is just the cells cs of element type t, none frozen. -/
def Blk (w : World) (g : Nat) (t : TypeId) (cs : Array Value) : Prop := w.heap[g]? = some (.cells cs t (0, 0))

section
variable {w w' : World} {g : Nat} {t : TypeId} {cs : Array Value}
theorem Blk.lt (h : Blk w g t cs) : g < w.heap.size := by
  rcases Nat.lt_or_ge g w.heap.size with hlt | hge
  · exact hlt
  · unfold Blk at h; rw [Array.getElem?_eq_none hge] at h; cases h
theorem Blk.cell (h : Blk w g t cs) (i : Nat) : w.cell? ⟨g, i, none⟩ = cs[i]? := cell_of_row w g i cs t (0, 0) h
theorem Blk.frozen (h : Blk w g t cs) (i : Nat) : w.frozen? ⟨g, i, none⟩ = false := by
  unfold Blk at h
  simp [World.frozen?, h]
theorem Blk.new (w : World) (t : TypeId) (cs : Array Value) : Blk (w.alloc (.cells cs t)) w.heap.size t cs := heap_alloc_new w _
theorem Blk.drewN (h : Blk w g t cs) (n : Nat) : Blk (w.drewN n) g t cs := h
theorem Blk.alloc (h : Blk w g t cs) (o : Obj) : Blk (w.alloc o) g t cs := (Below.heap_alloc w o g h.lt).trans h
theorem Blk.set_ (h : Blk w g t cs) (i : Nat) (u : Value) : Blk (w.setCell ⟨g, i, none⟩ u) g t (cs.setIfInBounds i u) := by
  unfold Blk at h ⊢
  simp [World.setCell, Array.getElem?_modify, h]
theorem Blk.far (h : Blk w g t cs) {p : Addr} (hp : g ≠ p.block) (u : Value) : Blk (w.setCell p u) g t cs := (Below.heap_setCell w p u g hp).trans h
theorem Blk.below {B : Nat} (h : Blk w g t cs) (hb : Below B w w') (hg : g < B) : Blk w' g t cs := (hb.block g hg).trans h
theorem Blk.grown {row : Option Nat} (h : Blk w g t cs) (hb : w.grownBy w' row) (hg : some g ≠ row) : Blk w' g t cs := (hb.block g h.lt hg).trans h
end

/-- A slice of ints. -/
def IntsAt (w : World) (B : Nat) (A : Option Addr) (n : Nat) (l : List Int) : Prop := Reads w B 1 A n (l.map (Value.int .i64))

section
variable {w w' : World} {B B' n : Nat} {A : Option Addr} {l : List Int}
theorem IntsAt.len (h : IntsAt w B A n l) : l.length = n := by have := h.1; simpa using this
theorem IntsAt.cell (h : IntsAt w B A n l) {k : Nat} (hk : k < n) : ∃ b off x, A = some ⟨b, off, none⟩ ∧ b < B ∧ l[k]? = some x ∧ w.cell? ⟨b, off + k, none⟩ = some (.int .i64 x) := by
  have hl := h.len
  obtain ⟨b, off, e, hb, hc⟩ := Reads.plain h (by simp; omega)
  have hx : l[k]? = some l[k] := List.getElem?_eq_getElem (by omega)
  exact ⟨b, off, _, e, hb, hx, hc k _ (by rw [List.getElem?_map, hx]; rfl)⟩
theorem IntsAt.below (h : IntsAt w B A n l) (hb : Below B w w') : IntsAt w' B A n l := Reads.below h hb
theorem IntsAt.more (h : IntsAt w B A n l) (hB : B ≤ B') : IntsAt w B' A n l := Reads.more h hB
end

/-- A new block that holds ints. -/
theorem IntsAt.new (w : World) (t : TypeId) (l : List Int) (B : Nat) (hB : w.heap.size < B) : IntsAt (w.alloc (.cells (l.map (Value.int .i64)).toArray t)) B (some ⟨w.heap.size, 0, none⟩) l.length l := by
  refine ⟨by simp, fun _ => ⟨_, rfl, hB, fun j u hu => ?_⟩⟩
  have ha : ((⟨w.heap.size, 0, none⟩ : Addr).add j) = ⟨w.heap.size, j, none⟩ := by
    unfold Addr.add
    by_cases hj : j = 0
    · simp [hj]
    · simp [hj]
  rw [ha, cell_of_row _ _ _ _ _ _ (heap_alloc_new w _)]
  simpa using hu

/-- The first place at which something is so; -1 if there is none. -/
def idx (p : Int → Bool) (l : List Int) : Int := if l.any p then (l.findIdx p : Int) else -1

theorem idx_none {p : Int → Bool} {l : List Int} (h : ∀ y ∈ l, p y = false) : idx p l = -1 := by
  unfold idx
  rw [if_neg]
  simp only [List.any_eq_true, not_exists, not_and, Bool.not_eq_true]
  exact h
theorem idx_some {p : Int → Bool} {l : List Int} {k : Nat} {x : Int} (hx : l[k]? = some x) (hp : p x = true) (h : ∀ y ∈ l.take k, p y = false) : idx p l = k := by
  obtain ⟨hk, rfl⟩ := List.getElem?_eq_some_iff.1 hx
  have hf : l.findIdx p = k := by
    rw [List.findIdx_eq hk]
    refine ⟨hp, fun j hj => ?_⟩
    have := h (l[j]'(by omega)) (by
      rw [List.mem_take_iff_getElem]
      exact ⟨j, by omega, rfl⟩)
    simp [this]
  unfold idx
  rw [if_pos (List.any_eq_true.2 ⟨_, List.getElem_mem hk, hp⟩), hf]
theorem idx_ge {p : Int → Bool} {l : List Int} : decide (0 ≤ idx p l) = l.any p := by
  unfold idx
  cases h : l.any p <;> simp
theorem idx_bd (p : Int → Bool) (l : List Int) : -1 ≤ idx p l ∧ idx p l ≤ l.length := by
  unfold idx
  have := List.findIdx_le_length (p := p) (xs := l)
  split <;> omega
theorem take_snoc_all {α : Type} {p : α → Bool} {l : List α} {k : Nat} {x : α} (hx : l[k]? = some x) (hp : p x = false) (h : ∀ y ∈ l.take k, p y = false) : ∀ y ∈ l.take (k + 1), p y = false := by
  intro y hy
  obtain ⟨hk, rfl⟩ := List.getElem?_eq_some_iff.1 hx
  rw [List.take_succ_eq_append_getElem hk, List.mem_append] at hy
  rcases hy with hy | hy
  · exact h y hy
  · simp at hy; rw [hy]; exact hp
theorem mem_of_at {α : Type} {l : List α} {k : Nat} {x : α} (hx : l[k]? = some x) : x ∈ l := by
  obtain ⟨hk, rfl⟩ := List.getElem?_eq_some_iff.1 hx
  exact List.getElem_mem hk

end Go.Proofs.YtahkjagjcogeiaaDoor
/- slices.Index and slices.Contains at ints. -/
namespace Go.Proofs.YtahkjagjcogeiaaDoor
open Go.RowKit
set_option linter.unusedVariables false

theorem any_contains (l : List Int) (x : Int) : (l.any fun y => y == x) = l.contains x := by
  rw [Bool.eq_iff_iff]; simp [List.any_eq_true]

set_option maxHeartbeats 1000000 in
theorem index_int (A : Option Addr) (n c : Nat) (l : List Int) (x : Int) (w : World) (hr : IntsAt w w.heap.size A n l) (hn : n ≤ maxLen) :
    Calls Tryd.prog 120 #[.slice A n c, .int .i64 x] w fun e w' => e = .returned (.int .i64 (idx (fun y => x == y) l)) ∧ Below w.heap.size w w' := by
  unfold maxLen at hn
  go_enter Tryd.func120, Tryd.ntmps120
  go_wp2_with fail
  go_loopw [8, 5] (fun i j wr => ∃ k : Nat, k ≤ n ∧ i = .int .i64 k ∧ (∀ y ∈ l.take k, (x == y) = false) ∧ Below w.heap.size w wr)
    (fun i _ _ => n - (intOf i).toNat)
  case atStart => exact ⟨0, by omega, rfl, by simp, Below.refl _ _⟩
  case round =>
    obtain ⟨k, hk, rfl, hno, hb⟩ := hrel
    have HN := Lib.hid hno
    clear hno
    by_cases hlt : k < n
    · obtain ⟨b, off, y, rfl, hbB, hx, hc⟩ := (hr.below hb).cell hlt
      have HX := Lib.hid hx
      clear hx
      by_cases he : x = y
      · subst he
        go_wp2_with fail
        go_ret
        exact ⟨ret_int (idx_some HX.out (by simp) HN.out).symm, hb⟩
      · have he' : (x == y) = false := by simpa using he
        go_wp2_with fail
        go_roundw
        case rel => exact ⟨k + 1, by omega, by go_num, take_snoc_all HX.out (by simpa using he) HN.out, hb⟩
        case measure => simp [intOf]; omega
    · go_wp2_with fail
      go_ret
      exact ⟨ret_int (idx_none (by
        have := HN.out
        rwa [List.take_of_length_le (by have := hr.len; omega)] at this)).symm, hb⟩
end Go.Proofs.YtahkjagjcogeiaaDoor
/- slices.Contains at ints. -/
namespace Go.Proofs.YtahkjagjcogeiaaDoor
open Go.RowKit
set_option linter.unusedVariables false

theorem idx_contains (x : Int) (l : List Int) : decide (0 ≤ idx (fun y => x == y) l) = l.contains x := by
  rw [idx_ge, Bool.eq_iff_iff]
  simp [List.any_eq_true]

/-- A word that simp does not open. -/
def memI (l : List Int) (x : Int) : Bool := l.contains x
theorem memI_iff {l : List Int} {x : Int} : memI l x = true ↔ x ∈ l := by simp [memI]

theorem contains_int (A : Option Addr) (n c : Nat) (l : List Int) (x : Int) (w : World) (hr : IntsAt w w.heap.size A n l) (hn : n ≤ maxLen) :
    Calls Tryd.prog 58 #[.slice A n c, .int .i64 x] w fun e w' => e = .returned (.bool (memI l x)) ∧ Below w.heap.size w w' := by
  have H := Lib.hid (index_int A n c l x w hr hn)
  have HD := idx_bd (fun y => x == y) l
  go_enter Tryd.func58, Tryd.ntmps58
  go_wp2_with fail
  refine H.out.mono ?_
  rintro e w' ⟨rfl, hb⟩
  go_wp2_with fail
  go_ret
  exact ⟨ret_bool (idx_contains x l), hb⟩
end Go.Proofs.YtahkjagjcogeiaaDoor
/- slices.IndexFunc and slices.ContainsFunc at ints. -/
namespace Go.Proofs.YtahkjagjcogeiaaDoor
open Go.RowKit

set_option maxHeartbeats 1000000 in
theorem indexFunc_int (F : FuncId) (C : Array Value) (p : Int → Bool) (A : Option Addr) (n c : Nat) (l : List Int) (w : World) (hr : IntsAt w w.heap.size A n l) (hn : n ≤ maxLen)
    (hE : ∀ args W, (callFunc F args).run Tryd.prog W = .ok (.enter F args) W)
    (hF : ∀ x ∈ l, ∀ W, Below w.heap.size w W → Calls Tryd.prog F (#[.int .i64 x] ++ C) W fun e w' => e = .returned (.bool (p x)) ∧ Below W.heap.size W w') :
    Calls Tryd.prog 126 #[.slice A n c, .func (.func F) #[] C] w fun e w' => e = .returned (.int .i64 (idx p l)) ∧ Below w.heap.size w w' := by
  unfold maxLen at hn
  have HF := Lib.hid hF
  clear hF
  go_enter Tryd.func126, Tryd.ntmps126
  go_wp2_with fail
  go_loopw [8, 5] (fun i j wr => ∃ k : Nat, k ≤ n ∧ i = .int .i64 k ∧ (∀ y ∈ l.take k, p y = false) ∧ Below w.heap.size w wr)
    (fun i _ _ => n - (intOf i).toNat)
  case atStart => exact ⟨0, by omega, rfl, by simp, Below.refl _ _⟩
  case round =>
    obtain ⟨k, hk, rfl, hno, hb⟩ := hrel
    have HN := Lib.hid hno
    clear hno
    by_cases hlt : k < n
    · obtain ⟨b, off, x, rfl, hbB, hx, hc⟩ := (hr.below hb).cell hlt
      have HX := Lib.hid hx
      clear hx
      go_wp2_with fail
      refine (HF.out x (mem_of_at HX.out) _ hb).mono ?_
      rintro e w' ⟨rfl, hb'⟩
      cases hp : p x with
      | true =>
        have HP := Lib.hid hp
        clear hp
        go_wp2_with fail
        go_ret
        exact ⟨ret_int (idx_some HX.out HP.out HN.out).symm, hb.trans (hb'.mono hb.size)⟩
      | false =>
        have HP := Lib.hid hp
        clear hp
        go_wp2_with fail
        go_roundw
        case rel => exact ⟨k + 1, by omega, by go_num, take_snoc_all HX.out HP.out HN.out, hb.trans (hb'.mono hb.size)⟩
        case measure => simp [intOf]; omega
    · go_wp2_with fail
      go_ret
      exact ⟨ret_int (idx_none (by
        have := HN.out
        rwa [List.take_of_length_le (by have := hr.len; omega)] at this)).symm, hb⟩

set_option maxHeartbeats 1000000 in
theorem containsFunc_int (F : FuncId) (C : Array Value) (p : Int → Bool) (A : Option Addr) (n c : Nat) (l : List Int) (w : World) (hr : IntsAt w w.heap.size A n l) (hn : n ≤ maxLen)
    (hE : ∀ args W, (callFunc F args).run Tryd.prog W = .ok (.enter F args) W)
    (hF : ∀ x ∈ l, ∀ W, Below w.heap.size w W → Calls Tryd.prog F (#[.int .i64 x] ++ C) W fun e w' => e = .returned (.bool (p x)) ∧ Below W.heap.size W w') :
    Calls Tryd.prog 135 #[.slice A n c, .func (.func F) #[] C] w fun e w' => e = .returned (.bool (l.any p)) ∧ Below w.heap.size w w' := by
  have H := Lib.hid (indexFunc_int F C p A n c l w hr hn hE hF)
  clear hE hF
  go_enter Tryd.func135, Tryd.ntmps135
  go_wp2_with fail
  refine H.out.mono ?_
  rintro e w' ⟨rfl, hb⟩
  go_wp2_with fail
  go_ret
  exact ⟨ret_bool idx_ge, hb⟩
end Go.Proofs.YtahkjagjcogeiaaDoor
/- The walks of climb.in. -/
namespace Go.Proofs.YtahkjagjcogeiaaDoor
open Go.RowKit
set_option linter.unusedVariables false

theorem out1_any (x lo hi : Int) (b1 b2 : Nat) (w : World) (h1 : w.cell? ⟨b1, 0, none⟩ = some (.int .i64 lo)) (h2 : w.cell? ⟨b2, 0, none⟩ = some (.int .i64 hi)) :
    Calls Tryd.prog 137 (#[.int .i64 x] ++ #[.pointer (some ⟨b1, 0, none⟩), .pointer (some ⟨b2, 0, none⟩)]) w fun e w' => e = .returned (.bool (decide (x < lo) || decide (hi < x))) ∧ Below w.heap.size w w' := by
  by_cases h : x < lo
  all_goals
    go_enter Tryd.func137, Tryd.ntmps137
    go_wp2
    go_ret
    refine ⟨ret_bool ?_, Below.refl _ _⟩
    by_cases q : x < lo <;> simp [q] <;> omega

theorem enters_in1 (args : Array Value) (W : World) : (callFunc 137 args).run Tryd.prog W = .ok (.enter 137 args) W := by
  simp [go_sem]

/-- Whether all numbers are from lo to hi. -/
def inB (lo hi : Int) (l : List Int) : Bool := !l.any fun n => decide (n < lo) || decide (hi < n)

theorem in_any (lo hi : Int) (A : Option Addr) (n c : Nat) (l : List Int) (w : World) (hr : IntsAt w w.heap.size A n l) (hn : n ≤ maxLen) :
    Calls Tryd.prog 106 #[.int .i64 lo, .int .i64 hi, .slice A n c] w fun e w' => e = .returned (.bool (inB lo hi l)) ∧ Below w.heap.size w w' := by
  have hmf : ∀ (fn : Fn) (first cap : Array Value) (w : World), (Instr.makeFunc fn first cap).run Tryd.prog w = .ok (.func fn first cap) w := fun _ _ _ _ => rfl
  go_enter Tryd.func106, Tryd.ntmps106
  go_wp2_with fail
  have hb : Below w.heap.size w ((w.alloc (.cells #[.int .i64 lo] 3)).alloc (.cells #[.int .i64 hi] 3)) := ((Below.refl _ _).alloc (Nat.le_refl _) _).alloc (by simp) _
  refine (containsFunc_int 137 _ (fun n => decide (n < lo) || decide (hi < n)) A n c l _ ((hr.below hb).more (by simp; omega)) hn enters_in1 ?_).mono ?_
  · intro x _ W hW
    exact out1_any x lo hi _ _ W ((hW.cell (p := ⟨w.heap.size, 0, none⟩) (by simp; omega)).trans (by simp [go_sem])) ((hW.cell (p := ⟨w.heap.size + 1, 0, none⟩) (by simp)).trans (by simp [go_sem]))
  · rintro e w' ⟨rfl, hb'⟩
    go_wp2_with fail
    go_ret
    exact ⟨rfl, hb.trans (hb'.mono (by simp; omega))⟩
theorem in1_any (lo hi x : Int) (g : Nat) (w : World) (hg : g < w.heap.size) (hc : w.cell? ⟨g, 0, none⟩ = some (.int .i64 x)) :
    Calls Tryd.prog 106 #[.int .i64 lo, .int .i64 hi, .slice (some ⟨g, 0, none⟩) 1 1] w fun e w' => e = .returned (.bool (inB lo hi [x])) ∧ Below w.heap.size w w' :=
  in_any lo hi _ 1 1 [x] w ⟨rfl, fun _ => ⟨_, rfl, hg, fun j u hu => by
    cases j with
    | zero => simp at hu; rw [← hu]; simpa [Addr.add] using hc
    | succ j => simp at hu⟩⟩ (by decide)
end Go.Proofs.YtahkjagjcogeiaaDoor
/- How two lists of numbers stand: plain Lean. -/
namespace Go.Proofs.YtahkjagjcogeiaaDoor
set_option linter.unusedVariables false

/-- How two lists stand. -/
def cmpL : List Int → List Int → Int
  | [], [] => 0
  | [], _ :: _ => -1
  | _ :: _, [] => 1
  | x :: a, y :: b => if x < y then -1 else if y < x then 1 else cmpL a b

theorem cmpL_drop {a b : List Int} {k : Nat} {x y : Int} (hx : a[k]? = some x) (hy : b[k]? = some y) : cmpL (a.drop k) (b.drop k) = if x < y then -1 else if y < x then 1 else cmpL (a.drop (k + 1)) (b.drop (k + 1)) := by
  obtain ⟨hk, rfl⟩ := List.getElem?_eq_some_iff.1 hx
  obtain ⟨hk', rfl⟩ := List.getElem?_eq_some_iff.1 hy
  rw [List.drop_eq_getElem_cons hk, List.drop_eq_getElem_cons hk']; rfl
theorem cmpL_cons (x y : Int) (a b : List Int) : cmpL (x :: a) (y :: b) = if x < y then -1 else if y < x then 1 else cmpL a b := rfl
theorem cmpL_same (x : Int) (a b : List Int) : cmpL (x :: a) (x :: b) = cmpL a b := by rw [cmpL_cons, if_neg (by omega), if_neg (by omega)]
theorem cmpL_refl : ∀ a : List Int, cmpL a a = 0
  | [] => rfl
  | x :: a => by rw [cmpL_same]; exact cmpL_refl a
theorem cmpL_three : ∀ a b : List Int, cmpL a b = -1 ∨ cmpL a b = 0 ∨ cmpL a b = 1
  | [], [] => by simp [cmpL]
  | [], _ :: _ => by simp [cmpL]
  | _ :: _, [] => by simp [cmpL]
  | x :: a, y :: b => by
    rw [cmpL_cons]
    have := cmpL_three a b
    split
    · simp
    · split
      · simp
      · exact this
theorem cmpL_eq : ∀ {a b : List Int}, cmpL a b = 0 → a = b
  | [], [], _ => rfl
  | [], _ :: _, h => by simp [cmpL] at h
  | _ :: _, [], h => by simp [cmpL] at h
  | x :: a, y :: b, h => by
    rw [cmpL_cons] at h
    split at h
    · omega
    · split at h
      · omega
      · rw [cmpL_eq h, show x = y by omega]
theorem cmpL_swap : ∀ a b : List Int, cmpL b a = - cmpL a b
  | [], [] => rfl
  | [], _ :: _ => rfl
  | _ :: _, [] => rfl
  | x :: a, y :: b => by
    rw [cmpL_cons, cmpL_cons]
    have := cmpL_swap a b
    by_cases h1 : x < y
    · rw [if_neg (by omega), if_pos h1, if_pos h1]; rfl
    · by_cases h2 : y < x
      · rw [if_pos h2, if_neg h1, if_pos h2]
      · rw [if_neg h2, if_neg h1, if_neg h1, if_neg h2]; exact this
theorem cmpL_trans : ∀ {a b c : List Int}, cmpL a b ≤ 0 → cmpL b c ≤ 0 → cmpL a c ≤ 0
  | [], _, [], _, _ => by simp [cmpL]
  | [], _, _ :: _, _, _ => by simp [cmpL]
  | _ :: _, [], _, h, _ => by simp [cmpL] at h
  | _ :: _, _ :: _, [], _, h => by simp [cmpL] at h
  | x :: a, y :: b, z :: c, h1, h2 => by
    rw [cmpL_cons] at h1 h2 ⊢
    have ih := @cmpL_trans a b c
    by_cases p1 : x < y
    · by_cases q1 : y < z
      · rw [if_pos (by omega)]; omega
      · rw [if_neg q1] at h2
        by_cases q2 : z < y
        · rw [if_pos q2] at h2; omega
        · rw [if_pos (by omega)]; omega
    · rw [if_neg p1] at h1
      by_cases p2 : y < x
      · rw [if_pos p2] at h1; omega
      · rw [if_neg p2] at h1
        by_cases q1 : y < z
        · rw [if_pos (by omega)]; omega
        · rw [if_neg q1] at h2
          by_cases q2 : z < y
          · rw [if_pos q2] at h2; omega
          · rw [if_neg q2] at h2
            rw [if_neg (by omega), if_neg (by omega)]; exact ih h1 h2
theorem cmpL_total (a b : List Int) : cmpL a b ≤ 0 ∨ cmpL b a ≤ 0 := by
  have := cmpL_three a b
  have := cmpL_swap a b
  omega
theorem cmpL_antisymm {a b : List Int} (h1 : cmpL a b ≤ 0) (h2 : cmpL b a ≤ 0) : a = b := by
  have := cmpL_swap a b
  exact cmpL_eq (by omega)
theorem cmpL_le_lt {a b c : List Int} (h1 : cmpL a b ≤ 0) (h2 : cmpL b c < 0) : cmpL a c < 0 := by
  have h3 := cmpL_trans h1 (show cmpL b c ≤ 0 by omega)
  rcases cmpL_three a c with h | h | h
  · omega
  · have := cmpL_eq h
    subst this
    have := cmpL_swap a b
    omega
  · omega
theorem cmpL_append : ∀ {a b : List Int} (x y : List Int), a.length = b.length → cmpL (a ++ x) (b ++ y) = if cmpL a b = 0 then cmpL x y else cmpL a b
  | [], [], x, y, _ => by simp [cmpL]
  | [], _ :: _, x, y, h => by simp at h
  | _ :: _, [], x, y, h => by simp at h
  | p :: a, q :: b, x, y, h => by
    rw [List.cons_append, List.cons_append, cmpL_cons, cmpL_cons, cmpL_append x y (by simpa using h)]
    by_cases h1 : p < q
    · simp [h1]
    · by_cases h2 : q < p
      · simp [h1, h2]
      · simp [h1, h2]
theorem cmpL_pre (a x y : List Int) : cmpL (a ++ x) (a ++ y) = cmpL x y := by rw [cmpL_append x y rfl, cmpL_refl, if_pos rfl]

end Go.Proofs.YtahkjagjcogeiaaDoor
/- Towns, walks and their order: plain Lean, no program in sight. -/
namespace Go.Proofs.YtahkjagjcogeiaaDoor
set_option linter.unusedVariables false

structure Link where
  id : Int
  fr : Int
  to : Int
  steps : Int
  paces : Int
  deriving DecidableEq

structure Town where
  places : List Int
  links : List Link
  deriving DecidableEq

structure Cost where
  a : Int
  b : Int
  c : Int
  d : Int
  deriving DecidableEq

structure Price where
  pace : Int
  up : Int
  step : Int
  deriving DecidableEq

def Cost.list (c : Cost) : List Int := [c.a, c.b, c.c, c.d]
def addC (x y : Cost) : Cost := ⟨x.a + y.a, x.b + y.b, x.c + y.c, x.d + y.d⟩
def zeroC : Cost := ⟨0, 0, 0, 0⟩
theorem addC_zero (x : Cost) : addC x zeroC = x := by simp [addC, zeroC]
theorem zero_addC (x : Cost) : addC zeroC x = x := by simp [addC, zeroC]
theorem addC_assoc (x y z : Cost) : addC (addC x y) z = addC x (addC y z) := by simp [addC]; omega
theorem addC_comm (x y : Cost) : addC x y = addC y x := by simp [addC]; omega

/-- What walks are ordered by. -/
def key (c : Cost) (l : List Int) : List Int := c.list ++ l
theorem key_inj {c d : Cost} {l m : List Int} (h : key c l = key d m) : c = d ∧ l = m := by
  obtain ⟨a1, a2, a3, a4⟩ := c
  obtain ⟨b1, b2, b3, b4⟩ := d
  simp [key, Cost.list] at h
  obtain ⟨rfl, rfl, rfl, rfl, rfl⟩ := h
  exact ⟨rfl, rfl⟩
theorem cmp_key (c d : Cost) (l m : List Int) : cmpL (key c l) (key d m) = if cmpL c.list d.list = 0 then cmpL l m else cmpL c.list d.list := cmpL_append l m rfl
theorem list_eq {c d : Cost} (h : cmpL c.list d.list = 0) : c = d := by
  have := cmpL_eq h
  obtain ⟨a1, a2, a3, a4⟩ := c
  obtain ⟨b1, b2, b3, b4⟩ := d
  simp [Cost.list] at this
  obtain ⟨rfl, rfl, rfl, rfl⟩ := this
  rfl
theorem cmpC_unf (c d : Cost) : cmpL c.list d.list = if c.a < d.a then -1 else if d.a < c.a then 1 else if c.b < d.b then -1 else if d.b < c.b then 1 else if c.c < d.c then -1 else if d.c < c.c then 1 else if c.d < d.d then -1 else if d.d < c.d then 1 else 0 := rfl
theorem cmpC_add (c d x : Cost) : cmpL (addC c x).list (addC d x).list = cmpL c.list d.list := by
  rw [cmpC_unf, cmpC_unf]
  unfold addC
  have e : ∀ u v w : Int, (u + w < v + w) = (u < v) := fun u v w => propext ⟨fun h => by omega, fun h => by omega⟩
  simp only [e]
theorem cmpC_add' (c d x : Cost) : cmpL (addC x c).list (addC x d).list = cmpL c.list d.list := by rw [addC_comm x c, addC_comm x d]; exact cmpC_add c d x
theorem cmpC_grow (c x : Cost) (ha : 0 ≤ x.a) (hb : 0 ≤ x.b) (hc : 0 < x.c) : cmpL c.list (addC c x).list = -1 := by
  rw [cmpC_unf]
  unfold addC
  split
  · rfl
  · rw [if_neg (by simp; omega)]
    split
    · rfl
    · rw [if_neg (by simp; omega), if_pos (by simp; omega)]
/-- A link more at the end, or at the head. -/
theorem key_snoc (c d x : Cost) (l m : List Int) (i : Int) (h1 : c.d = l.length) (h2 : d.d = m.length) : cmpL (key (addC c x) (l ++ [i])) (key (addC d x) (m ++ [i])) = cmpL (key c l) (key d m) := by
  rw [cmp_key, cmp_key, cmpC_add]
  split
  · rename_i h
    have := list_eq h
    subst this
    rw [cmpL_append _ _ (by omega), cmpL_refl]
    split
    · rename_i h3; rw [h3]
    · rfl
  · rfl
theorem key_cons (c d x : Cost) (l m : List Int) (i : Int) : cmpL (key (addC x c) (i :: l)) (key (addC x d) (i :: m)) = cmpL (key c l) (key d m) := by
  rw [cmp_key, cmp_key, cmpC_add', cmpL_same]
theorem key_grow (c x : Cost) (l m : List Int) (ha : 0 ≤ x.a) (hb : 0 ≤ x.b) (hc : 0 < x.c) : cmpL (key c l) (key (addC c x) m) < 0 := by
  rw [cmp_key, cmpC_grow c x ha hb hc, if_neg (by decide)]; decide

/-- The place to which a link leads from one, and what it costs. -/
def leads (dk : Bool) (p : Price) (x : Link) (v : Int) : Option (Int × Cost) :=
  if dk = true ∧ 0 < x.steps then none
  else if x.fr = v then some (x.to, ⟨x.paces * p.pace + x.steps * (p.up + p.step), x.steps, x.paces, 1⟩)
  else if x.to = v then some (x.fr, ⟨x.paces * p.pace + x.steps * p.step, 0, x.paces, 1⟩)
  else none

inductive Walk (t : Town) (dk : Bool) (p : Price) : Int → Int → Cost → List Int → Prop
  | nil (v : Int) : Walk t dk p v v zeroC []
  | cons {u m v : Int} {x : Link} {c d : Cost} {l : List Int} (hx : x ∈ t.links) (hl : leads dk p x u = some (m, c)) (h : Walk t dk p m v d l) : Walk t dk p u v (addC c d) (x.id :: l)

/-- What is right about a town, for walks; and about a price. -/
structure Fine (t : Town) : Prop where
  steps : ∀ x ∈ t.links, 0 ≤ x.steps ∧ x.steps ≤ 500
  paces : ∀ x ∈ t.links, 1 ≤ x.paces ∧ x.paces ≤ 2000
  ends : ∀ x ∈ t.links, x.fr ∈ t.places ∧ x.to ∈ t.places
  ids : t.links.Pairwise fun x y => x.id < y.id
  size : t.places.length ≤ 9
structure Fair (p : Price) : Prop where
  pace : 0 ≤ p.pace ∧ p.pace ≤ 50
  up : 0 ≤ p.up
  step : 0 ≤ p.step
  both : p.up + p.step ≤ 50

section
variable {t : Town} {dk : Bool} {p : Price} {u v m : Int} {c d : Cost} {l k : List Int} {x : Link}
theorem leads_cost (hx : x ∈ t.links) (ht : Fine t) (hp : Fair p) (h : leads dk p x u = some (m, c)) : 0 ≤ c.a ∧ c.a ≤ 125000 ∧ 0 ≤ c.b ∧ c.b ≤ 500 ∧ 1 ≤ c.c ∧ c.c ≤ 2000 ∧ c.d = 1 := by
  have h1 := ht.steps x hx
  have h2 := ht.paces x hx
  obtain ⟨hp1, hp2, hp3, hp4⟩ := hp
  have m1 : 0 ≤ x.paces * p.pace ∧ x.paces * p.pace ≤ 2000 * 50 := ⟨Int.mul_nonneg (by omega) (by omega), Int.mul_le_mul (by omega) (by omega) (by omega) (by omega)⟩
  have m2 : 0 ≤ x.steps * (p.up + p.step) ∧ x.steps * (p.up + p.step) ≤ 500 * 50 := ⟨Int.mul_nonneg (by omega) (by omega), Int.mul_le_mul (by omega) (by omega) (by omega) (by omega)⟩
  have m3 : 0 ≤ x.steps * p.step ∧ x.steps * p.step ≤ 500 * 50 := ⟨Int.mul_nonneg (by omega) (by omega), Int.mul_le_mul (by omega) (by omega) (by omega) (by omega)⟩
  unfold leads at h
  split at h
  · cases h
  · split at h
    · cases h; refine ⟨?_, ?_, ?_, ?_, ?_, ?_, rfl⟩ <;> simp <;> omega
    · split at h
      · cases h; refine ⟨?_, ?_, ?_, ?_, ?_, ?_, rfl⟩ <;> simp <;> omega
      · cases h
theorem leads_ends (hx : x ∈ t.links) (ht : Fine t) (h : leads dk p x u = some (m, c)) : u ∈ t.places ∧ m ∈ t.places := by
  have := ht.ends x hx
  unfold leads at h
  split at h
  · cases h
  · split at h
    · rename_i e; cases h; subst e; exact ⟨this.1, this.2⟩
    · split at h
      · rename_i e; cases h; subst e; exact ⟨this.2, this.1⟩
      · cases h
theorem Walk.append (h : Walk t dk p u v c l) : ∀ {m : Int} {d : Cost} {k : List Int}, Walk t dk p v m d k → Walk t dk p u m (addC c d) (l ++ k) := by
  induction h with
  | nil v => intro m d k h; rw [zero_addC]; exact h
  | cons hx hl _ ih => intro m d k h; rw [addC_assoc]; exact .cons hx hl (ih h)
theorem Walk.snoc (h : Walk t dk p u v c l) (hx : x ∈ t.links) (hl : leads dk p x v = some (m, d)) : Walk t dk p u m (addC c d) (l ++ [x.id]) := by
  have := h.append (.cons hx hl (.nil m))
  rwa [addC_zero] at this
theorem Walk.bound (h : Walk t dk p u v c l) (ht : Fine t) (hp : Fair p) : 0 ≤ c.a ∧ c.a ≤ 125000 * l.length ∧ 0 ≤ c.b ∧ c.b ≤ 500 * l.length ∧ l.length ≤ c.c ∧ c.c ≤ 2000 * l.length ∧ c.d = l.length := by
  induction h with
  | nil v => simp [zeroC]
  | cons hx hl _ ih =>
    have := leads_cost hx ht hp hl
    obtain ⟨i1, i2, i3, i4, i5, i6, i7⟩ := ih
    simp only [addC, List.length_cons]
    omega
theorem Walk.ends (h : Walk t dk p u v c l) (ht : Fine t) : (u = v ∧ l = []) ∨ (u ∈ t.places ∧ v ∈ t.places) := by
  induction h with
  | nil v => exact .inl ⟨rfl, rfl⟩
  | cons hx hl _ ih =>
    have := leads_ends hx ht hl
    rcases ih with ⟨rfl, _⟩ | ih
    · exact .inr this
    · exact .inr ⟨this.1, ih.2⟩
/-- Out of a set of places. -/
theorem Walk.cross (S : Int → Prop) (h : Walk t dk p u v c l) : S u → ¬ S v → ∃ m n x c1 c2 c3 l1 l2, Walk t dk p u m c1 l1 ∧ S m ∧ x ∈ t.links ∧ leads dk p x m = some (n, c2) ∧ ¬ S n ∧ Walk t dk p n v c3 l2 ∧ c = addC (addC c1 c2) c3 ∧ l = (l1 ++ [x.id]) ++ l2 := by
  induction h with
  | nil v => intro h1 h2; exact absurd h1 h2
  | @cons u m v x c d l hx hl hw ih =>
    intro h1 h2
    by_cases hm : S m
    · obtain ⟨m', n, y, c1, c2, c3, l1, l2, w1, s1, hy, ly, sn, w2, e1, e2⟩ := ih hm h2
      refine ⟨m', n, y, addC c c1, c2, c3, x.id :: l1, l2, .cons hx hl w1, s1, hy, ly, sn, w2, ?_, ?_⟩
      · rw [e1, addC_assoc, addC_assoc, addC_assoc]
      · rw [e2]; simp
    · exact ⟨u, m, x, zeroC, c, d, [], l, .nil u, h1, hx, hl, hm, hw, by rw [zero_addC], by simp⟩
end

/-- r tells the walk before all others; none: there is none. -/
def First (t : Town) (dk : Bool) (p : Price) (u v : Int) : Option (Cost × List Int) → Prop
  | none => ∀ c l, ¬ Walk t dk p u v c l
  | some (c, l) => Walk t dk p u v c l ∧ ∀ c' l', Walk t dk p u v c' l' → cmpL (key c l) (key c' l') ≤ 0

section
variable {t : Town} {dk : Bool} {p : Price} {u v m : Int} {c d : Cost} {l k : List Int} {x : Link}
theorem First.unique {r r' : Option (Cost × List Int)} (h : First t dk p u v r) (h' : First t dk p u v r') : r = r' := by
  match r, r', h, h' with
  | none, none, _, _ => rfl
  | none, some (c, l), h, h' => exact absurd h'.1 (h c l)
  | some (c, l), none, h, h' => exact absurd h.1 (h' c l)
  | some (c, l), some (d, k), h, h' =>
    have := cmpL_antisymm (h.2 _ _ h'.1) (h'.2 _ _ h.1)
    obtain ⟨rfl, rfl⟩ := key_inj this
    rfl
/-- Each link more costs more. -/
theorem Walk.longer (h : Walk t dk p u v c l) (ht : Fine t) (hp : Fair p) (d : Cost) (k m : List Int) : cmpL (key d k) (key (addC d c) m) < 0 ∨ (l = [] ∧ c = zeroC ∧ u = v) := by
  have hb := h.bound ht hp
  cases h with
  | nil v => exact .inr ⟨rfl, rfl, rfl⟩
  | cons hx hl hw =>
    refine .inl (key_grow d _ k m hb.1 hb.2.2.1 ?_)
    have := hb.2.2.2.2.1
    simp at this ⊢
    omega
theorem Walk.longer' (h : Walk t dk p u v c l) (ht : Fine t) (hp : Fair p) (d : Cost) (k : List Int) : cmpL (key d k) (key (addC d c) (k ++ l)) ≤ 0 := by
  rcases h.longer ht hp d k (k ++ l) with h1 | ⟨rfl, rfl, _⟩
  · omega
  · rw [addC_zero, List.append_nil, cmpL_refl]; omega

/-- THE STEP: the least of all open walks is the first one to its place. -/
structure DInv (t : Town) (dk : Bool) (p : Price) (s : Int) (S O : Int → Option (Cost × List Int)) : Prop where
  disj : ∀ v, O v ≠ none → S v = none
  sFirst : ∀ v r, S v = some r → First t dk p s v (some r)
  oWalk : ∀ v c l, O v = some (c, l) → Walk t dk p s v c l
  cross : ∀ u c l, S u = some (c, l) → ∀ x ∈ t.links, ∀ n d, leads dk p x u = some (n, d) → S n ≠ none ∨ ∃ c' l', O n = some (c', l') ∧ cmpL (key c' l') (key (addC c d) (l ++ [x.id])) ≤ 0
  start : S s ≠ none ∨ O s = some (zeroC, [])

theorem DInv.least {s : Int} {S O : Int → Option (Cost × List Int)} (h : DInv t dk p s S O) (ht : Fine t) (hp : Fair p) {c : Cost} {l : List Int} (ho : O v = some (c, l))
    (hmin : ∀ v' c' l', O v' = some (c', l') → cmpL (key c l) (key c' l') ≤ 0) : First t dk p s v (some (c, l)) := by
  refine ⟨h.oWalk _ _ _ ho, fun c' l' hw => ?_⟩
  rcases h.start with hs | hs
  · have hv : ¬ S v ≠ none := fun hc => hc (h.disj v (by rw [ho]; simp))
    obtain ⟨m, n, x, c1, c2, c3, l1, l2, w1, sm, hx, lx, sn, w2, rfl, rfl⟩ := hw.cross (fun v => S v ≠ none) hs hv
    cases hm : S m with
    | none => exact absurd hm sm
    | some r =>
      obtain ⟨cm, lm⟩ := r
      have fm := h.sFirst m _ hm
      rcases h.cross m cm lm hm x hx n c2 lx with hn | ⟨cn, ln, hn, hle⟩
      · exact absurd hn sn
      · have k1 := hmin n cn ln hn
        have k2 := fm.2 _ _ w1
        have k3 : cmpL (key (addC cm c2) (lm ++ [x.id])) (key (addC c1 c2) (l1 ++ [x.id])) ≤ 0 := by
          rw [key_snoc _ _ _ _ _ _ (fm.1.bound ht hp).2.2.2.2.2.2 (w1.bound ht hp).2.2.2.2.2.2]; exact k2
        exact cmpL_trans (cmpL_trans (cmpL_trans k1 hle) k3) (w2.longer' ht hp _ _)
  · have k1 := hmin s _ _ hs
    have := hw.longer' ht hp zeroC []
    rw [zero_addC, List.nil_append] at this
    exact cmpL_trans k1 this

theorem DInv.over {s : Int} {S O : Int → Option (Cost × List Int)} (h : DInv t dk p s S O) (hO : ∀ v, O v = none) (v : Int) : First t dk p s v (S v) := by
  cases hv : S v with
  | some r => exact h.sFirst v r hv
  | none =>
    intro c l hw
    rcases h.start with hs | hs
    · obtain ⟨m, n, x, c1, c2, c3, l1, l2, w1, sm, hx, lx, sn, _⟩ := hw.cross (fun v => S v ≠ none) hs (by simp [hv])
      cases hm : S m with
      | none => exact absurd hm sm
      | some r =>
        obtain ⟨cm, lm⟩ := r
        rcases h.cross m cm lm hm x hx n c2 lx with hn | ⟨cn, ln, hn, _⟩
        · exact absurd hn sn
        · rw [hO n] at hn; cases hn
    · rw [hO s] at hs; cases hs

/-- Within the round: the links of w (at place a) up to k are done. -/
structure DMid (t : Town) (dk : Bool) (p : Price) (s a : Int) (cw : Cost) (lw : List Int) (k : Nat) (S O : Int → Option (Cost × List Int)) : Prop where
  disj : ∀ v, O v ≠ none → S v = none
  sFirst : ∀ v r, S v = some r → First t dk p s v (some r)
  oWalk : ∀ v c l, O v = some (c, l) → Walk t dk p s v c l
  cross : ∀ u c l, S u = some (c, l) → u ≠ a → ∀ x ∈ t.links, ∀ n d, leads dk p x u = some (n, d) → S n ≠ none ∨ ∃ c' l', O n = some (c', l') ∧ cmpL (key c' l') (key (addC c d) (l ++ [x.id])) ≤ 0
  now : ∀ x ∈ t.links.take k, ∀ n d, leads dk p x a = some (n, d) → S n ≠ none ∨ ∃ c' l', O n = some (c', l') ∧ cmpL (key c' l') (key (addC cw d) (lw ++ [x.id])) ≤ 0
  start : S s ≠ none
  here : S a = some (cw, lw)

def setF {β : Type} (f : Int → Option β) (v : Int) (r : Option β) : Int → Option β := fun u => if u = v then r else f u
theorem setF_same {β : Type} (f : Int → Option β) (v : Int) (r : Option β) : setF f v r v = r := by simp [setF]
theorem setF_other {β : Type} (f : Int → Option β) {v u : Int} (r : Option β) (h : u ≠ v) : setF f v r u = f u := by simp [setF, h]

theorem DInv.enter {s a : Int} {S O : Int → Option (Cost × List Int)} (h : DInv t dk p s S O) (ht : Fine t) (hp : Fair p) {c : Cost} {l : List Int} (ho : O a = some (c, l))
    (hmin : ∀ v' c' l', O v' = some (c', l') → cmpL (key c l) (key c' l') ≤ 0) : DMid t dk p s a c l 0 (setF S a (some (c, l))) (setF O a none) := by
  have hf := h.least ht hp ho hmin
  refine ⟨?_, ?_, ?_, ?_, ?_, ?_, setF_same _ _ _⟩
  · intro v hv
    by_cases e : v = a
    · subst e; rw [setF_same] at hv; exact absurd rfl hv
    · rw [setF_other _ _ e] at hv ⊢; exact h.disj v hv
  · intro v r hr
    by_cases e : v = a
    · subst e; rw [setF_same] at hr; cases hr; exact hf
    · rw [setF_other _ _ e] at hr; exact h.sFirst v r hr
  · intro v c' l' hr
    by_cases e : v = a
    · subst e; rw [setF_same] at hr; cases hr
    · rw [setF_other _ _ e] at hr; exact h.oWalk v _ _ hr
  · intro u c' l' hu hne x hx n d hl
    rw [setF_other _ _ hne] at hu
    by_cases e : n = a
    · subst e; left; rw [setF_same]; simp
    · rw [setF_other _ _ e, setF_other _ _ e]
      exact h.cross u c' l' hu x hx n d hl
  · intro x hx; simp at hx
  · by_cases e : s = a
    · subst e; rw [setF_same]; simp
    · rw [setF_other _ _ e]
      rcases h.start with hs | hs
      · exact hs
      · exfalso
        have h1 := hmin s _ _ hs
        have h2 := (h.oWalk a _ _ ho).longer ht hp zeroC [] l
        rw [zero_addC] at h2
        rcases h2 with h2 | ⟨_, _, h2⟩
        · have := cmpL_swap (key c l) (key zeroC [])
          omega
        · exact e h2

theorem DMid.leave {s a : Int} {S O : Int → Option (Cost × List Int)} {cw : Cost} {lw : List Int} {k : Nat} (h : DMid t dk p s a cw lw k S O) (hk : t.links.length ≤ k) : DInv t dk p s S O := by
  refine ⟨h.disj, h.sFirst, h.oWalk, ?_, .inl h.start⟩
  intro u c l hu x hx n d hl
  by_cases e : u = a
  · subst e
    rw [h.here] at hu
    cases hu
    exact h.now x (by rw [List.take_of_length_le hk]; exact hx) n d hl
  · exact h.cross u c l hu e x hx n d hl

/-- A link that leads nowhere new. -/
theorem DMid.skip {s a : Int} {S O : Int → Option (Cost × List Int)} {cw : Cost} {lw : List Int} {k : Nat} (h : DMid t dk p s a cw lw k S O) (hx : t.links[k]? = some x)
    (hno : ∀ n d, leads dk p x a = some (n, d) → S n ≠ none ∨ ∃ c' l', O n = some (c', l') ∧ cmpL (key c' l') (key (addC cw d) (lw ++ [x.id])) ≤ 0) : DMid t dk p s a cw lw (k + 1) S O := by
  refine ⟨h.disj, h.sFirst, h.oWalk, h.cross, ?_, h.start, h.here⟩
  intro y hy n d hl
  obtain ⟨hk, rfl⟩ := List.getElem?_eq_some_iff.1 hx
  rw [List.take_succ_eq_append_getElem hk, List.mem_append] at hy
  rcases hy with hy | hy
  · exact h.now y hy n d hl
  · simp at hy; subst hy; exact hno n d hl

/-- A link that leads to a place by a walk that is before. -/
theorem DMid.take {s a n : Int} {S O : Int → Option (Cost × List Int)} {cw dx : Cost} {lw : List Int} {k : Nat} (h : DMid t dk p s a cw lw k S O) (hx : t.links[k]? = some x) (hl : leads dk p x a = some (n, dx)) (hn : S n = none)
    (hbe : ∀ c' l', O n = some (c', l') → cmpL (key (addC cw dx) (lw ++ [x.id])) (key c' l') ≤ 0) : DMid t dk p s a cw lw (k + 1) S (setF O n (some (addC cw dx, lw ++ [x.id]))) := by
  have hxm : x ∈ t.links := List.mem_of_getElem? hx
  have hw : Walk t dk p s n (addC cw dx) (lw ++ [x.id]) := (h.sFirst a _ h.here).1.snoc hxm hl
  have old : ∀ {m : Int} {K : List Int}, (S m ≠ none ∨ ∃ c' l', O m = some (c', l') ∧ cmpL (key c' l') K ≤ 0) → S m ≠ none ∨ ∃ c' l', setF O n (some (addC cw dx, lw ++ [x.id])) m = some (c', l') ∧ cmpL (key c' l') K ≤ 0 := by
    intro m K h1
    rcases h1 with h1 | ⟨c', l', h1, h2⟩
    · exact .inl h1
    · by_cases e : m = n
      · subst e
        exact .inr ⟨_, _, setF_same _ _ _, cmpL_trans (hbe _ _ h1) h2⟩
      · exact .inr ⟨c', l', by rw [setF_other _ _ e]; exact h1, h2⟩
  refine ⟨?_, h.sFirst, ?_, ?_, ?_, h.start, h.here⟩
  · intro v hv
    by_cases e : v = n
    · subst e; exact hn
    · rw [setF_other _ _ e] at hv; exact h.disj v hv
  · intro v c' l' hr
    by_cases e : v = n
    · subst e; rw [setF_same] at hr; cases hr; exact hw
    · rw [setF_other _ _ e] at hr; exact h.oWalk v _ _ hr
  · intro u c' l' hu hne y hy m d hl'
    exact old (h.cross u c' l' hu hne y hy m d hl')
  · intro y hy m d hl'
    obtain ⟨hk, rfl⟩ := List.getElem?_eq_some_iff.1 hx
    rw [List.take_succ_eq_append_getElem hk, List.mem_append] at hy
    rcases hy with hy | hy
    · exact old (h.now y hy m d hl')
    · simp at hy; subst hy
      rw [hl] at hl'
      cases hl'
      exact .inr ⟨_, _, setF_same _ _ _, by rw [cmpL_refl]; omega⟩

theorem DInv.init (s : Int) : DInv t dk p s (fun _ => none) (fun v => if v = s then some (zeroC, []) else none) := by
  refine ⟨fun _ _ => rfl, fun _ _ h => (by cases h), ?_, fun _ _ _ h => (by cases h), .inr (by simp)⟩
  intro v c l h
  split at h
  · rename_i e; cases h; subst e; exact .nil _
  · cases h
end
end Go.Proofs.YtahkjagjcogeiaaDoor
/- Towns: what they are, and how they lie in memory. climb.has, climb.ids. -/
namespace Go.Proofs.YtahkjagjcogeiaaDoor
open Go.RowKit
set_option linter.unusedVariables false

def Link.vals (x : Link) : List Value := [.int .i64 x.id, .int .i64 x.fr, .int .i64 x.to, .int .i64 x.steps, .int .i64 x.paces]
/-- A slice of links. -/
def LinksAt (w : World) (B : Nat) (A : Option Addr) (n : Nat) (l : List Link) : Prop := Reads w B 5 A n (l.flatMap Link.vals)

theorem flat_len (l : List Link) : (l.flatMap Link.vals).length = l.length * 5 := by
  induction l with
  | nil => rfl
  | cons x l ih => rw [List.flatMap_cons, List.length_append, ih, List.length_cons]; simp [Link.vals]; omega

theorem flat_at {l : List Link} {k j : Nat} {x : Link} (h : l[k]? = some x) (hj : j < 5) : (l.flatMap Link.vals)[k * 5 + j]? = x.vals[j]? := by
  induction l generalizing k with
  | nil => simp at h
  | cons y l ih =>
    rw [List.flatMap_cons]
    cases k with
    | zero =>
      simp at h; subst h
      rw [List.getElem?_append_left (by simp [Link.vals]; omega)]; simp
    | succ k =>
      rw [List.getElem?_append_right (by simp [Link.vals]; omega)]
      have : (k + 1) * 5 + j - y.vals.length = k * 5 + j := by simp [Link.vals]; omega
      rw [this]
      exact ih (by simpa using h)

section
variable {w w' : World} {B B' n : Nat} {A : Option Addr} {l : List Link}
theorem LinksAt.len (h : LinksAt w B A n l) : l.length = n := by have := h.1; rw [flat_len] at this; omega
theorem LinksAt.below (h : LinksAt w B A n l) (hb : Below B w w') : LinksAt w' B A n l := Reads.below h hb
theorem LinksAt.more (h : LinksAt w B A n l) (hB : B ≤ B') : LinksAt w B' A n l := Reads.more h hB
theorem LinksAt.cell (h : LinksAt w B A n l) {k : Nat} (hk : k < n) : ∃ b off x, A = some ⟨b, off, none⟩ ∧ b < B ∧ l[k]? = some x ∧
    w.cell? ⟨b, off + k * 5, none⟩ = some (.int .i64 x.id) ∧ w.cell? ⟨b, off + k * 5 + 1, none⟩ = some (.int .i64 x.fr) ∧ w.cell? ⟨b, off + k * 5 + 2, none⟩ = some (.int .i64 x.to)
     ∧ w.cell? ⟨b, off + k * 5 + 3, none⟩ = some (.int .i64 x.steps) ∧ w.cell? ⟨b, off + k * 5 + 4, none⟩ = some (.int .i64 x.paces) := by
  have hl := h.len
  obtain ⟨b, off, e, hb, hc⟩ := Reads.plain h (by rw [flat_len]; omega)
  have hx : l[k]? = some l[k] := List.getElem?_eq_getElem (by omega)
  refine ⟨b, off, _, e, hb, hx, ?_, ?_, ?_, ?_, ?_⟩
  · have := hc (k * 5) (.int .i64 l[k].id) (by have := flat_at (j := 0) hx (by omega); simpa [Link.vals] using this); exact this
  · have := hc (k * 5 + 1) (.int .i64 l[k].fr) (by have := flat_at (j := 1) hx (by omega); simpa [Link.vals] using this); exact this
  · have := hc (k * 5 + 2) (.int .i64 l[k].to) (by have := flat_at (j := 2) hx (by omega); simpa [Link.vals] using this); exact this
  · have := hc (k * 5 + 3) (.int .i64 l[k].steps) (by have := flat_at (j := 3) hx (by omega); simpa [Link.vals] using this); exact this
  · have := hc (k * 5 + 4) (.int .i64 l[k].paces) (by have := flat_at (j := 4) hx (by omega); simpa [Link.vals] using this); exact this
end

structure TownAt (w : World) (B : Nat) (A : Option Addr) (n : Nat) (A' : Option Addr) (m : Nat) (t : Town) : Prop where
  places : IntsAt w B A n t.places
  links : LinksAt w B A' m t.links
section
variable {w w' : World} {B B' n m : Nat} {A A' : Option Addr} {t : Town}
theorem TownAt.below (h : TownAt w B A n A' m t) (hb : Below B w w') : TownAt w' B A n A' m t := ⟨h.places.below hb, h.links.below hb⟩
theorem TownAt.more (h : TownAt w B A n A' m t) (hB : B ≤ B') : TownAt w B' A n A' m t := ⟨h.places.more hB, h.links.more hB⟩
end

theorem has1_any (A : Option Addr) (n c : Nat) (A' : Option Addr) (m d : Nat) (t : Town) (x : Int) (g : Nat) (w : World) (hn : n ≤ maxLen)
    (ht : TownAt w w.heap.size A n A' m t) (h0 : w.cell? ⟨g, 0, none⟩ = some (.slice A n c)) :
    Calls Tryd.prog 136 (#[.int .i64 x] ++ #[.pointer (some ⟨g, 0, none⟩)]) w fun e w' => e = .returned (.bool (!memI t.places x)) ∧ Below w.heap.size w w' := by
  have H := Lib.hid (contains_int A n c t.places x w ht.places hn)
  go_enter Tryd.func136, Tryd.ntmps136
  go_wp2_with fail
  refine H.out.mono ?_
  rintro e w' ⟨rfl, hb⟩
  go_wp2_with fail
  go_ret
  exact ⟨rfl, hb⟩

theorem enters_has1 (args : Array Value) (W : World) : (callFunc 136 args).run Tryd.prog W = .ok (.enter 136 args) W := by
  simp [go_sem]

/-- Whether all are places. -/
def hasB (t : Town) (l : List Int) : Bool := !l.any fun x => !memI t.places x

theorem has_any (A : Option Addr) (n c : Nat) (A' : Option Addr) (m d : Nat) (t : Town) (A2 : Option Addr) (k e : Nat) (l : List Int) (w : World) (hn : n ≤ maxLen) (hk : k ≤ maxLen)
    (ht : TownAt w w.heap.size A n A' m t) (hr : IntsAt w w.heap.size A2 k l) :
    Calls Tryd.prog 105 #[.agg #[.slice A n c, .slice A' m d], .slice A2 k e] w fun e w' => e = .returned (.bool (hasB t l)) ∧ Below w.heap.size w w' := by
  have hmf : ∀ (fn : Fn) (first cap : Array Value) (w : World), (Instr.makeFunc fn first cap).run Tryd.prog w = .ok (.func fn first cap) w := fun _ _ _ _ => rfl
  go_enter Tryd.func105, Tryd.ntmps105
  go_wp2_with fail
  have hb : Below w.heap.size w (w.alloc (.cells #[.slice A n c, .slice A' m d] 25)) := (Below.refl _ _).alloc (Nat.le_refl _) _
  refine (containsFunc_int 136 _ (fun x => !memI t.places x) A2 k e l _ ((hr.below hb).more (by simp)) hk enters_has1 ?_).mono ?_
  · intro x _ W hW
    have hW' : Below w.heap.size w W := hb.trans (hW.mono (by simp))
    exact has1_any A n c A' m d t x _ W hn ((ht.below hW').more hW'.size) ((hW.cell (p := ⟨w.heap.size, 0, none⟩) (by simp)).trans (by simp [go_sem]))
  · rintro e w' ⟨rfl, hb'⟩
    go_wp2_with fail
    go_ret
    exact ⟨rfl, hb.trans (hb'.mono (by simp))⟩
end Go.Proofs.YtahkjagjcogeiaaDoor
/- One law on append, whatever its source; slices that a call owns. -/
namespace Go.Proofs.YtahkjagjcogeiaaDoor
open Go.RowKit
set_option linter.unusedVariables false

/-- The slice type t over elements e: zero value z, 'size' cells, 'bytes' bytes. -/
structure ElemI (P : Program) (t e : TypeId) (i : TypeInfo) (z : Value) (size bytes : Nat) : Prop where
  und : P.underlying t = some (.slice e)
  info : P.info? e = some i
  zero : i.zero = some z
  isize : i.size = size
  ibytes : i.bytes = bytes
  zcells : z.cells.size = size
  pos : 0 < size

def ElemAt (P : Program) (t e : TypeId) (z : Value) (size bytes : Nat) : Prop := ∃ i, ElemI P t e i z size bytes

/-- The call owns the slice (A, n, cap), which holds the cells xs. -/
def Own (w : World) (base : Nat) (e : TypeId) (size : Nat) (A : Option Addr) (n cap : Nat) (xs : List Value) : Prop := w.ownsRow base e size (.slice A n cap) n xs

section
variable {w w' : World} {base n cap size : Nat} {e : TypeId} {A : Option Addr} {xs : List Value}
theorem Own.none_ (w : World) (base : Nat) (e : TypeId) (size : Nat) : Own w base e size none 0 0 [] := World.ownsRow_nil w base e size
theorem Own.form (h : Own w base e size A n cap xs) : (A = none ∧ n = 0 ∧ cap = 0 ∧ xs = []) ∨ ∃ g cur, A = some ⟨g, 0, none⟩ ∧ base ≤ g ∧ Blk w g e cur ∧ n ≤ cap ∧ cap ≤ maxLen ∧ cur.size = cap * size ∧ cur.toList.take (n * size) = xs ∧ xs.length = n * size := by
  rcases h.2 with ⟨hv, h0⟩ | ⟨g, cap', cur, hv, hb, hg, h1, h2, h3, h4⟩
  · simp at hv
    obtain ⟨rfl, rfl, rfl⟩ := hv
    exact .inl ⟨rfl, rfl, rfl, List.eq_nil_of_length_eq_zero (by simpa using h.1)⟩
  · simp at hv
    obtain ⟨rfl, rfl⟩ := hv
    exact .inr ⟨g, cur, rfl, hb, hg, h1, h2, h3, h4, h.1⟩
theorem Own.len (h : Own w base e size A n cap xs) : xs.length = n * size := h.1
theorem Own.cap_le (h : Own w base e size A n cap xs) : n ≤ cap ∧ cap ≤ maxLen := by
  rcases h.form with ⟨_, rfl, rfl, _⟩ | ⟨_, _, _, _, _, h1, h2, _⟩
  · exact ⟨Nat.le_refl _, by unfold maxLen; omega⟩
  · exact ⟨h1, h2⟩
theorem Own.reads (h : Own w base e size A n cap xs) {B : Nat} (hB : w.heap.size ≤ B) : Reads w B size A n xs := by
  rcases h.form with ⟨rfl, rfl, rfl, rfl⟩ | ⟨g, cur, rfl, hb, hg, h1, h2, h3, h4, h5⟩
  · exact Reads.none_
  · refine ⟨h5, fun _ => ⟨_, rfl, Nat.lt_of_lt_of_le hg.lt hB, fun j u hu => ?_⟩⟩
    have ha : ((⟨g, 0, none⟩ : Addr).add j) = ⟨g, j, none⟩ := by
      unfold Addr.add
      by_cases hj : j = 0
      · simp [hj]
      · simp [hj]
    have hj : j < n * size := by
      rw [← h5]
      exact (List.getElem?_eq_some_iff.1 hu).1
    rw [ha, hg.cell, ← Array.getElem?_toList, ← hu, ← h4, List.getElem?_take, if_pos hj]
theorem Own.mono (h : Own w base e size A n cap xs) {b' : Nat} (hb : b' ≤ base) : Own w b' e size A n cap xs := by
  refine ⟨h.1, ?_⟩
  rcases h.2 with h' | ⟨g, cap', cur, hv, hb', hr⟩
  · exact .inl h'
  · exact .inr ⟨g, cap', cur, hv, Nat.le_trans hb hb', hr⟩
theorem Own.alloc (h : Own w base e size A n cap xs) (o : Obj) : Own (w.alloc o) base e size A n cap xs := World.ownsRow.alloc h o
theorem Own.drewN (h : Own w base e size A n cap xs) (k : Nat) : Own (w.drewN k) base e size A n cap xs := h
theorem Own.below {B : Nat} (h : Own w base e size A n cap xs) (hb : Below B w w') (hB : w.heap.size ≤ B) : Own w' base e size A n cap xs := by
  refine ⟨h.1, ?_⟩
  rcases h.2 with h' | ⟨g, cap', cur, hv, hb', hg, hr⟩
  · exact .inl h'
  · have hl : g < w.heap.size := by
      rcases Nat.lt_or_ge g w.heap.size with hlt | hge
      · exact hlt
      · rw [Array.getElem?_eq_none hge] at hg; cases hg
    exact .inr ⟨g, cap', cur, hv, hb', (hb.block g (by omega)).trans hg, hr⟩
/-- The own block, if there is one. -/
theorem Own.lt (h : Own w base e size A n cap xs) {a : Addr} (ha : A = some a) : base ≤ a.block ∧ a.block < w.heap.size := by
  rcases h.form with ⟨rfl, _⟩ | ⟨g, cur, rfl, hb, hg, _⟩
  · cases ha
  · cases ha; exact ⟨hb, hg.lt⟩
theorem Own.nil (h : Own w base e size none n cap xs) : n = 0 ∧ cap = 0 ∧ xs = [] := by
  rcases h.form with ⟨_, h1, h2, h3⟩ | ⟨g, cur, h', _⟩
  · exact ⟨h1, h2, h3⟩
  · cases h'
end

theorem ownBlock_slice (A : Option Addr) (n cap : Nat) : (Value.slice A n cap).ownBlock = A.map (·.block) := by
  cases A <;> rfl

section
variable {P : Program} (w : World)
/-- THE LAW ON append: the source may be nil, empty, or hold cells. -/
theorem run_append_any {t e : TypeId} (ty : TypeId) {z : Value} {size bytes : Nat} (EE : ElemAt P t e z size bytes) {base : Nat} {A : Option Addr} {n cap : Nat} {xs : List Value} (hown : Own w base e size A n cap xs)
    {A2 : Option Addr} {m c B : Nat} {news : List Value} (hR : Reads w B size A2 m news) (h1 : ∀ u ∈ news, u.oneCell' = true) (h63 : n + m ≤ maxLen) (hbytes : (n + m) * bytes ≤ 140737488355328) (hbase : base ≤ w.heap.size) :
    ∃ A' cap' w', (Builtin.append_ #[t, t] ty #[.slice A n cap, .slice A2 m c]).run P w = .ok (.slice A' (n + m) cap') w' ∧ Own w' base e size A' (n + m) cap' (xs ++ news) ∧ w.grownBy w' (A.map (·.block)) ∧ (A' = A ∨ A' = some ⟨w.heap.size, 0, none⟩) := by
  obtain ⟨i, E⟩ := EE
  have main : ∀ (ad : Addr), (∀ j u, news[j]? = some u → w.cell? (ad.add j) = some u) → ∃ A' cap' w', (Builtin.append_ #[t, t] ty #[.slice A n cap, .slice (some ad) m c]).run P w = .ok (.slice A' (n + m) cap') w' ∧ Own w' base e size A' (n + m) cap' (xs ++ news) ∧ w.grownBy w' (A.map (·.block)) ∧ (A' = A ∨ A' = some ⟨w.heap.size, 0, none⟩) := by
    intro ad hc
    obtain ⟨v', w', hr, h2, h3, h4, h5⟩ := run_append_own_at (P := P) w base t ty e i z size bytes E.und E.info E.zero E.isize E.ibytes E.zcells E.pos _ n xs hown ad m c news hR.1 hc h1 h63 hbytes hbase
    rw [ownBlock_slice] at h3
    rcases h2.2 with ⟨hv, h0⟩ | ⟨g, cap', cur, hv, hb, hg, _⟩
    · subst hv
      have hn : n = 0 := by omega
      have hm : m = 0 := by omega
      have hA := (h4.1 rfl).1
      simp at hA
      obtain ⟨rfl, rfl, rfl⟩ := hA
      subst hm
      exact ⟨none, 0, w', hr, h2, h3, .inl rfl⟩
    · subst hv
      refine ⟨_, cap', w', hr, h2, h3, ?_⟩
      rcases hown.form with ⟨rfl, rfl, rfl, _⟩ | ⟨g', cur', rfl, _⟩
      · right
        rcases h5 with h5 | h5
        · simp [Value.ownBlock] at h5
        · simp [Value.ownBlock] at h5; rw [h5]
      · rcases h5 with h5 | h5
        · left; simp [Value.ownBlock] at h5; rw [h5]
        · right; simp [Value.ownBlock] at h5; rw [h5]
  cases A2 with
  | some ad =>
    refine main ad ?_
    rcases Nat.eq_zero_or_pos m with h0 | h0
    · have : news = [] := List.eq_nil_of_length_eq_zero (by rw [hR.1, h0]; simp)
      intro j u hu
      rw [this] at hu; simp at hu
    · obtain ⟨ad', hA, _, hc⟩ := hR.2 h0
      cases hA
      exact hc
  | none =>
    rcases Nat.eq_zero_or_pos m with h0 | h0
    · subst h0
      have hne : news = [] := List.eq_nil_of_length_eq_zero (by rw [hR.1]; simp)
      subst hne
      have hn : n ≤ cap := (Own.cap_le hown).1
      refine ⟨A, cap, w, ?_, by simpa using hown, ⟨rfl, rfl, rfl, Nat.le_refl _, fun _ _ _ => rfl⟩, .inl rfl⟩
      rcases hown.form with ⟨rfl, rfl, rfl, _⟩ | ⟨g, cur, rfl, _⟩
      · simp [Builtin.append_, run_underlying E.und, sizeOf, typeInfo, E.info, Builtin.lenOf, Builtin.firstCells]
      · simp [Builtin.append_, run_underlying E.und, sizeOf, typeInfo, E.info, Builtin.lenOf, Builtin.firstCells, hn, storeCells]
    · obtain ⟨ad', hA, _⟩ := hR.2 h0
      cases hA

/-- At the operation, for the walk. -/
theorem wpList_append_any {ops : Array Oper} {rest : List Oper} {o : Oper} {a : Act} {Q : Exit → Act → World → Prop} (hgd : o.guard = none) (s x : Operand) {t e : TypeId}
    (ho : o.op = .call { callee := .builtin .append, args := #[s, x], argTypes := #[t, t] })
    {z : Value} {size bytes : Nat} (EE : ElemAt P t e z size bytes) {base : Nat} {A : Option Addr} {n cap : Nat} {xs : List Value} (hs : a.eval s = .slice A n cap) (hown : Own w base e size A n cap xs)
    {A2 : Option Addr} {m c B : Nat} {news : List Value} (hx : a.eval x = .slice A2 m c) (hR : Reads w B size A2 m news) (h1 : ∀ u ∈ news, u.oneCell' = true) (h63 : n + m ≤ maxLen) (hbytes : (n + m) * bytes ≤ 140737488355328) (hbase : base ≤ w.heap.size)
    (h : ∀ A' cap' w', Own w' base e size A' (n + m) cap' (xs ++ news) → w.grownBy w' (A.map (·.block)) → (A' = A ∨ A' = some ⟨w.heap.size, 0, none⟩) → wpList P ops Q rest (a.put o.dst (.slice A' (n + m) cap')) w') :
    wpList P ops Q (o :: rest) a w := by
  refine wpList_plain hgd fun K hK => ?_
  obtain ⟨A', cap', w', hr, h2, h3, h4⟩ := run_append_any (P := P) w o.type EE hown hR (c := c) h1 h63 hbytes hbase
  unfold Oper.wp execOp
  simp only [ho, resolve, invoke, builtin, Sem.run_bind, Sem.run_pure, Result.andThen_ok, List.map_toArray, List.map_cons, List.map_nil, hs, hx, hr]
  exact hK _ _ (h A' cap' w' h2 h3 h4)
end

theorem info_int : (Tryd.prog.info? 3).map (fun i => (i.zero, i.size, i.bytes)) = some (some (.int .i64 0), 1, 8) := by kernel_rfl
theorem elem_int : ElemAt Tryd.prog 22 3 (.int .i64 0) 1 8 := by
  obtain ⟨i0, hi, hz0, hz1, hz2⟩ := info_parts info_int
  exact ⟨i0, Tryd.underlying22, hi, hz0, hz1, hz2, rfl, by decide⟩
theorem eql_nil_int (w : World) (a : Option Addr) (n c n' c' : Nat) : (binOp .eql 22 (.slice a n c) (.slice none n' c')).run Tryd.prog w = .ok (.bool a.isNone) w := Lib.run_eql_slice_nil w _ _ a n c n' c' Tryd.underlying22
theorem ints_one (l : List Int) : ∀ u ∈ l.map (Value.int .i64), u.oneCell' = true := by
  intro u hu; simp at hu; obtain ⟨x, _, rfl⟩ := hu; rfl
end Go.Proofs.YtahkjagjcogeiaaDoor
/- slices.IndexFunc at links. -/
namespace Go.Proofs.YtahkjagjcogeiaaDoor
open Go.RowKit
set_option linter.unusedVariables false

@[reducible] def linkW (x : Link) : Value := .agg #[.int .i64 x.id, .int .i64 x.fr, .int .i64 x.to, .int .i64 x.steps, .int .i64 x.paces]

/-- A predicate on links, as a function value: in all worlds in which the blocks below K lie as in w. -/
structure PredL (w : World) (K : Nat) (F : FuncId) (C : Array Value) (p : Link → Bool) : Prop where
  enters : ∀ args W, (callFunc F args).run Tryd.prog W = .ok (.enter F args) W
  calls : ∀ x W, Below K w W → Calls Tryd.prog F (#[.agg #[.int .i64 x.id, .int .i64 x.fr, .int .i64 x.to, .int .i64 x.steps, .int .i64 x.paces]] ++ C) W fun e w' => e = .returned (.bool (p x)) ∧ Below W.heap.size W w'
theorem PredL.below {w w' : World} {K : Nat} {F : FuncId} {C : Array Value} {p : Link → Bool} (h : PredL w K F C p) (hb : Below K w w') : PredL w' K F C p :=
  ⟨h.enters, fun x W hW => h.calls x W (hb.trans hW)⟩

end Go.Proofs.YtahkjagjcogeiaaDoor
/- slices.Clone at links. -/
namespace Go.Proofs.YtahkjagjcogeiaaDoor
open Go.RowKit
set_option linter.unusedVariables false

theorem info_link : (Tryd.prog.info? 45).map (fun i => (i.zero, i.size, i.bytes)) = some (some (.agg #[.int .i64 0, .int .i64 0, .int .i64 0, .int .i64 0, .int .i64 0]), 5, 40) := by kernel_rfl
theorem elem_link : ElemAt Tryd.prog 23 45 (.agg #[.int .i64 0, .int .i64 0, .int .i64 0, .int .i64 0, .int .i64 0]) 5 40 := by
  obtain ⟨i0, hi, hz0, hz1, hz2⟩ := info_parts info_link
  exact ⟨i0, Tryd.underlying23, hi, hz0, hz1, hz2, rfl, by decide⟩
theorem links_one (l : List Link) : ∀ u ∈ l.flatMap Link.vals, u.oneCell' = true := by
  intro u hu
  simp only [List.mem_flatMap, Link.vals, List.mem_cons, List.not_mem_nil, or_false] at hu
  obtain ⟨x, _, rfl | rfl | rfl | rfl | rfl⟩ := hu <;> rfl

end Go.Proofs.YtahkjagjcogeiaaDoor
/- Writing many cells of a block; what else lies as it lay. -/
namespace Go.Proofs.YtahkjagjcogeiaaDoor
open Go.RowKit
set_option linter.unusedVariables false

/-- Cells from o on turned. -/
def wrt : Array Value → Nat → List Value → Array Value
  | cs, _, [] => cs
  | cs, o, v :: r => wrt (cs.setIfInBounds o v) (o + 1) r
theorem wrt_size : ∀ (vs : List Value) (o : Nat) (cs : Array Value), (wrt cs o vs).size = cs.size
  | [], _, _ => rfl
  | v :: r, o, cs => by rw [wrt, wrt_size r]; simp
theorem wrt_out : ∀ (vs : List Value) (o : Nat) (cs : Array Value) (k : Nat), k < o ∨ o + vs.length ≤ k → (wrt cs o vs)[k]? = cs[k]?
  | [], _, _, _, _ => rfl
  | v :: r, o, cs, k, h => by
    simp at h
    rw [wrt, wrt_out r _ _ _ (by omega), Array.getElem?_setIfInBounds_ne (by omega)]
theorem wrt_in : ∀ (vs : List Value) (o : Nat) (cs : Array Value) (k : Nat), k < vs.length → o + vs.length ≤ cs.size → (wrt cs o vs)[o + k]? = vs[k]?
  | [], _, _, _, h, _ => by simp at h
  | v :: r, o, cs, k, h, hs => by
    simp at hs h
    cases k with
    | zero => rw [wrt, wrt_out r _ _ _ (.inl (by omega)), Nat.add_zero, Array.getElem?_setIfInBounds_self_of_lt (by omega)]; simp
    | succ k => rw [wrt, show o + (k + 1) = o + 1 + k by omega, wrt_in r _ _ _ (by omega) (by simp; omega)]; simp

section
variable {w w' w2 : World} {g : Nat} {t : TypeId} {cs : Array Value}
theorem Blk.drew (h : Blk w g t cs) : Blk w.drew g t cs := h
theorem Blk.setCells : ∀ (vs : List Value) (o : Nat) {w : World} {cs : Array Value}, Blk w g t cs → Blk (w.setCells g o vs) g t (wrt cs o vs)
  | [], _, _, _, h => h
  | v :: r, o, w, cs, h => Blk.setCells r (o + 1) (h.set_ o v)
theorem grown_refl (w : World) (row : Option Nat) : w.grownBy w row := ⟨rfl, rfl, rfl, Nat.le_refl _, fun _ _ _ => rfl⟩
theorem grown_trans {row : Option Nat} (h : w.grownBy w' row) (k : w'.grownBy w2 row) : w.grownBy w2 row :=
  ⟨k.os.trans h.os, k.tape.trans h.tape, k.output.trans h.output, Nat.le_trans h.size k.size, fun i hi hr => (k.block i (Nat.lt_of_lt_of_le hi h.size) hr).trans (h.block i hi hr)⟩
theorem grown_below {row : Option Nat} (h : w.grownBy w' row) (k : Below w'.heap.size w' w2) : w.grownBy w2 row :=
  ⟨k.os.trans h.os, k.tape.trans h.tape, k.output.trans h.output, Nat.le_trans h.size k.size, fun i hi hr => (k.block i (Nat.lt_of_lt_of_le hi h.size)).trans (h.block i hi hr)⟩
theorem grown_of_below (h : Below w.heap.size w w') (row : Option Nat) : w.grownBy w' row := ⟨h.os, h.tape, h.output, h.size, fun k hk _ => h.block k hk⟩
theorem grown_drew {row : Option Nat} (h : w.grownBy w' row) (n : Nat) : w.grownBy (w'.drewN n) row := ⟨h.os, h.tape, h.output, h.size, h.block⟩
theorem grown_setCell {row : Option Nat} (h : w.grownBy w' row) {p : Addr} (hp : some p.block = row ∨ w.heap.size ≤ p.block) (u : Value) : w.grownBy (w'.setCell p u) row :=
  ⟨h.os, h.tape, h.output, by have := h.size; simpa [World.setCell] using this, fun i hi hr => (Below.heap_setCell w' p u i (by
    intro e
    subst e
    rcases hp with hp | hp
    · exact hr hp
    · omega)).trans (h.block i hi hr)⟩
theorem grown_setCells {row : Option Nat} : ∀ (vs : List Value) (o : Nat) {w' : World}, w.grownBy w' row → some g = row ∨ w.heap.size ≤ g → w.grownBy (w'.setCells g o vs) row
  | [], _, _, h, _ => h
  | v :: r, o, w', h, hp => grown_setCells r (o + 1) (grown_setCell h (p := ⟨g, o, none⟩) hp v) hp
theorem below_of_grown {B : Nat} {row : Option Nat} (h : w.grownBy w' row) (hr : ∀ k, row = some k → B ≤ k) (hB : B ≤ w.heap.size) : Below B w w' :=
  (Below.refl B w).grown h hB hr
theorem Reads.grown {B size n : Nat} {A : Option Addr} {xs : List Value} {row : Option Nat} (h : Reads w B size A n xs) (hg : w.grownBy w' row) (hB : B ≤ w.heap.size) (hr : ∀ a, A = some a → some a.block ≠ row) : Reads w' B size A n xs :=
  ⟨h.1, fun hn => by
    obtain ⟨ad, e, hb, hc⟩ := h.2 hn
    exact ⟨ad, e, hb, fun j u hu => by
      rw [← hc j u hu]
      exact World.cell?_of_block (hg.block _ (by rw [block_of_add]; omega) (by rw [block_of_add]; exact hr ad e))⟩⟩
theorem Own.grown {base n cap size : Nat} {e : TypeId} {A : Option Addr} {xs : List Value} {row : Option Nat} (h : Own w base e size A n cap xs) (hg : w.grownBy w' row) (hr : ∀ a, A = some a → some a.block ≠ row) : Own w' base e size A n cap xs := by
  refine ⟨h.1, ?_⟩
  rcases h.2 with h' | ⟨g, cap', cur, hv, hb, hgb, hrest⟩
  · exact .inl h'
  · have hl : g < w.heap.size := (Array.getElem?_eq_some_iff.1 hgb).1
    simp at hv
    exact .inr ⟨g, cap', cur, by simp [hv], hb, (hg.block g hl (by have := hr _ hv.1; simpa using this)).trans hgb, hrest⟩
/-- A slice is owned where its block is known. -/
theorem Own.mk_ {base n cap size : Nat} {e : TypeId} {xs : List Value} {cur : Array Value} (hb : base ≤ g) (h : Blk w g e cur) (h1 : n ≤ cap) (h2 : cap ≤ maxLen) (h3 : cur.size = cap * size) (h4 : xs.length = n * size) (h5 : ∀ k, k < n * size → cur[k]? = xs[k]?) : Own w base e size (some ⟨g, 0, none⟩) n cap xs := by
  refine ⟨h4, .inr ⟨g, cap, cur, by simp, hb, h, h1, h2, h3, ?_⟩⟩
  apply List.ext_getElem?
  intro k
  rw [List.getElem?_take]
  split
  · rename_i hk; rw [Array.getElem?_toList]; exact h5 k hk
  · rename_i hk; rw [List.getElem?_eq_none (by omega)]
end

/-- The cells of element k of a row of structs. -/
def ElAt (cur : Array Value) (size k : Nat) (vs : List Value) : Prop := ∀ q, q < size → cur[k * size + q]? = vs[q]?
theorem ElAt.wrt_same {cur : Array Value} {size k : Nat} {vs : List Value} (hv : vs.length = size) (hk : (k + 1) * size ≤ cur.size) : ElAt (wrt cur (k * size) vs) size k vs := by
  intro q hq
  exact wrt_in vs _ _ _ (by omega) (by rw [Nat.add_mul] at hk; omega)
theorem ElAt.wrt_other {cur : Array Value} {size k j : Nat} {vs us : List Value} (h : ElAt cur size j us) (hv : vs.length = size) (hkj : k ≠ j) : ElAt (wrt cur (k * size) vs) size j us := by
  intro q hq
  rw [wrt_out]
  · exact h q hq
  · rcases Nat.lt_or_gt_of_ne hkj with h1 | h1
    · right
      have := Nat.mul_le_mul_right size (show k + 1 ≤ j by omega)
      rw [Nat.add_mul] at this
      omega
    · left
      have := Nat.mul_le_mul_right size (show j + 1 ≤ k by omega)
      rw [Nat.add_mul] at this
      omega
theorem flat_len' {α : Type} {vals : α → List Value} {size : Nat} (hv : ∀ x, (vals x).length = size) (l : List α) : (l.flatMap vals).length = l.length * size := by
  induction l with
  | nil => simp
  | cons x l ih => rw [List.flatMap_cons, List.length_append, ih, List.length_cons, hv, Nat.add_mul]; omega
theorem flat_at' {α : Type} {vals : α → List Value} {size : Nat} (hv : ∀ x, (vals x).length = size) {l : List α} {k j : Nat} {x : α} (h : l[k]? = some x) (hj : j < size) : (l.flatMap vals)[k * size + j]? = (vals x)[j]? := by
  induction l generalizing k with
  | nil => simp at h
  | cons y l ih =>
    rw [List.flatMap_cons]
    cases k with
    | zero =>
      simp at h; subst h
      rw [List.getElem?_append_left (by rw [hv]; omega)]; simp
    | succ k =>
      rw [List.getElem?_append_right (by rw [hv, Nat.add_mul]; omega)]
      have : (k + 1) * size + j - (vals y).length = k * size + j := by rw [hv, Nat.add_mul]; omega
      rw [this]
      exact ih (by simpa using h)
/-- clear(s[i:]) on structs. -/
theorem run_clear_row {P : Program} {w : World} {g : Nat} {e : TypeId} {cs : Array Value} {t ty : TypeId} {z : Value} (hb : Blk w g e cs) (ht : P.underlying t = some (.slice e)) (hv : ∀ w, (zeroValue e).run P w = .ok z w) (h1 : ∀ u ∈ z.cells.toList, u.oneCell' = true) (o n c : Nat) (hn : o + n * z.cells.size ≤ cs.size) :
    ∃ vs : List Value, vs.length = n * z.cells.size ∧ (Builtin.clear_ #[t] ty #[.slice (some ⟨g, o, none⟩) n c]).run P w = .ok (.tuple #[]) (w.setCells g o vs) := by
  cases n with
  | zero => exact ⟨[], by simp, by simp [Builtin.clear_, run_underlying ht, World.setCells]⟩
  | succ n =>
    have hl : (Builtin.zeroCells z.cells (n + 1)).toList.length = (n + 1) * z.cells.size := by simp [Builtin.zeroCells]
    refine ⟨(Builtin.zeroCells z.cells (n + 1)).toList, hl, ?_⟩
    have hst := run_storeCells_cells (P := P) g o (Builtin.zeroCells z.cells (n + 1)).toList 0 w ?_ (fun j _ => hb.frozen _) ?_
    · simp only [Nat.add_zero] at hst
      simp [Builtin.clear_, run_underlying ht, hv, hst]
    · intro j hj
      rw [hb.cell]
      rw [hl] at hj
      rw [Array.getElem?_eq_getElem (by omega)]; rfl
    · intro v hv'
      simp only [Builtin.zeroCells, Array.toList_map, List.mem_map, Array.toList_range, List.mem_range] at hv'
      obtain ⟨i, hi, rfl⟩ := hv'
      have hp : 0 < z.cells.size := by
        rcases Nat.eq_zero_or_pos z.cells.size with h | h
        · rw [h] at hi; simp at hi
        · exact h
      have hlt : i % z.cells.size < z.cells.size := Nat.mod_lt _ hp
      rw [getElem!_pos z.cells _ hlt]
      exact h1 _ (by simp)
end Go.Proofs.YtahkjagjcogeiaaDoor
/- slices.DeleteFunc at links. -/
namespace Go.Proofs.YtahkjagjcogeiaaDoor
open Go.RowKit
set_option linter.unusedVariables false

/-- Between two rounds: i kept, j looked at. -/
structure DelAt (g : Nat) (e : TypeId) (sz : Nat) (l : List Link) (p : Link → Bool) (i j : Nat) (wr : World) (cur : Array Value) : Prop where
  blk : Blk wr g e cur
  size : cur.size = sz
  num : ((l.take j).filter fun x => !p x).length = i
  kept : ∀ (k : Nat) x, ((l.take j).filter fun x => !p x)[k]? = some x → ElAt cur 5 k x.vals
  left : ∀ (k : Nat) x, j ≤ k → l[k]? = some x → ElAt cur 5 k x.vals
theorem DelAt.later {g : Nat} {e : TypeId} {sz : Nat} {l : List Link} {p : Link → Bool} {i j : Nat} {wr w' : World} {cur : Array Value} (h : DelAt g e sz l p i j wr cur) (hb : Blk w' g e cur) : DelAt g e sz l p i j w' cur := ⟨hb, h.size, h.num, h.kept, h.left⟩
theorem DelAt.skip {g : Nat} {e : TypeId} {sz : Nat} {l : List Link} {p : Link → Bool} {i j : Nat} {wr : World} {cur : Array Value} {x : Link} (h : DelAt g e sz l p i j wr cur) (hx : l[j]? = some x) (hp : p x = true) : DelAt g e sz l p i (j + 1) wr cur := by
  obtain ⟨hj, rfl⟩ := List.getElem?_eq_some_iff.1 hx
  have e1 : ((l.take (j + 1)).filter fun x => !p x) = (l.take j).filter fun x => !p x := by
    rw [List.take_succ_eq_append_getElem hj, List.filter_append]; simp [hp]
  exact ⟨h.blk, h.size, by rw [e1]; exact h.num, by rw [e1]; exact h.kept, fun k y hk hy => h.left k y (by omega) hy⟩
theorem DelAt.keep {g : Nat} {e : TypeId} {sz : Nat} {l : List Link} {p : Link → Bool} {i j : Nat} {wr w' : World} {cur : Array Value} {x : Link} (h : DelAt g e sz l p i j wr cur) (hx : l[j]? = some x) (hp : p x = false) (hij : i ≤ j) (hs : l.length * 5 ≤ sz)
    (hb : Blk w' g e (wrt cur (i * 5) x.vals)) : DelAt g e sz l p (i + 1) (j + 1) w' (wrt cur (i * 5) x.vals) := by
  obtain ⟨hj, rfl⟩ := List.getElem?_eq_some_iff.1 hx
  have e1 : ((l.take (j + 1)).filter fun x => !p x) = ((l.take j).filter fun x => !p x) ++ [l[j]] := by
    rw [List.take_succ_eq_append_getElem hj, List.filter_append]; simp [hp]
  have hsz := h.size
  refine ⟨hb, by rw [wrt_size]; exact h.size, by rw [e1, List.length_append, h.num]; rfl, ?_, ?_⟩
  · intro k y hy
    rw [e1] at hy
    have hn := h.num
    by_cases hk : k < i
    · rw [List.getElem?_append_left (by omega)] at hy
      exact (h.kept k y hy).wrt_other rfl (by omega)
    · rw [List.getElem?_append_right (by omega), hn] at hy
      have hk0 : k - i = 0 := by
        rcases Nat.eq_zero_or_pos (k - i) with h0 | h0
        · exact h0
        · rw [List.getElem?_eq_none (by simp; omega)] at hy; cases hy
      rw [hk0] at hy
      simp at hy
      subst hy
      obtain rfl : k = i := by omega
      exact ElAt.wrt_same rfl (by omega)
  · intro k y hk hy
    exact (h.left k y (by omega) hy).wrt_other rfl (by omega)

end Go.Proofs.YtahkjagjcogeiaaDoor
/- slices.Clone at ints. -/
namespace Go.Proofs.YtahkjagjcogeiaaDoor
open Go.RowKit
set_option linter.unusedVariables false

set_option maxRecDepth 100000 in
set_option maxHeartbeats 2000000 in
theorem clone_int (A : Option Addr) (n c : Nat) (l : List Int) (w : World) (hr : IntsAt w w.heap.size A n l) (hn : n ≤ maxLen) (hby : n * 8 ≤ 140737488355328) :
    Calls Tryd.prog 68 #[.slice A n c] w fun e w' => ∃ A' c', e = .returned (.slice A' n c') ∧ Own w' w.heap.size 3 1 A' n c' (l.map (Value.int .i64)) ∧ (A = none ↔ A' = none) ∧ Below w.heap.size w w' := by
  have HR := Lib.hid hr
  have hq := eql_nil_int
  cases A with
  | none =>
    have h0 : n = 0 := by
      rcases Nat.eq_zero_or_pos n with h | h
      · exact h
      · obtain ⟨_, h', _⟩ := hr.2 h; cases h'
    have hl : l = [] := List.eq_nil_of_length_eq_zero (by rw [hr.len]; exact h0)
    subst h0 hl
    go_enter Tryd.func68, Tryd.ntmps68
    go_wp2_with fail
    go_ret
    exact ⟨none, 0, rfl, Own.none_ _ _ _ _, by simp, Below.refl _ _⟩
  | some ad =>
    clear hr
    go_enter Tryd.func68, Tryd.ntmps68
    go_wp2_with (at_builtin; refine wpList_append_any _ rfl _ _ rfl elem_int rfl (World.ownsRow_made w #[] 0 (Nat.le_refl _) (Nat.zero_le _) (by simp)) rfl (Reads.alloc HR.out (Nat.le_refl _) _) (ints_one l) (by simpa using hn) (by simpa using hby) (by simp) ?_)
    rintro A' cap' w' hown hg hA
    go_wp2
    go_ret
    have hB : Below w.heap.size w w' := ((Below.refl _ _).alloc (Nat.le_refl _) _).grown hg (by simp) (by intro k hk; simp at hk; omega)
    refine ⟨A', cap', by simp, by simpa using hown, ?_, hB⟩
    constructor
    · intro h; cases h
    · intro h
      rcases hA with hA | hA <;> rw [hA] at h <;> cases h
end Go.Proofs.YtahkjagjcogeiaaDoor
/- climb.ids, climb.less. -/
namespace Go.Proofs.YtahkjagjcogeiaaDoor
open Go.RowKit
set_option linter.unusedVariables false

theorem ints_of_own {w : World} {base n cap B : Nat} {e : TypeId} {A : Option Addr} {l : List Int} (h : Own w base e 1 A n cap (l.map (Value.int .i64))) (hB : w.heap.size ≤ B) : IntsAt w B A n l := h.reads hB
theorem links_of_own {w : World} {base n cap B : Nat} {e : TypeId} {A : Option Addr} {l : List Link} (h : Own w base e 5 A n cap (l.flatMap Link.vals)) (hB : w.heap.size ≤ B) : LinksAt w B A n l := h.reads hB

/-- One int in a new block. -/
theorem one_int {W : World} {g : Nat} {x : Int} {B : Nat} (hB : g < B) (h : W.cell? ⟨g, 0, none⟩ = some (.int .i64 x)) : Reads W B 1 (some ⟨g, 0, none⟩) 1 ([x].map (Value.int .i64)) :=
  ⟨rfl, fun _ => ⟨_, rfl, hB, fun j u hu => by
    match j, hu with
    | 0, hu => simp at hu; rw [← hu]; simpa [Addr.add] using h⟩⟩

end Go.Proofs.YtahkjagjcogeiaaDoor
/- climb.less. -/
namespace Go.Proofs.YtahkjagjcogeiaaDoor
open Go.RowKit
set_option linter.unusedVariables false

/-- Two slices do not meet. -/
def Apart (A B : Option Addr) : Prop := ∀ a b, A = some a → B = some b → a.block ≠ b.block
theorem Apart.symm {A B : Option Addr} (h : Apart A B) : Apart B A := fun a b ha hb => (h b a hb ha).symm

/-- A town of the call's own is returned. -/
def TownOut (w : World) (e : Ending) (w' : World) (t : Town) : Prop := ∃ A c A' c', e = .returned (.agg #[.slice A t.places.length c, .slice A' t.links.length c']) ∧ Own w' w.heap.size 3 1 A t.places.length c (t.places.map (Value.int .i64)) ∧ Own w' w.heap.size 45 5 A' t.links.length c' (t.links.flatMap Link.vals) ∧ Apart A A' ∧ Below w.heap.size w w'

def Above (B : Nat) (A : Option Addr) : Prop := ∀ a, A = some a → B < a.block
end Go.Proofs.YtahkjagjcogeiaaDoor
/- A region that draws its order, by an invariant: whatever has been carried out, each operation that may come up keeps it. -/
namespace Go.Proofs.YtahkjagjcogeiaaDoor
open Go.RowKit
set_option linter.unusedVariables false

section
variable {F : Fence} {n : Nat} {P : Program} {ops : Array Oper} {Q : Exit → Act → World → Prop}

theorem openCount_set {listed : Array Bool} {i : Nat} (hi : listed.getD i true = false) : ((listed.setIfInBounds i true).toList.count false) + 1 ≤ listed.toList.count false := by
  have hlt : i < listed.size := by
    rcases Nat.lt_or_ge i listed.size with h | h
    · exact h
    · rw [Array.getD_eq_getD_getElem?, Array.getElem?_eq_none h] at hi; cases hi
  have hv : listed.toList[i]'(by simpa using hlt) = false := by
    rw [Array.getD_eq_getD_getElem?, Array.getElem?_eq_getElem hlt] at hi
    simpa using hi
  have h1 : 0 < listed.toList.count false := List.count_pos_iff.2 (by rw [← hv]; exact List.getElem_mem _)
  have h2 := List.count_set (a := true) (b := false) (l := listed.toList) (i := i) (by simpa using hlt)
  rw [hv] at h2
  rw [Array.toList_setIfInBounds, h2]
  simp only [BEq.rfl, if_true]
  have h3 : (true == false) = false := rfl
  simp only [h3, Bool.false_eq_true, if_false]
  omega

theorem wpAnyIn_inv (St : Array Bool → Act → World → Prop)
    (hsize : ∀ listed a w, St listed a w → listed.size = ops.size)
    (hstep : ∀ listed a w i o, ops[i]? = some o → listed.getD i true = false → (∀ e ∈ o.after, Region.binds .any e = true → listed.getD e.on false = true) → St listed a w → wpListIn F n P ops (Exit.then (St (listed.setIfInBounds i true)) Q) [o] a w)
    (hend : ∀ listed a w, Region.ready .any ops listed = [] → St listed a w → Q .normal a w) :
    ∀ fuel listed a w, listed.toList.count false ≤ fuel → St listed a w → wpAnyIn F n P .any ops Q fuel listed a w := by
  have hop : ∀ listed a w i, i ∈ Region.ready .any ops listed → St listed a w → wpOpIn F n P ops Q i (St (listed.setIfInBounds i true)) a w := by
    intro listed a w i hi hs
    obtain ⟨h1, o, ho, h2⟩ := mem_ready.1 hi
    have h3 := hstep listed a w i o ho h1 h2 hs
    unfold wpOpIn
    simp only [ho]
    simp only [wpListIn] at h3
    split
    · rename_i hw
      rw [if_pos hw] at h3
      unfold Oper.wpIn at h3 ⊢
      refine ⟨h3.1, ?_⟩
      have h4 := h3.2
      generalize (o.semAt F.round a.eval).run P w = r at h4 ⊢
      cases r with
      | ok x w' =>
        cases x <;> simp only [Oper.uponIn, Exit.then] at h4 ⊢ <;>
          first
            | exact h4
            | exact ⟨h4.1, CallsIn.mono h4.2 (fun e w'' he => by cases e <;> exact he)⟩
            | exact ⟨h4.1, RoundIn.mono h4.2 (fun e w'' he => by cases e <;> exact he)⟩
      | halt x w' => cases x <;> simp only [Oper.uponIn, Exit.then] at h4 ⊢ <;> exact h4
    · rename_i hw
      rw [if_neg hw] at h3
      exact h3
  intro fuel
  induction fuel with
  | zero =>
    intro listed a w hf hs
    have hnil : Region.ready .any ops listed = [] := by
      cases hr : Region.ready .any ops listed with
      | nil => rfl
      | cons i rs =>
        have hi : i ∈ Region.ready .any ops listed := by rw [hr]; simp
        have := openCount_set (mem_ready.1 hi).1
        omega
    exact ⟨hnil, hend listed a w hnil hs⟩
  | succ fuel ih =>
    intro listed a w hf hs
    refine ⟨fun h0 => hend listed a w h0 hs, fun i hi => ?_⟩
    have hc := openCount_set (mem_ready.1 hi).1
    exact wpOpIn_mono (fun a' w' h' => ih _ a' w' (by omega) h') (hop listed a w i hi hs)

/-- THE LAW. -/
theorem wpIn_region_inv {id : Nat} {a : Act} {w : World} (hm : P.follows .mixedOrders = true) (St : Array Bool → Act → World → Prop)
    (hsize : ∀ listed a w, St listed a w → listed.size = ops.size)
    (h0 : St (Array.replicate ops.size false) a w.drew)
    (hstep : ∀ listed a w i o, ops[i]? = some o → listed.getD i true = false → (∀ e ∈ o.after, Region.binds .any e = true → listed.getD e.on false = true) → St listed a w → wpListIn F n P ops (Exit.then (St (listed.setIfInBounds i true)) Q) [o] a w)
    (hend : ∀ listed a w, Region.ready .any ops listed = [] → St listed a w → Q .normal a w) : (Code.region id ops true).wpIn F n P Q a w :=
  wpIn_region_any hm (wpAnyIn_inv St hsize hstep hend _ _ _ _ (by rw [Array.toList_replicate, List.count_replicate]; simp) h0)

/-- What has been carried out, one operation more. -/
def done (L : Nat → Bool) (i : Nat) : Nat → Bool := fun k => if k = i then true else L k

/-- THE LAW, over the set of operations that have been carried out; 'act s': the frame, its slots s. -/
theorem wpIn_region_L {σ : Type} {id : Nat} {a : Act} {w : World} (hm : P.follows .mixedOrders = true) (act : σ → Act) (inv : (Nat → Bool) → σ → World → Prop)
    (h0 : ∃ s, a = act s ∧ inv (fun _ => false) s w.drew)
    (hstep : ∀ L i o s W, ops[i]? = some o → L i = false → (∀ e ∈ o.after, Region.binds .any e = true → L e.on = true) → inv L s W → wpListIn F n P ops (Exit.then (fun a' W' => ∃ s', a' = act s' ∧ inv (done L i) s' W') Q) [o] (act s) W)
    (hend : ∀ L s W, (∀ k, k < ops.size → L k = true) → inv L s W → Q .normal (act s) W) (hdag : ∀ L : Nat → Bool, (∀ i o, ops[i]? = some o → L i = false → ∃ e ∈ o.after, Region.binds .any e = true ∧ L e.on = false) → ∀ k, k < ops.size → L k = true) : (Code.region id ops true).wpIn F n P Q a w := by
  refine wpIn_region_inv hm (fun listed a W => listed.size = ops.size ∧ ∃ s, a = act s ∧ inv (fun k => listed.getD k false) s W) (fun _ _ _ h => h.1) ?_ ?_ ?_
  · obtain ⟨s, h1, h2⟩ := h0
    refine ⟨by simp, s, h1, ?_⟩
    have : (fun k => (Array.replicate ops.size false).getD k false) = fun _ => false := by
      funext k
      rw [Array.getD_eq_getD_getElem?, Array.getElem?_replicate]
      split <;> rfl
    rw [this]; exact h2
  · rintro listed a W i o ho hu hd ⟨hsz, s, rfl, hi⟩
    have hlt : i < listed.size := by rw [hsz]; exact (Array.getElem?_eq_some_iff.1 ho).1
    have hu' : listed.getD i false = false := by
      rw [Array.getD_eq_getD_getElem?, Array.getElem?_eq_getElem hlt] at hu ⊢
      simpa using hu
    have h := hstep (fun k => listed.getD k false) i o s W ho hu' hd hi
    have e : (fun k => (listed.setIfInBounds i true).getD k false) = done (fun k => listed.getD k false) i := by
      funext k
      unfold done
      by_cases hk : k = i
      · subst hk
        rw [if_pos rfl, Array.getD_eq_getD_getElem?, Array.getElem?_setIfInBounds]
        simp [hlt]
      · rw [if_neg hk, Array.getD_eq_getD_getElem?, Array.getElem?_setIfInBounds_ne (Ne.symm hk), ← Array.getD_eq_getD_getElem?]
    have hsz' : (listed.setIfInBounds i true).size = ops.size := by simpa using hsz
    simp only [e, hsz', true_and]
    exact h
  · rintro listed a W hr ⟨hsz, s, rfl, hi⟩
    refine hend _ s W (hdag _ ?_) hi
    intro i o ho hu
    have hlt : i < listed.size := by rw [hsz]; exact (Array.getElem?_eq_some_iff.1 ho).1
    have hu' : listed.getD i true = false := by
      rw [Array.getD_eq_getD_getElem?, Array.getElem?_eq_getElem hlt] at hu ⊢
      simpa using hu
    have hno : ¬ i ∈ Region.ready .any ops listed := by rw [hr]; simp
    rw [mem_ready] at hno
    have h2 : ¬ ∀ e ∈ o.after, Region.binds .any e = true → listed.getD e.on false = true := fun h => hno ⟨hu', o, ho, h⟩
    have h3 : ∃ e, ¬ (e ∈ o.after → Region.binds .any e = true → listed.getD e.on false = true) := by
      refine Classical.byContradiction fun hc => h2 fun e => ?_
      exact Classical.byContradiction fun hc' => hc ⟨e, hc'⟩
    obtain ⟨e, he⟩ := h3
    have he1 : e ∈ o.after := Classical.byContradiction fun h => he fun h' => absurd h' h
    have he2 : Region.binds .any e = true := Classical.byContradiction fun h => he fun _ h' => absurd h' h
    have he3 : listed.getD e.on false = false := by
      cases hc : listed.getD e.on false with
      | false => rfl
      | true => exact absurd (fun _ _ => hc) he
    exact ⟨e, he1, he2, he3⟩

/-- The operations wait for earlier ones alone (where an edge binds at all). -/
def backB (ops : Array Oper) : Bool := (List.range ops.size).all fun i => ((ops[i]?).map fun o => o.after.all fun e => !Region.binds .any e || decide (e.on < i)).getD true
theorem dag_of_back (h : backB ops = true) (L : Nat → Bool) (hL : ∀ i o, ops[i]? = some o → L i = false → ∃ e ∈ o.after, Region.binds .any e = true ∧ L e.on = false) : ∀ k, k < ops.size → L k = true := by
  intro k
  induction k using Nat.strongRecOn with
  | _ k ih =>
    intro hk
    cases hc : L k with
    | true => rfl
    | false =>
      exfalso
      obtain ⟨e, he, hbnd, hf⟩ := hL k _ (Array.getElem?_eq_getElem hk) hc
      have hb := List.all_eq_true.1 h k (by simpa using hk)
      rw [Array.getElem?_eq_getElem hk] at hb
      simp only [Option.map_some, Option.getD_some] at hb
      rw [Array.all_eq_true_iff_forall_mem] at hb
      have hlt : e.on < k := by simpa [hbnd] using hb e he
      have := ih e.on hlt (by omega)
      rw [this] at hf
      cases hf

/-- One slot turned. -/
def upd (s : Nat → Value) (k : Nat) (v : Value) : Nat → Value := fun j => if j = k then v else s j

/-- What an operation waits for has been carried out. -/
def Waited (L : Nat → Bool) : List Edge → Prop
  | [] => True
  | e :: es => (Region.binds .any e = true → L e.on = true) ∧ Waited L es
theorem Waited.of {L : Nat → Bool} : ∀ {l : List Edge}, (∀ e ∈ l, Region.binds .any e = true → L e.on = true) → Waited L l
  | [], _ => trivial
  | e :: es, h => ⟨h e (by simp), Waited.of fun e' he => h e' (by simp [he])⟩

theorem Waited.at_ {L : Nat → Bool} : ∀ {l : List Edge}, Waited L l → ∀ (j : Nat), (l.any fun e => e.on == j && Region.binds .any e) = true → L j = true
  | [], _, j, h => by simp at h
  | e :: es, hw, j, h => by
    rw [List.any_cons, Bool.or_eq_true] at h
    rcases h with h | h
    · simp only [Bool.and_eq_true, beq_iff_eq] at h
      rw [← h.1]; exact hw.1 h.2
    · exact Waited.at_ hw.2 j h

/-- One obligation an operation. -/
def Steps {σ : Type} (F : Fence) (n : Nat) (P : Program) (ops : Array Oper) (act : σ → Act) (inv : (Nat → Bool) → σ → World → Prop) : Nat → List Oper → Prop
  | _, [] => True
  | i, o :: rest => (∀ L s W, L i = false → Waited L o.after.toList → inv L s W → ∀ (K : Act → World → Prop) (Q : Exit → Act → World → Prop), (∀ s' W', inv (done L i) s' W' → K (act s') W') → wpListIn F n P ops (Exit.then K Q) [o] (act s) W) ∧ Steps F n P ops act inv (i + 1) rest
theorem Steps.at_ {σ : Type} {act : σ → Act} {inv : (Nat → Bool) → σ → World → Prop} : ∀ {l : List Oper} {k i : Nat} {o : Oper}, Steps F n P ops act inv k l → l[i]? = some o →
    ∀ L s W, L (k + i) = false → Waited L o.after.toList → inv L s W → ∀ (K : Act → World → Prop) (Q : Exit → Act → World → Prop), (∀ s' W', inv (done L (k + i)) s' W' → K (act s') W') → wpListIn F n P ops (Exit.then K Q) [o] (act s) W
  | [], _, _, _, _, h => by simp at h
  | o' :: l, k, 0, o, hs, h => by simp at h; subst h; exact hs.1
  | o' :: l, k, i + 1, o, hs, h => by
    have := Steps.at_ (i := i) hs.2 (by simpa using h)
    rwa [show k + 1 + i = k + (i + 1) by omega] at this

end
end Go.Proofs.YtahkjagjcogeiaaDoor
/- A region that draws its order, by an invariant, outside a fence. -/
namespace Go.Proofs.YtahkjagjcogeiaaDoor
open Go.RowKit
set_option linter.unusedVariables false

section
variable {P : Program} {ops : Array Oper} {Q : Exit → Act → World → Prop}

theorem wpAny_inv (St : Array Bool → Act → World → Prop)
    (hstep : ∀ listed a w i o, ops[i]? = some o → listed.getD i true = false → (∀ e ∈ o.after, Region.binds .any e = true → listed.getD e.on false = true) → St listed a w → wpList P ops (Exit.then (St (listed.setIfInBounds i true)) Q) [o] a w)
    (hend : ∀ listed a w, Region.ready .any ops listed = [] → St listed a w → Q .normal a w) :
    ∀ fuel listed a w, listed.toList.count false ≤ fuel → St listed a w → wpAny P .any ops Q fuel listed a w := by
  have hop : ∀ listed a w i, i ∈ Region.ready .any ops listed → St listed a w → wpOp P ops Q i (St (listed.setIfInBounds i true)) a w := by
    intro listed a w i hi hs
    obtain ⟨h1, o, ho, h2⟩ := mem_ready.1 hi
    have h3 := hstep listed a w i o ho h1 h2 hs
    unfold wpOp
    simp only [ho]
    simp only [wpList] at h3
    split
    · rename_i hw
      rw [if_pos hw] at h3
      rcases h3 with h3 | ⟨h3, h4⟩
      · left
        unfold Oper.wp at h3 ⊢
        generalize (execOp a.eval o).run P w = r at h3 ⊢
        cases r with
        | ok x w' =>
          cases x <;> simp only [Oper.upon, Exit.then] at h3 ⊢ <;>
            first
              | exact h3
              | exact Calls.mono h3 (fun e w'' he => by cases e <;> exact he)
        | halt x w' => cases x <;> simp only [Oper.upon, Exit.then] at h3 ⊢ <;> exact h3
      · right
        exact ⟨h3, h4⟩
    · rename_i hw
      rw [if_neg hw] at h3
      exact h3
  intro fuel
  induction fuel with
  | zero =>
    intro listed a w hf hs
    have hnil : Region.ready .any ops listed = [] := by
      cases hr : Region.ready .any ops listed with
      | nil => rfl
      | cons i rs =>
        have hi : i ∈ Region.ready .any ops listed := by rw [hr]; simp
        have := openCount_set (mem_ready.1 hi).1
        omega
    exact ⟨hnil, hend listed a w hnil hs⟩
  | succ fuel ih =>
    intro listed a w hf hs
    refine ⟨fun h0 => hend listed a w h0 hs, fun i hi => ?_⟩
    have hc := openCount_set (mem_ready.1 hi).1
    exact wpOp_mono (fun a' w' h' => ih _ a' w' (by omega) h') (hop listed a w i hi hs)

/-- What is done has what it waits for. -/
def Down (l : List Oper) (L : Nat → Bool) : Prop := ∀ (j : Nat) o, l[j]? = some o → L j = true → Waited L o.after.toList
def afterB (l : List Oper) (j k : Nat) : Bool := match l[j]? with
  | some o => o.after.toList.any fun e => e.on == k && Region.binds .any e
  | none => false
theorem Down.at_ {l : List Oper} {L : Nat → Bool} (h : Down l L) (j k : Nat) (hj : L j = true) (hk : afterB l j k = true) : L k = true := by
  unfold afterB at hk
  split at hk
  · rename_i o ho; exact (h j o ho hj).at_ k hk
  · cases hk
theorem Down.no {l : List Oper} {L : Nat → Bool} (h : Down l L) (j k : Nat) (hj : L j = true) (hk : afterB l j k = true) (hf : L k = false) {p : Prop} : p := absurd ((h.at_ j k hj hk).symm.trans hf) (by decide)
theorem Waited.mono {L L' : Nat → Bool} (hL : ∀ k, L k = true → L' k = true) : ∀ {l : List Edge}, Waited L l → Waited L' l
  | [], _ => trivial
  | e :: es, h => ⟨fun hb => hL _ (h.1 hb), Waited.mono hL h.2⟩
theorem done_mono (L : Nat → Bool) (i k : Nat) (h : L k = true) : done L i k = true := by unfold done; split <;> simp_all
theorem Down.step {l : List Oper} {L : Nat → Bool} (h : Down l L) {i : Nat} {o : Oper} (ho : l[i]? = some o) (hw : Waited L o.after.toList) : Down l (done L i) := by
  intro j o' hj ht
  by_cases e : j = i
  · subst e
    rw [ho] at hj
    cases hj
    exact hw.mono (done_mono L j)
  · unfold done at ht
    rw [if_neg e] at ht
    exact (h j o' hj ht).mono (done_mono L i)

/-- One obligation an operation. -/
def StepsW {σ : Type} (P : Program) (ops : Array Oper) (D : (Nat → Bool) → Prop) (act : σ → Act) (inv : (Nat → Bool) → σ → World → Prop) : Nat → List Oper → Prop
  | _, [] => True
  | i, o :: rest => (∀ L s W, L i = false → Waited L o.after.toList → D L → inv L s W → ∀ (K : Act → World → Prop) (Q : Exit → Act → World → Prop), (∀ s' W', inv (done L i) s' W' → K (act s') W') → wpList P ops (Exit.then K Q) [o] (act s) W) ∧ StepsW P ops D act inv (i + 1) rest
theorem StepsW.at_ {σ : Type} {D : (Nat → Bool) → Prop} {act : σ → Act} {inv : (Nat → Bool) → σ → World → Prop} : ∀ {l : List Oper} {k i : Nat} {o : Oper}, StepsW P ops D act inv k l → l[i]? = some o →
    ∀ L s W, L (k + i) = false → Waited L o.after.toList → D L → inv L s W → ∀ (K : Act → World → Prop) (Q : Exit → Act → World → Prop), (∀ s' W', inv (done L (k + i)) s' W' → K (act s') W') → wpList P ops (Exit.then K Q) [o] (act s) W
  | [], _, _, _, _, h => by simp at h
  | o' :: l, k, 0, o, hs, h => by simp at h; subst h; exact hs.1
  | o' :: l, k, i + 1, o, hs, h => by
    have := StepsW.at_ (i := i) hs.2 (by simpa using h)
    rwa [show k + 1 + i = k + (i + 1) by omega] at this

/-- THE LAW, one obligation an operation. -/
theorem wp_region_steps {σ : Type} {id : Nat} {a : Act} {w : World} {l : List Oper} (hm : P.follows .mixedOrders = true) (hb : backB l.toArray = true) (act : σ → Act) (inv : (Nat → Bool) → σ → World → Prop) (s0 : σ)
    (ha : a = act s0) (h0 : inv (fun _ => false) s0 w.drew)
    (hstep : StepsW P l.toArray (Down l) act inv 0 l)
    (hend : ∀ L s W, (∀ k, k < l.length → L k = true) → inv L s W → Q .normal (act s) W) : (Code.region id l.toArray true).wp P Q a w := by
  refine wp_region_any hm (wpAny_inv (fun listed a W => listed.size = l.length ∧ Down l (fun k => listed.getD k false) ∧ ∃ s, a = act s ∧ inv (fun k => listed.getD k false) s W) ?_ ?_ _ _ _ _ (by rw [Array.toList_replicate, List.count_replicate]; simp) ?_)
  · rintro listed a W i o ho hu hd ⟨hsz, hdn, s, rfl, hi⟩
    have hlt : i < listed.size := by rw [hsz]; simpa using (Array.getElem?_eq_some_iff.1 ho).1
    have hu' : listed.getD i false = false := by
      rw [Array.getD_eq_getD_getElem?, Array.getElem?_eq_getElem hlt] at hu ⊢
      simpa using hu
    have h := hstep.at_ (i := i) (o := o) (by simpa using ho) (fun k => listed.getD k false) s W (by simpa using hu') (Waited.of fun e he => hd e (by simpa using he)) hdn hi
    simp only [Nat.zero_add] at h
    refine h _ Q ?_
    intro s' W' h'
    have e : (fun k => (listed.setIfInBounds i true).getD k false) = done (fun k => listed.getD k false) i := by
      funext k
      unfold done
      by_cases hk : k = i
      · subst hk
        rw [if_pos rfl, Array.getD_eq_getD_getElem?, Array.getElem?_setIfInBounds]
        simp [hlt]
      · rw [if_neg hk, Array.getD_eq_getD_getElem?, Array.getElem?_setIfInBounds_ne (Ne.symm hk), ← Array.getD_eq_getD_getElem?]
    refine ⟨by simpa using hsz, ?_, s', rfl, ?_⟩
    · rw [e]; exact hdn.step (by simpa using ho) (Waited.of fun e he => hd e (by simpa using he))
    · rw [e]; exact h'
  · rintro listed a W hr ⟨hsz, _, s, rfl, hi⟩
    refine hend _ s W ?_ hi
    have := dag_of_back hb (fun k => listed.getD k false) ?_
    · intro k hk; exact this k (by simpa using hk)
    · intro i o ho hu
      have hlt : i < listed.size := by rw [hsz]; simpa using (Array.getElem?_eq_some_iff.1 ho).1
      have hu' : listed.getD i true = false := by
        rw [Array.getD_eq_getD_getElem?, Array.getElem?_eq_getElem hlt] at hu ⊢
        simpa using hu
      have hno : ¬ i ∈ Region.ready .any l.toArray listed := by rw [hr]; simp
      rw [mem_ready] at hno
      have h2 : ¬ ∀ e ∈ o.after, Region.binds .any e = true → listed.getD e.on false = true := fun h => hno ⟨hu', o, ho, h⟩
      refine Classical.byContradiction fun hc => h2 fun e he hbnd => ?_
      cases hc' : listed.getD e.on false with
      | true => rfl
      | false => exact absurd ⟨e, he, hbnd, hc'⟩ hc
  · have : (fun k => (Array.replicate l.toArray.size false).getD k false) = fun _ => false := by
      funext k
      rw [Array.getD_eq_getD_getElem?, Array.getElem?_replicate]
      split <;> rfl
    refine ⟨by simp, ?_, s0, ha, ?_⟩
    · rw [this]; intro j o _ h; cases h
    · rw [this]; exact h0
end
end Go.Proofs.YtahkjagjcogeiaaDoor
/- The three checks of a town, and Check. -/
namespace Go.Proofs.YtahkjagjcogeiaaDoor
open Go.RowKit
set_option linter.unusedVariables false

/-- Ids go up. -/
def upB : Int → List Int → Bool
  | _, [] => true
  | last, x :: l => inB (last + 1) 9999 [x] && upB x l
def linkB (t : Town) (last : Int) (x : Link) : Bool := inB (last + 1) 9999 [x.id] && inB 0 500 [x.steps] && inB 1 2000 [x.paces] && !(x.fr == x.to) && hasB t [x.fr, x.to]
def linksB (t : Town) : Int → List Link → Bool
  | _, [] => true
  | last, x :: l => linkB t last x && linksB t x.id l
def sizeB (t : Town) : Bool := inB 1 9 [(t.places.length : Int)] && decide (t.links.length ≤ 20)
/-- Whether a town is valid. -/
def townB (t : Town) : Bool := sizeB t && upB 0 t.places && linksB t 0 t.links

theorem upB_drop {l : List Int} {k : Nat} {x last : Int} (hx : l[k]? = some x) : upB last (l.drop k) = (inB (last + 1) 9999 [x] && upB x (l.drop (k + 1))) := by
  obtain ⟨hk, rfl⟩ := List.getElem?_eq_some_iff.1 hx
  rw [List.drop_eq_getElem_cons hk]; rfl
theorem linksB_drop {t : Town} {l : List Link} {k : Nat} {x : Link} {last : Int} (hx : l[k]? = some x) : linksB t last (l.drop k) = (linkB t last x && linksB t x.id (l.drop (k + 1))) := by
  obtain ⟨hk, rfl⟩ := List.getElem?_eq_some_iff.1 hx
  rw [List.drop_eq_getElem_cons hk]; rfl

theorem hasI2 (g : Nat) (x y : Int) (w : World) (hg : g < w.heap.size) (h0 : w.cell? ⟨g, 0, none⟩ = some (.int .i64 x)) (h1 : w.cell? ⟨g, 1, none⟩ = some (.int .i64 y)) : IntsAt w w.heap.size (some ⟨g, 0, none⟩) 2 [x, y] :=
  ⟨rfl, fun _ => ⟨_, rfl, hg, fun j u hu => by
    match j, hu with
    | 0, hu => simp at hu; rw [← hu]; simpa [Addr.add] using h0
    | 1, hu => simp at hu; rw [← hu]; simpa [Addr.add] using h1⟩⟩

theorem check1_any (A : Option Addr) (n c : Nat) (A' : Option Addr) (m d : Nat) (t : Town) (w : World) (hn : n ≤ maxLen) (hm : m ≤ maxLen) (ht : TownAt w w.heap.size A n A' m t) :
    Calls Tryd.prog 182 #[.agg #[.slice A n c, .slice A' m d]] w fun e w' => e = .returned (.bool (sizeB t)) ∧ Below w.heap.size w w' := by
  have hl := ht.places.len
  have hl' := ht.links.len
  have H : sizeB t = (inB 1 9 [(n : Int)] && decide ((m : Int) ≤ 20)) := by
    unfold sizeB; rw [hl, hl']; congr 1; simp; omega
  have HS := Lib.hid H
  clear H hl hl'
  unfold maxLen at hn hm
  go_enter Tryd.func182, Tryd.ntmps182
  go_wp2_with fail
  refine (in1_any _ _ (n : Int) _ _ ?_ ?_).mono ?_
  · simp
  · simp [go_sem]
  rintro e w1 ⟨rfl, hb⟩
  have hb' : Below w.heap.size w w1 := (((Below.refl _ _).alloc (Nat.le_refl _) _).alloc (by simp) _).trans (hb.mono (by simp; omega))
  have T1 : Blk w1 w.heap.size 25 #[.slice A n c, .slice A' m d] := ((Blk.new w _ _).alloc _).below hb (by simp; omega)
  have t1 : w1.cell? ⟨w.heap.size, 1, none⟩ = some (.slice A' m d) := T1.cell 1
  have hl : w.heap.size < w1.heap.size := T1.lt
  cases hi : inB 1 9 [(n : Int)] with
  | true =>
    have HI := Lib.hid hi
    clear hi
    go_wp2_with fail
    go_ret
    exact ⟨ret_bool (by rw [HS.out, HI.out]; simp), hb'⟩
  | false =>
    have HI := Lib.hid hi
    clear hi
    go_wp2_with fail
    go_ret
    exact ⟨ret_bool (by rw [HS.out, HI.out]; simp), hb'⟩

theorem inB_one (lo hi x : Int) : inB lo hi [x] = (decide (lo ≤ x) && decide (x ≤ hi)) := by
  unfold inB
  by_cases h1 : x < lo <;> by_cases h2 : hi < x <;> simp [h1, h2] <;> omega
theorem inB_iff {lo hi x : Int} : inB lo hi [x] = true ↔ lo ≤ x ∧ x ≤ hi := by rw [inB_one]; simp

theorem below_one (w w1 w2 : World) (A : Obj) (h : Below w.heap.size w w1) (hb : Below (w1.alloc A).heap.size (w1.alloc A) w2) : Below w.heap.size w w2 :=
  (h.alloc h.size _).trans (hb.mono (by have := h.size; simp; omega))

set_option maxHeartbeats 1000000 in
theorem check2_any (A : Option Addr) (n c : Nat) (A' : Option Addr) (m d : Nat) (t : Town) (w : World) (hn : n ≤ maxLen) (ht : TownAt w w.heap.size A n A' m t) :
    Calls Tryd.prog 183 #[.agg #[.slice A n c, .slice A' m d]] w fun e w' => e = .returned (.bool (upB 0 t.places)) ∧ Below w.heap.size w w' := by
  unfold maxLen at hn
  go_enter Tryd.func183, Tryd.ntmps183
  go_wp2_with fail
  go_loopw [9, 3] (fun i last wr => ∃ (k : Nat) (x : Int), k ≤ n ∧ i = .int .i64 k ∧ last = .int .i64 x ∧ 0 ≤ x ∧ x ≤ 9999 ∧ upB 0 t.places = upB x (t.places.drop k) ∧ Below w.heap.size w wr)
    (fun i _ _ => n - (intOf i).toNat)
  case atStart => exact ⟨0, 0, by omega, rfl, rfl, by omega, by omega, by simp, (Below.refl _ _).alloc (Nat.le_refl _) _⟩
  case round =>
    obtain ⟨k, z, hk, rfl, rfl, hz0, hz1, hu, hb⟩ := hrel
    have HU := Lib.hid hu
    clear hu
    by_cases hlt : k < n
    · obtain ⟨b, off, x, rfl, hbB, hx, hc⟩ := (ht.places.below hb).cell hlt
      have HX := Lib.hid hx
      clear hx
      go_wp2_with fail
      refine (in1_any _ _ x _ _ ?_ ?_).mono ?_
      · simp
      · simp [go_sem]
      rintro e w' ⟨rfl, hb'⟩
      have hb2 := below_one _ _ _ _ hb hb'
      cases hi : inB (z + 1) 9999 [x] with
      | true =>
        have HI := Lib.hid hi
        have hxz := inB_iff.1 hi
        clear hi
        go_wp2_with fail
        go_roundw
        case rel => exact ⟨k + 1, x, by omega, by go_num, rfl, by omega, by omega, by rw [HU.out, upB_drop HX.out, HI.out]; rfl, hb2⟩
        case measure => simp [intOf]; omega
      | false =>
        have HI := Lib.hid hi
        clear hi
        go_wp2_with fail
        go_ret
        exact ⟨ret_bool (by rw [HU.out, upB_drop HX.out, HI.out]; rfl), hb2⟩
    · go_wp2_with fail
      go_ret
      exact ⟨ret_bool (by rw [HU.out, List.drop_eq_nil_of_le (by have := ht.places.len; omega)]; rfl), hb⟩

theorem linkB_false {t : Town} {last : Int} {x : Link} (h : inB (last + 1) 9999 [x.id] = false ∨ inB 0 500 [x.steps] = false ∨ inB 1 2000 [x.paces] = false ∨ x.fr = x.to ∨ hasB t [x.fr, x.to] = false) : linkB t last x = false := by
  unfold linkB
  rcases h with h | h | h | h | h <;> simp [h]
theorem linkB_true {t : Town} {last : Int} {x : Link} (h1 : inB (last + 1) 9999 [x.id] = true) (h2 : inB 0 500 [x.steps] = true) (h3 : inB 1 2000 [x.paces] = true) (h4 : ¬ x.fr = x.to) (h5 : hasB t [x.fr, x.to] = true) : linkB t last x = true := by
  unfold linkB
  simp [h1, h2, h3, h4, h5]

set_option maxHeartbeats 2000000 in
theorem check3_any (A : Option Addr) (n c : Nat) (A' : Option Addr) (m d : Nat) (t : Town) (w : World) (hn : n ≤ maxLen) (hm : m ≤ maxLen) (ht : TownAt w w.heap.size A n A' m t) :
    Calls Tryd.prog 184 #[.agg #[.slice A n c, .slice A' m d]] w fun e w' => e = .returned (.bool (linksB t 0 t.links)) ∧ Below w.heap.size w w' := by
  unfold maxLen at hn hm
  go_enter Tryd.func184, Tryd.ntmps184
  go_wp2_with fail
  go_loopw [9, 3] (fun i last wr => ∃ (k : Nat) (x : Int), k ≤ m ∧ i = .int .i64 k ∧ last = .int .i64 x ∧ 0 ≤ x ∧ x ≤ 9999 ∧ linksB t 0 t.links = linksB t x (t.links.drop k) ∧ Blk wr w.heap.size 25 #[.slice A n c, .slice A' m d] ∧ Below w.heap.size w wr)
    (fun i _ _ => m - (intOf i).toNat)
  case atStart => exact ⟨0, 0, by omega, rfl, rfl, by omega, by omega, by simp, Blk.new _ _ _, (Below.refl _ _).alloc (Nat.le_refl _) _⟩
  case round =>
    obtain ⟨k, z, hk, rfl, rfl, hz0, hz1, hu, hT, hb⟩ := hrel
    have HU := Lib.hid hu
    clear hu
    have t0 : wr.cell? ⟨w.heap.size, 0, none⟩ = some (.slice A n c) := hT.cell 0
    have t1 : wr.cell? ⟨w.heap.size, 1, none⟩ = some (.slice A' m d) := hT.cell 1
    have hlr := hT.lt
    by_cases hlt : k < m
    · obtain ⟨b, off, x, rfl, hbB, hx, hc0, hc1, hc2, hc3, hc4⟩ := (ht.links.below hb).cell hlt
      have HX := Lib.hid hx
      clear hx
      go_wp2_with fail
      refine (in1_any _ _ x.id _ _ ?_ ?_).mono ?_
      · simp
      · simp [go_sem]
      rintro e w1 ⟨rfl, hb1⟩
      have X1 : Blk w1 wr.heap.size 45 #[.int .i64 x.id, .int .i64 x.fr, .int .i64 x.to, .int .i64 x.steps, .int .i64 x.paces] := ((Blk.new wr _ _).alloc _).below hb1 (by simp; omega)
      have T1 : Blk w1 w.heap.size 25 #[.slice A n c, .slice (some ⟨b, off, none⟩) m d] := ((hT.alloc _).alloc _).below hb1 (by simp; omega)
      have B1 : Below w.heap.size w w1 := below_one _ _ _ _ (hb.alloc hb.size _) hb1
      clear hb1 t0 t1 hlr
      have x0 : w1.cell? ⟨wr.heap.size, 0, none⟩ = some (.int .i64 x.id) := X1.cell 0
      have x1 : w1.cell? ⟨wr.heap.size, 1, none⟩ = some (.int .i64 x.fr) := X1.cell 1
      have x2 : w1.cell? ⟨wr.heap.size, 2, none⟩ = some (.int .i64 x.to) := X1.cell 2
      have x3 : w1.cell? ⟨wr.heap.size, 3, none⟩ = some (.int .i64 x.steps) := X1.cell 3
      have x4 : w1.cell? ⟨wr.heap.size, 4, none⟩ = some (.int .i64 x.paces) := X1.cell 4
      have t0 : w1.cell? ⟨w.heap.size, 0, none⟩ = some (.slice A n c) := T1.cell 0
      have t1 : w1.cell? ⟨w.heap.size, 1, none⟩ = some (.slice (some ⟨b, off, none⟩) m d) := T1.cell 1
      have hlr := T1.lt
      have hlx := X1.lt
      cases hi1 : inB (z + 1) 9999 [x.id] with
      | false =>
        have HI1 := Lib.hid hi1
        clear hi1
        go_wp2_with fail
        go_ret
        exact ⟨ret_bool (by rw [HU.out, linksB_drop HX.out, linkB_false (.inl HI1.out)]; rfl), B1⟩
      | true =>
        have HI1 := Lib.hid hi1
        have hxz := inB_iff.1 hi1
        clear hi1
        go_wp2_with fail
        refine (in1_any _ _ x.steps _ _ ?_ ?_).mono ?_
        · simp
        · simp [go_sem]
        rintro e w2 ⟨rfl, hb2⟩
        have X2 := (X1.alloc (.cells #[.int .i64 x.steps] 3)).below hb2 (by have := X1.lt; simp; omega)
        have T2 := (T1.alloc (.cells #[.int .i64 x.steps] 3)).below hb2 (by have := T1.lt; simp; omega)
        have B2 := below_one _ _ _ _ B1 hb2
        clear hb2
        clear x0 x1 x2 x3 x4 t0 t1 hlr hlx
        have x0 : w2.cell? ⟨wr.heap.size, 0, none⟩ = some (.int .i64 x.id) := X2.cell 0
        have x1 : w2.cell? ⟨wr.heap.size, 1, none⟩ = some (.int .i64 x.fr) := X2.cell 1
        have x2 : w2.cell? ⟨wr.heap.size, 2, none⟩ = some (.int .i64 x.to) := X2.cell 2
        have x3 : w2.cell? ⟨wr.heap.size, 3, none⟩ = some (.int .i64 x.steps) := X2.cell 3
        have x4 : w2.cell? ⟨wr.heap.size, 4, none⟩ = some (.int .i64 x.paces) := X2.cell 4
        have t0 : w2.cell? ⟨w.heap.size, 0, none⟩ = some (.slice A n c) := T2.cell 0
        have t1 : w2.cell? ⟨w.heap.size, 1, none⟩ = some (.slice (some ⟨b, off, none⟩) m d) := T2.cell 1
        have hlr := T2.lt
        have hlx := X2.lt
        cases hi2 : inB 0 500 [x.steps] with
        | false =>
          have HI2 := Lib.hid hi2
          clear hi2
          go_wp2_with fail
          go_ret
          exact ⟨ret_bool (by rw [HU.out, linksB_drop HX.out, linkB_false (.inr (.inl HI2.out))]; rfl), B2⟩
        | true =>
          have HI2 := Lib.hid hi2
          clear hi2
          go_wp2_with fail
          refine (in1_any _ _ x.paces _ _ ?_ ?_).mono ?_
          · simp
          · simp [go_sem]
          rintro e w3 ⟨rfl, hb3⟩
          have X3 := (X2.alloc (.cells #[.int .i64 x.paces] 3)).below hb3 (by have := X2.lt; simp; omega)
          have T3 := (T2.alloc (.cells #[.int .i64 x.paces] 3)).below hb3 (by have := T2.lt; simp; omega)
          have B3 := below_one _ _ _ _ B2 hb3
          clear hb3
          clear x0 x1 x2 x3 x4 t0 t1 hlr hlx
          have x0 : w3.cell? ⟨wr.heap.size, 0, none⟩ = some (.int .i64 x.id) := X3.cell 0
          have x1 : w3.cell? ⟨wr.heap.size, 1, none⟩ = some (.int .i64 x.fr) := X3.cell 1
          have x2 : w3.cell? ⟨wr.heap.size, 2, none⟩ = some (.int .i64 x.to) := X3.cell 2
          have x3 : w3.cell? ⟨wr.heap.size, 3, none⟩ = some (.int .i64 x.steps) := X3.cell 3
          have x4 : w3.cell? ⟨wr.heap.size, 4, none⟩ = some (.int .i64 x.paces) := X3.cell 4
          have t0 : w3.cell? ⟨w.heap.size, 0, none⟩ = some (.slice A n c) := T3.cell 0
          have t1 : w3.cell? ⟨w.heap.size, 1, none⟩ = some (.slice (some ⟨b, off, none⟩) m d) := T3.cell 1
          have hlr := T3.lt
          have hlx := X3.lt
          cases hi3 : inB 1 2000 [x.paces] with
          | false =>
            have HI3 := Lib.hid hi3
            clear hi3
            go_wp2_with fail
            go_ret
            exact ⟨ret_bool (by rw [HU.out, linksB_drop HX.out, linkB_false (.inr (.inr (.inl HI3.out)))]; rfl), B3⟩
          | true =>
            have HI3 := Lib.hid hi3
            clear hi3
            by_cases he : x.fr = x.to
            · have HE := Lib.hid he
              have he' : (x.fr == x.to) = true := by simpa using he
              clear he
              go_wp2_with fail
              go_ret
              exact ⟨ret_bool (by rw [HU.out, linksB_drop HX.out, linkB_false (.inr (.inr (.inr (.inl HE.out))))]; rfl), B3⟩
            · have HE := Lib.hid he
              go_wp2_with fail
              refine (has_any A n c _ m d t _ 2 2 [x.fr, x.to] _ (by unfold maxLen; omega) (by decide) ?_ ?_).mono ?_
              · have b3 := ht.below B3
                exact ((b3.more B3.size).below ((Below.refl _ _).alloc (Nat.le_refl _) _)).more (by rw [World.size_alloc]; omega)
              · exact hasI2 _ _ _ _ (by simp) (by simp [go_sem]) (by simp [go_sem])
              rintro e w4 ⟨rfl, hb4⟩
              have X4 := (X3.alloc (.cells #[.int .i64 x.fr, .int .i64 x.to] 3)).below hb4 (by have := X3.lt; simp; omega)
              have T4 := (T3.alloc (.cells #[.int .i64 x.fr, .int .i64 x.to] 3)).below hb4 (by have := T3.lt; simp; omega)
              have B4 := below_one _ _ _ _ B3 hb4
              clear hb4
              clear x0 x1 x2 x3 x4 t0 t1 hlr hlx
              have x0 : w4.cell? ⟨wr.heap.size, 0, none⟩ = some (.int .i64 x.id) := X4.cell 0
              have x1 : w4.cell? ⟨wr.heap.size, 1, none⟩ = some (.int .i64 x.fr) := X4.cell 1
              have x2 : w4.cell? ⟨wr.heap.size, 2, none⟩ = some (.int .i64 x.to) := X4.cell 2
              have x3 : w4.cell? ⟨wr.heap.size, 3, none⟩ = some (.int .i64 x.steps) := X4.cell 3
              have x4 : w4.cell? ⟨wr.heap.size, 4, none⟩ = some (.int .i64 x.paces) := X4.cell 4
              have t0 : w4.cell? ⟨w.heap.size, 0, none⟩ = some (.slice A n c) := T4.cell 0
              have t1 : w4.cell? ⟨w.heap.size, 1, none⟩ = some (.slice (some ⟨b, off, none⟩) m d) := T4.cell 1
              have hlr := T4.lt
              have hlx := X4.lt
              cases hi4 : hasB t [x.fr, x.to] with
              | false =>
                have HI4 := Lib.hid hi4
                clear hi4
                go_wp2_with fail
                go_ret
                exact ⟨ret_bool (by rw [HU.out, linksB_drop HX.out, linkB_false (.inr (.inr (.inr (.inr HI4.out))))]; rfl), B4⟩
              | true =>
                have HI4 := Lib.hid hi4
                clear hi4
                go_wp2_with fail
                go_roundw
                case rel => exact ⟨k + 1, x.id, by omega, by go_num, rfl, by omega, by omega, by rw [HU.out, linksB_drop HX.out, linkB_true HI1.out HI2.out HI3.out HE.out HI4.out]; rfl, T4, B4⟩
                case measure => simp [intOf]; omega
    · go_wp2_with fail
      go_ret
      exact ⟨ret_bool (by rw [HU.out, List.drop_eq_nil_of_le (by have := ht.links.len; omega)]; rfl), hb⟩
end Go.Proofs.YtahkjagjcogeiaaDoor
/- The answer's within, Place, Link, Town, Great. -/
namespace Go.Proofs.YtahkjagjcogeiaaDoor
open Go.RowKit
set_option linter.unusedVariables false

theorem within_any (x lo hi : Int) (w : World) : Calls Tryd.prog 110 #[.int .i64 x, .int .i64 lo, .int .i64 hi] w fun e w' => e = .returned (.bool (inB lo hi [x])) ∧ w' = w := by
  have h := inB_one lo hi x
  by_cases h1 : lo ≤ x
  · by_cases h2 : x ≤ hi
    · have HI : Hid (inB lo hi [x] = true) := by show _ = _; rw [h]; simp [h1, h2]
      clear h
      go_enter Tryd.func110, Tryd.ntmps110
      go_wp2_with fail
      go_ret
      exact ⟨ret_bool (by rw [HI.out]), rfl⟩
    · have HI : Hid (inB lo hi [x] = false) := by show _ = _; rw [h]; simp [h2]
      have h3 : hi < x := by omega
      clear h
      go_enter Tryd.func110, Tryd.ntmps110
      go_wp2_with fail
      go_ret
      exact ⟨ret_bool (by rw [HI.out]), rfl⟩
  · have HI : Hid (inB lo hi [x] = false) := by show _ = _; rw [h]; simp [h1]
    have h3 : decide (lo ≤ x) = false := by simp; omega
    clear h
    go_enter Tryd.func110, Tryd.ntmps110
    go_wp2_with fail
    go_ret
    exact ⟨ret_bool (by rw [HI.out]), rfl⟩

/-- The place of a number; -1 if there is none. -/
def placeI (l : List Int) (id : Int) : Int := idx (fun y => y == id) l
theorem placeI_yes {l : List Int} {id : Int} (h : memI l id = true) : 0 ≤ placeI l id := by
  have := idx_ge (p := fun y => y == id) (l := l)
  unfold placeI
  rw [any_contains] at this
  unfold memI at h
  rw [h] at this
  simpa using this
theorem placeI_no {l : List Int} {id : Int} (h : memI l id = false) : placeI l id < 0 := by
  have := idx_ge (p := fun y => y == id) (l := l)
  unfold placeI
  rw [any_contains] at this
  unfold memI at h
  rw [h] at this
  simpa using this
set_option maxHeartbeats 1000000 in
theorem place_any (A : Option Addr) (n c : Nat) (A' : Option Addr) (m d : Nat) (t : Town) (id : Int) (w : World) (hn : n ≤ maxLen) (ht : IntsAt w w.heap.size A n t.places) :
    Calls Tryd.prog 109 #[.agg #[.slice A n c, .slice A' m d], .int .i64 id] w fun e w' => e = .returned (.int .i64 (placeI t.places id)) ∧ Below w.heap.size w w' := by
  unfold maxLen at hn
  go_enter Tryd.func109, Tryd.ntmps109
  go_wp2_with fail
  have T0 := Blk.new w 25 #[.slice A n c, .slice A' m d]
  have B0 : Below w.heap.size w (w.alloc (.cells #[.slice A n c, .slice A' m d] 25)) := (Below.refl _ _).alloc (Nat.le_refl _) _
  generalize (w.alloc (.cells #[.slice A n c, .slice A' m d] 25)) = w0 at *
  have t0 := T0.cell 0
  go_loop [5] (fun i => ∃ k : Nat, k ≤ n ∧ i = .int .i64 k ∧ (∀ y ∈ t.places.take k, (y == id) = false))
    (fun i => n - (intOf i).toNat)
  case atStart => exact ⟨0, by omega, rfl, by simp⟩
  case round =>
    obtain ⟨k, hk, rfl, hno⟩ := hrel
    have HN := Lib.hid hno
    clear hno
    by_cases hlt : k < n
    · obtain ⟨b, off, x, rfl, hbB, hx, hc⟩ := (ht.below B0).cell hlt
      have HX := Lib.hid hx
      clear hx
      by_cases hp : x = id
      · have hp' : (x == id) = true := by simpa using hp
        have HP := Lib.hid hp'
        clear hp
        go_wp2_with fail
        go_ret
        exact ⟨ret_int (idx_some HX.out HP.out HN.out).symm, B0⟩
      · have hp' : (x == id) = false := by simpa using hp
        have HP := Lib.hid hp'
        clear hp
        go_wp2_with fail
        go_round
        case rel => exact ⟨k + 1, by omega, by go_num, take_snoc_all HX.out HP.out HN.out⟩
        case measure => simp [intOf]; omega
    · go_wp2_with fail
      go_ret
      exact ⟨ret_int (idx_none (by
        have := HN.out
        rwa [List.take_of_length_le (by have := ht.len; omega)] at this)).symm, B0⟩

theorem hasB2 (t : Town) (a b : Int) : hasB t [a, b] = (memI t.places a && memI t.places b) := by
  unfold hasB
  cases h1 : memI t.places a <;> cases h2 : memI t.places b <;> simp [h1, h2]

theorem linkB_unf (t : Town) (last : Int) (x : Link) : linkB t last x = (inB (last + 1) 9999 [x.id] && memI t.places x.fr && memI t.places x.to && !(x.fr == x.to) && inB 0 500 [x.steps] && inB 1 2000 [x.paces]) := by
  unfold linkB
  rw [hasB2]
  cases inB (last + 1) 9999 [x.id] <;> cases memI t.places x.fr <;> cases memI t.places x.to <;> cases (x.fr == x.to) <;> cases inB 0 500 [x.steps] <;> cases inB 1 2000 [x.paces] <;> rfl

set_option maxRecDepth 100000 in
set_option maxHeartbeats 4000000 in
theorem rtown_any (A : Option Addr) (n c : Nat) (A' : Option Addr) (m d : Nat) (t : Town) (w : World) (hn : n ≤ 1000) (hm : m ≤ 1000) (ht : TownAt w w.heap.size A n A' m t) :
    Calls Tryd.prog 62 #[.agg #[.slice A n c, .slice A' m d]] w fun e w' => e = .returned (.bool (townB t)) ∧ Below w.heap.size w w' := by
  have hln := ht.places.len
  have hlm := ht.links.len
  have HT := Lib.hid ht
  have hn1 : n ≤ maxLen := by unfold maxLen; omega
  have hU : townB t = (inB 1 9 [(n : Int)] && decide ((m : Int) ≤ 20) && upB 0 t.places && linksB t 0 t.links) := by
    unfold townB sizeB
    rw [hln, hlm]
    have : decide (m ≤ 20) = decide ((m : Int) ≤ 20) := by simp; omega
    rw [this]
  have HN := Lib.hid hln
  have HM := Lib.hid hlm
  have HTB := Lib.hid hU
  clear ht hln hlm hU
  go_enter Tryd.func62, Tryd.ntmps62
  go_wp2_with fail
  have T0 := Blk.new w 25 #[.slice A n c, .slice A' m d]
  have B0 : Below w.heap.size w (w.alloc (.cells #[.slice A n c, .slice A' m d] 25)) := (Below.refl _ _).alloc (Nat.le_refl _) _
  generalize (w.alloc (.cells #[.slice A n c, .slice A' m d] 25)) = w0 at *
  have t0 := T0.cell 0
  have t1 := T0.cell 1
  with_reducible refine (within_any (n : Int) 1 9 w0).mono ?_
  rintro e w0 ⟨rfl, rfl⟩
  cases hi1 : inB 1 9 [(n : Int)] with
  | false =>
    have HI := Lib.hid hi1
    clear hi1
    go_wp2_with fail
    go_ret
    exact ⟨ret_bool (by rw [HTB.out, HI.out]; rfl), B0⟩
  | true =>
  have HI := Lib.hid hi1
  clear hi1
  by_cases h20 : (20 : Int) < (m : Int)
  · go_wp2_with fail
    go_ret
    exact ⟨ret_bool (by rw [HTB.out, HI.out, show decide ((m : Int) ≤ 20) = false by simp; omega]; rfl), B0⟩
  have h20' : m ≤ 20 := by omega
  have h20d : decide ((20 : Int) < (m : Int)) = false := by simp; omega
  clear h20
  go_wp2_with fail
  go_loop [3, 22] (fun last i => ∃ (k : Nat) (z : Int), k ≤ n ∧ i = .int .i64 k ∧ last = .int .i64 z ∧ 0 ≤ z ∧ z ≤ 9999 ∧ upB 0 t.places = upB z (t.places.drop k))
    (fun _ i => n - (intOf i).toNat)
  case atStart => exact ⟨0, 0, by omega, rfl, rfl, by omega, by omega, by simp⟩
  case round =>
    obtain ⟨k, z, hk, rfl, rfl, hz0, hz1, hu⟩ := hrel
    have HU := Lib.hid hu
    clear hu
    by_cases hlt : k < n
    · obtain ⟨b, off, x, rfl, hbB, hx, hc⟩ := (HT.out.places.below B0).cell hlt
      have HX := Lib.hid hx
      clear hx
      go_wp2_with fail
      with_reducible refine (within_any x (z + 1) 9999 _).mono ?_
      rintro e w0 ⟨rfl, rfl⟩
      cases hi : inB (z + 1) 9999 [x] with
      | true =>
        have HI2 := Lib.hid hi
        have hxz := inB_iff.1 hi
        clear hi
        go_wp2_with fail
        go_round
        case rel => exact ⟨k + 1, x, by omega, by go_num, rfl, by omega, by omega, by rw [HU.out, upB_drop HX.out, HI2.out]; rfl⟩
        case measure => simp [intOf]; omega
      | false =>
        have HI2 := Lib.hid hi
        clear hi
        go_wp2_with fail
        go_ret
        exact ⟨ret_bool (by rw [HTB.out, HU.out, upB_drop HX.out, HI2.out]; simp), B0⟩
    · have HUP : Hid (upB 0 t.places = true) := by
        show _ = _
        rw [HU.out, List.drop_eq_nil_of_le (by have := HN.out; omega)]; rfl
      clear hz0 hz1 HU hk
      go_wp2_with fail
      go_loopw [3, 36] (fun last i wr => ∃ (k : Nat) (z : Int), k ≤ m ∧ i = .int .i64 k ∧ last = .int .i64 z ∧ 0 ≤ z ∧ z ≤ 9999 ∧ linksB t 0 t.links = linksB t z (t.links.drop k) ∧ Below w0.heap.size w0 wr)
        (fun _ i _ => m - (intOf i).toNat)
      case atStart => exact ⟨0, 0, by omega, rfl, rfl, by omega, by omega, by simp, Below.refl _ _⟩
      case round =>
        obtain ⟨k, z, hk, rfl, rfl, hz0, hz1, hu, hb⟩ := hrel
        have HU := Lib.hid hu
        clear hu
        have TR := T0.below hb T0.lt
        have BR := B0.trans (hb.mono B0.size)
        clear t0 t1
        by_cases hlt : k < m
        · obtain ⟨b, off, x, rfl, hbB, hx, hc0, hc1, hc2, hc3, hc4⟩ := (HT.out.links.below BR).cell hlt
          have HX := Lib.hid hx
          clear hx
          have HTR := Lib.hid TR
          clear TR
          go_wp2_with fail
          have X1 := Lib.hid (Blk.new wr 45 #[.int .i64 x.id, .int .i64 x.fr, .int .i64 x.to, .int .i64 x.steps, .int .i64 x.paces])
          have T1 := Lib.hid (HTR.out.alloc (.cells #[.int .i64 x.id, .int .i64 x.fr, .int .i64 x.to, .int .i64 x.steps, .int .i64 x.paces] 45))
          have B1 := BR.alloc BR.size (.cells #[.int .i64 x.id, .int .i64 x.fr, .int .i64 x.to, .int .i64 x.steps, .int .i64 x.paces] 45)
          have b1 := hb.alloc hb.size (.cells #[.int .i64 x.id, .int .i64 x.fr, .int .i64 x.to, .int .i64 x.steps, .int .i64 x.paces] 45)
          clear hc0 hc1 hc2 hc3 hc4
          generalize (wr.alloc (.cells #[.int .i64 x.id, .int .i64 x.fr, .int .i64 x.to, .int .i64 x.steps, .int .i64 x.paces] 45)) = w1 at *
          with_reducible refine (within_any x.id (z + 1) 9999 w1).mono ?_
          rintro e w1 ⟨rfl, rfl⟩
          have t0 := T1.out.cell 0
          have t1 := T1.out.cell 1
          have x0 := X1.out.cell 0
          have x1 := X1.out.cell 1
          have x2 := X1.out.cell 2
          have x3 := X1.out.cell 3
          have x4 := X1.out.cell 4
          cases hi1 : inB (z + 1) 9999 [x.id] with
          | false =>
            have HF : Hid (linkB t z x = false) := by show _ = _; rw [linkB_unf, hi1]; rfl
            clear hi1
            go_wp2_with fail
            go_ret
            exact ⟨ret_bool (by rw [HTB.out, HU.out, linksB_drop HX.out, HF.out]; simp), B1⟩
          | true =>
          have HI1 := Lib.hid hi1
          have hxz := inB_iff.1 hi1
          clear hi1
          go_wp2_with fail
          with_reducible refine (place_any A n c _ m d t x.fr w1 hn1 ((HT.out.places.below B1).more B1.size)).mono ?_
          rintro e w2 ⟨rfl, hb2⟩
          have X2 := Lib.hid (X1.out.below hb2 X1.out.lt)
          have T2 := Lib.hid (T1.out.below hb2 T1.out.lt)
          have B2 := B1.trans (hb2.mono B1.size)
          have b2 := b1.trans (hb2.mono b1.size)
          clear hb2 t0 t1 x0 x1 x2 x3 x4 B1 b1
          have t0 := T2.out.cell 0
          have t1 := T2.out.cell 1
          have x1 := X2.out.cell 1
          have x2 := X2.out.cell 2
          have x3 := X2.out.cell 3
          have x4 := X2.out.cell 4
          cases hi2 : memI t.places x.fr with
          | false =>
            have HF : Hid (linkB t z x = false) := by show _ = _; rw [linkB_unf, hi2]; simp
            have hneg := placeI_no hi2
            clear hi2
            go_wp2_with fail
            go_ret
            exact ⟨ret_bool (by rw [HTB.out, HU.out, linksB_drop HX.out, HF.out]; simp), B2⟩
          | true =>
          have HI2 := Lib.hid hi2
          have hpf := placeI_yes hi2
          clear hi2
          go_wp2_with fail
          with_reducible refine (place_any A n c _ m d t x.to w2 hn1 ((HT.out.places.below B2).more B2.size)).mono ?_
          rintro e w3 ⟨rfl, hb3⟩
          have X3 := Lib.hid (X2.out.below hb3 X2.out.lt)
          have T3 := Lib.hid (T2.out.below hb3 T2.out.lt)
          have B3 := B2.trans (hb3.mono B2.size)
          have b3 := b2.trans (hb3.mono b2.size)
          clear hb3 t0 t1 x1 x2 x3 x4 B2 b2
          have x1 := X3.out.cell 1
          have x2 := X3.out.cell 2
          have x3 := X3.out.cell 3
          have x4 := X3.out.cell 4
          cases hi3 : memI t.places x.to with
          | false =>
            have HF : Hid (linkB t z x = false) := by show _ = _; rw [linkB_unf, hi3]; simp
            have hneg := placeI_no hi3
            clear hi3
            go_wp2_with fail
            go_ret
            exact ⟨ret_bool (by rw [HTB.out, HU.out, linksB_drop HX.out, HF.out]; simp), B3⟩
          | true =>
          have HI3 := Lib.hid hi3
          have hpt := placeI_yes hi3
          clear hi3
          by_cases he : x.fr = x.to
          · have HF : Hid (linkB t z x = false) := by show _ = _; rw [linkB_unf, he]; simp
            have he' : (x.fr == x.to) = true := by simpa using he
            clear he
            go_wp2_with fail
            go_ret
            exact ⟨ret_bool (by rw [HTB.out, HU.out, linksB_drop HX.out, HF.out]; simp), B3⟩
          have he2 : (x.fr == x.to) = false := by simpa using he
          have HE := Lib.hid he2
          clear he
          go_wp2_with fail
          with_reducible refine (within_any x.steps 0 500 w3).mono ?_
          rintro e w3 ⟨rfl, rfl⟩
          cases hi4 : inB 0 500 [x.steps] with
          | false =>
            have HF : Hid (linkB t z x = false) := by show _ = _; rw [linkB_unf, hi4]; simp
            clear hi4
            go_wp2_with fail
            go_ret
            exact ⟨ret_bool (by rw [HTB.out, HU.out, linksB_drop HX.out, HF.out]; simp), B3⟩
          | true =>
          have HI4 := Lib.hid hi4
          clear hi4
          go_wp2_with fail
          with_reducible refine (within_any x.paces 1 2000 w3).mono ?_
          rintro e w3 ⟨rfl, rfl⟩
          cases hi5 : inB 1 2000 [x.paces] with
          | false =>
            have HF : Hid (linkB t z x = false) := by show _ = _; rw [linkB_unf, hi5]; simp
            clear hi5
            go_wp2_with fail
            go_ret
            exact ⟨ret_bool (by rw [HTB.out, HU.out, linksB_drop HX.out, HF.out]; simp), B3⟩
          | true =>
          have HF : Hid (linkB t z x = true) := by show _ = _; rw [linkB_unf, HI1.out, HI2.out, HI3.out, HE.out, HI4.out, hi5]; rfl
          have x0 := X3.out.cell 0
          clear hi5
          go_wp2_with fail
          go_roundw
          case rel => exact ⟨k + 1, x.id, by omega, by go_num, rfl, by omega, by omega, by rw [HU.out, linksB_drop HX.out, HF.out]; rfl, b3⟩
          case measure => simp [intOf]; omega
        · go_wp2_with fail
          go_ret
          exact ⟨ret_bool (by rw [HTB.out, HI.out, HUP.out, HU.out, List.drop_eq_nil_of_le (by have := HM.out; omega)]; simp [linksB]; omega), BR⟩
end Go.Proofs.YtahkjagjcogeiaaDoor
