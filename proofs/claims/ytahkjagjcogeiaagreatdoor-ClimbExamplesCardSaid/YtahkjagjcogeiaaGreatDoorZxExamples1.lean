/- Part 1 of the texts of this claim, joined. -/
import Derived.Test.YtahkjagjcogeiaaGreatDoorRows
import Derived.WalkKit
import Derived.ProofKit
import Derived.Below
import Derived.Laws.OwnMore
import Derived.Deep.AppendLies
import Derived.Deep.Draws
import Derived.Laws.Rows
import Derived.Deep.QuietTactic
import Derived.BigQuiet
import Derived.Lib.Hide
import Derived.Outline
import Derived.WalkLawsBesides
import Derived.WalkSpells
import Derived.RangeFuncNested
import Derived.RangeFuncBound
import Derived.RangeFuncCalls
import Derived.RangeFuncLeaves
import Derived.Shelf.Abstract
import Derived.Shelf.RegionOpen
import Derived.OwnWalkIn
import Derived.TacticsInMore
import Derived.LoopNIn
import Derived.LoopIn
import Derived.Sort.BigQuietIn
import Derived.StillTail
set_option linter.unusedVariables false
/- Words for memory: a slice that reads as a list, nil let in; frames behind draws. -/
namespace Go.Proofs.YtahkjagjcogeiaaGreatDoor
section
open Go.RowKit
theorem ret_int {k : IntKind} {a b : Int} (h : a = b) : Ending.returned (.int k a) = .returned (.int k b) := by rw [h]
theorem ret_bool {a b : Bool} (h : a = b) : Ending.returned (.bool a) = .returned (.bool b) := by rw [h]
theorem block_of_add (a : Addr) (n : Nat) : (a.add n).block = a.block := by unfold Addr.add; split <;> rfl
theorem below_drewN {B : Nat} {a w : World} (h : Below B a w) (n : Nat) : Below B a (w.drewN n) := ⟨h.os, h.tape, h.output, h.size, h.block⟩
def Reads (w : World) (B size : Nat) (A : Option Addr) (n : Nat) (xs : List Value) : Prop :=
 xs.length = n * size ∧ (0 < n → ∃ ad, A = some ad ∧ ad.block < B ∧ ∀ j u, xs[j]? = some u → w.cell? (ad.add j) = some u)
section
variable {w w' : World} {B B' size n : Nat} {A : Option Addr} {xs : List Value}
theorem Reads.none_ : Reads w B size A 0 [] := ⟨by simp, fun h => absurd h (by omega)⟩
theorem Reads.plain (h : Reads w B size A n xs) (hx : 0 < xs.length) : ∃ b off, A = some ⟨b, off, none⟩ ∧ b < B ∧ ∀ j u, xs[j]? = some u → w.cell? ⟨b, off + j, none⟩ = some u := by
 have hn : 0 < n := by
  rcases Nat.eq_zero_or_pos n with h0 | h0
  ·have := h.1; rw [h0] at this; omega
  ·exact h0
 obtain ⟨ad, e, hb, hc⟩ := h.2 hn
 obtain ⟨b, off, spot⟩ := ad
 have h0 := hc 0 _ (List.getElem?_eq_getElem hx)
 have hs : spot = none := by
  cases spot with
  | none => rfl
  | some s => simp [Addr.add, World.cell?] at h0; split at h0 <;> simp at h0
 subst hs
 refine ⟨b, off, e, hb, fun j u hu => ?_⟩
 have := hc j u hu
 unfold Addr.add at this
 by_cases hj : j = 0
 ·subst hj; simpa using this
 ·simpa [hj] using this
theorem Reads.keep (h : Reads w B size A n xs) (hk : ∀ p : Addr, p.block < B → w'.cell? p = w.cell? p) : Reads w' B size A n xs :=
 ⟨h.1, fun hn => by
  obtain ⟨ad, e, hb, hc⟩ := h.2 hn
  exact ⟨ad, e, hb, fun j u hu => (hk _ (by rw [block_of_add]; exact hb)).trans (hc j u hu)⟩⟩
theorem Reads.more (h : Reads w B size A n xs) (hB : B ≤ B') : Reads w B' size A n xs :=
 ⟨h.1, fun hn => by
  obtain ⟨ad, e, hb, hc⟩ := h.2 hn
  exact ⟨ad, e, by omega, hc⟩⟩
theorem Reads.below (h : Reads w B size A n xs) (hb : Below B w w') : Reads w' B size A n xs := h.keep fun _ hp => hb.cell hp
theorem Reads.drewN (h : Reads w B size A n xs) (k : Nat) : Reads (w.drewN k) B size A n xs := h
theorem Reads.alloc (h : Reads w B size A n xs) (hB : B ≤ w.heap.size) (o : Obj) : Reads (w.alloc o) B size A n xs := h.keep fun p hp => World.cell?_alloc_lt w o p (by omega)
theorem Reads.setCell (h : Reads w B size A n xs) {p : Addr} (hB : B ≤ p.block) (u : Value) : Reads (w.setCell p u) B size A n xs :=
 h.keep fun q hq => World.cell?_setCell_other w p q u (fun e => by subst e; omega)
end
def Blk (w : World) (g : Nat) (t : TypeId) (cs : Array Value) : Prop := w.heap[g]? = some (.cells cs t (0, 0))
section
variable {w w' : World} {g : Nat} {t : TypeId} {cs : Array Value}
theorem Blk.lt (h : Blk w g t cs) : g < w.heap.size := by
 rcases Nat.lt_or_ge g w.heap.size with hlt | hge
 ·exact hlt
 ·unfold Blk at h; rw [Array.getElem?_eq_none hge] at h; cases h
theorem Blk.cell (h : Blk w g t cs) (i : Nat) : w.cell? ⟨g, i, none⟩ = cs[i]? := cell_of_row w g i cs t (0, 0) h
theorem Blk.frozen (h : Blk w g t cs) (i : Nat) : w.frozen? ⟨g, i, none⟩ = false := by
 unfold Blk at h
 simp [World.frozen?, h]
theorem Blk.new (w : World) (t : TypeId) (cs : Array Value) : Blk (w.alloc (.cells cs t)) w.heap.size t cs := heap_alloc_new w _
theorem Blk.drewN (h : Blk w g t cs) (n : Nat) : Blk (w.drewN n) g t cs := h
theorem Blk.alloc (h : Blk w g t cs) (o : Obj) : Blk (w.alloc o) g t cs := (Below.heap_alloc w o g h.lt).trans h
theorem Blk.set_ (h : Blk w g t cs) (i : Nat) (u : Value) : Blk (w.setCell ⟨g, i, none⟩ u) g t (cs.setIfInBounds i u) := by
 unfold Blk at h ⊢
 simp [World.setCell, Array.getElem?_modify, h]
theorem Blk.far (h : Blk w g t cs) {p : Addr} (hp : g ≠ p.block) (u : Value) : Blk (w.setCell p u) g t cs := (Below.heap_setCell w p u g hp).trans h
theorem Blk.below {B : Nat} (h : Blk w g t cs) (hb : Below B w w') (hg : g < B) : Blk w' g t cs := (hb.block g hg).trans h
theorem Blk.grown {row : Option Nat} (h : Blk w g t cs) (hb : w.grownBy w' row) (hg : some g ≠ row) : Blk w' g t cs := (hb.block g h.lt hg).trans h
end
def IntsAt (w : World) (B : Nat) (A : Option Addr) (n : Nat) (l : List Int) : Prop := Reads w B 1 A n (l.map (Value.int .i64))
section
variable {w w' : World} {B B' n : Nat} {A : Option Addr} {l : List Int}
theorem IntsAt.len (h : IntsAt w B A n l) : l.length = n := by have := h.1; simpa using this
theorem IntsAt.cell (h : IntsAt w B A n l) {k : Nat} (hk : k < n) : ∃ b off x, A = some ⟨b, off, none⟩ ∧ b < B ∧ l[k]? = some x ∧ w.cell? ⟨b, off + k, none⟩ = some (.int .i64 x) := by
 have hl := h.len
 obtain ⟨b, off, e, hb, hc⟩ := Reads.plain h (by simp; omega)
 have hx : l[k]? = some l[k] := List.getElem?_eq_getElem (by omega)
 exact ⟨b, off, _, e, hb, hx, hc k _ (by rw [List.getElem?_map, hx]; rfl)⟩
theorem IntsAt.below (h : IntsAt w B A n l) (hb : Below B w w') : IntsAt w' B A n l := Reads.below h hb
theorem IntsAt.more (h : IntsAt w B A n l) (hB : B ≤ B') : IntsAt w B' A n l := Reads.more h hB
end
theorem IntsAt.new (w : World) (t : TypeId) (l : List Int) (B : Nat) (hB : w.heap.size < B) : IntsAt (w.alloc (.cells (l.map (Value.int .i64)).toArray t)) B (some ⟨w.heap.size, 0, none⟩) l.length l := by
 refine ⟨by simp, fun _ => ⟨_, rfl, hB, fun j u hu => ?_⟩⟩
 have ha : ((⟨w.heap.size, 0, none⟩ : Addr).add j) = ⟨w.heap.size, j, none⟩ := by
  unfold Addr.add
  by_cases hj : j = 0
  ·simp [hj]
  ·simp [hj]
 rw [ha, cell_of_row _ _ _ _ _ _ (heap_alloc_new w _)]
 simpa using hu
def idx (p : Int → Bool) (l : List Int) : Int := if l.any p then (l.findIdx p : Int) else -1
theorem idx_none {p : Int → Bool} {l : List Int} (h : ∀ y ∈ l, p y = false) : idx p l = -1 := by
 unfold idx
 rw [if_neg]
 simp only [List.any_eq_true, not_exists, not_and, Bool.not_eq_true]
 exact h
theorem idx_some {p : Int → Bool} {l : List Int} {k : Nat} {x : Int} (hx : l[k]? = some x) (hp : p x = true) (h : ∀ y ∈ l.take k, p y = false) : idx p l = k := by
 obtain ⟨hk, rfl⟩ := List.getElem?_eq_some_iff.1 hx
 have hf : l.findIdx p = k := by
  rw [List.findIdx_eq hk]
  refine ⟨hp, fun j hj => ?_⟩
  have := h (l[j]'(by omega)) (by
   rw [List.mem_take_iff_getElem]
   exact ⟨j, by omega, rfl⟩)
  simp [this]
 unfold idx
 rw [if_pos (List.any_eq_true.2 ⟨_, List.getElem_mem hk, hp⟩), hf]
theorem idx_ge {p : Int → Bool} {l : List Int} : decide (0 ≤ idx p l) = l.any p := by
 unfold idx
 cases h : l.any p <;> simp
theorem idx_bd (p : Int → Bool) (l : List Int) : -1 ≤ idx p l ∧ idx p l ≤ l.length := by
 unfold idx
 have := List.findIdx_le_length (p := p) (xs := l)
 split <;> omega
theorem take_snoc_all {α : Type} {p : α → Bool} {l : List α} {k : Nat} {x : α} (hx : l[k]? = some x) (hp : p x = false) (h : ∀ y ∈ l.take k, p y = false) : ∀ y ∈ l.take (k + 1), p y = false := by
 intro y hy
 obtain ⟨hk, rfl⟩ := List.getElem?_eq_some_iff.1 hx
 rw [List.take_succ_eq_append_getElem hk, List.mem_append] at hy
 rcases hy with hy | hy
 ·exact h y hy
 ·simp at hy; rw [hy]; exact hp
theorem mem_of_at {α : Type} {l : List α} {k : Nat} {x : α} (hx : l[k]? = some x) : x ∈ l := by
 obtain ⟨hk, rfl⟩ := List.getElem?_eq_some_iff.1 hx
 exact List.getElem_mem hk
end
section
open Go.RowKit
set_option maxHeartbeats 1000000 in
theorem index_int (A : Option Addr) (n c : Nat) (l : List Int) (x : Int) (w : World) (hr : IntsAt w w.heap.size A n l) (hn : n ≤ maxLen) :
  Calls Tryz.prog 114 #[.slice A n c, .int .i64 x] w fun e w' => e = .returned (.int .i64 (idx (fun y => x == y) l)) ∧ Below w.heap.size w w' := by
 unfold maxLen at hn
 go_enter Tryz.func114, Tryz.ntmps114
 go_wp2_with fail
 go_loopw [8, 5] (fun i j wr => ∃ k : Nat, k ≤ n ∧ i = .int .i64 k ∧ (∀ y ∈ l.take k, (x == y) = false) ∧ Below w.heap.size w wr)
  (fun i _ _ => n - (intOf i).toNat)
 case atStart => exact ⟨0, by omega, rfl, by simp, Below.refl _ _⟩
 case round =>
  obtain ⟨k, hk, rfl, hno, hb⟩ := hrel
  have HN := Lib.hid hno
  clear hno
  by_cases hlt : k < n
  ·obtain ⟨b, off, y, rfl, hbB, hx, hc⟩ := (hr.below hb).cell hlt
   have HX := Lib.hid hx
   clear hx
   by_cases he : x = y
   ·subst he
    go_wp2_with fail
    go_ret
    exact ⟨ret_int (idx_some HX.out (by simp) HN.out).symm, hb⟩
   ·have he' : (x == y) = false := by simpa using he
    go_wp2_with fail
    go_roundw
    case rel => exact ⟨k + 1, by omega, by go_num, take_snoc_all HX.out (by simpa using he) HN.out, hb⟩
    case measure => simp [intOf]; omega
  ·go_wp2_with fail
   go_ret
   exact ⟨ret_int (idx_none (by
    have := HN.out
    rwa [List.take_of_length_le (by have := hr.len; omega)] at this)).symm, hb⟩
end
section
open Go.RowKit
theorem idx_contains (x : Int) (l : List Int) : decide (0 ≤ idx (fun y => x == y) l) = l.contains x := by
 rw [idx_ge, Bool.eq_iff_iff]
 simp [List.any_eq_true]
def memI (l : List Int) (x : Int) : Bool := l.contains x
theorem memI_iff {l : List Int} {x : Int} : memI l x = true ↔ x ∈ l := by simp [memI]
theorem contains_int (A : Option Addr) (n c : Nat) (l : List Int) (x : Int) (w : World) (hr : IntsAt w w.heap.size A n l) (hn : n ≤ maxLen) :
  Calls Tryz.prog 72 #[.slice A n c, .int .i64 x] w fun e w' => e = .returned (.bool (memI l x)) ∧ Below w.heap.size w w' := by
 have H := Lib.hid (index_int A n c l x w hr hn)
 have HD := idx_bd (fun y => x == y) l
 go_enter Tryz.func72, Tryz.ntmps72
 go_wp2_with fail
 refine H.out.mono ?_
 rintro e w' ⟨rfl, hb⟩
 go_wp2_with fail
 go_ret
 exact ⟨ret_bool (idx_contains x l), hb⟩
end
section
open Go.RowKit
set_option maxHeartbeats 1000000 in
theorem indexFunc_int (F : FuncId) (C : Array Value) (p : Int → Bool) (A : Option Addr) (n c : Nat) (l : List Int) (w : World) (hr : IntsAt w w.heap.size A n l) (hn : n ≤ maxLen)
  (hE : ∀ args W, (callFunc F args).run Tryz.prog W = .ok (.enter F args) W)
  (hF : ∀ x ∈ l, ∀ W, Below w.heap.size w W → Calls Tryz.prog F (#[.int .i64 x] ++ C) W fun e w' => e = .returned (.bool (p x)) ∧ Below W.heap.size W w') :
  Calls Tryz.prog 110 #[.slice A n c, .func (.func F) #[] C] w fun e w' => e = .returned (.int .i64 (idx p l)) ∧ Below w.heap.size w w' := by
 unfold maxLen at hn
 have HF := Lib.hid hF
 clear hF
 go_enter Tryz.func110, Tryz.ntmps110
 go_wp2_with fail
 go_loopw [8, 5] (fun i j wr => ∃ k : Nat, k ≤ n ∧ i = .int .i64 k ∧ (∀ y ∈ l.take k, p y = false) ∧ Below w.heap.size w wr)
  (fun i _ _ => n - (intOf i).toNat)
 case atStart => exact ⟨0, by omega, rfl, by simp, Below.refl _ _⟩
 case round =>
  obtain ⟨k, hk, rfl, hno, hb⟩ := hrel
  have HN := Lib.hid hno
  clear hno
  by_cases hlt : k < n
  ·obtain ⟨b, off, x, rfl, hbB, hx, hc⟩ := (hr.below hb).cell hlt
   have HX := Lib.hid hx
   clear hx
   go_wp2_with fail
   refine (HF.out x (mem_of_at HX.out) _ hb).mono ?_
   rintro e w' ⟨rfl, hb'⟩
   cases hp : p x with
   | true =>
    have HP := Lib.hid hp
    clear hp
    go_wp2_with fail
    go_ret
    exact ⟨ret_int (idx_some HX.out HP.out HN.out).symm, hb.trans (hb'.mono hb.size)⟩
   | false =>
    have HP := Lib.hid hp
    clear hp
    go_wp2_with fail
    go_roundw
    case rel => exact ⟨k + 1, by omega, by go_num, take_snoc_all HX.out HP.out HN.out, hb.trans (hb'.mono hb.size)⟩
    case measure => simp [intOf]; omega
  ·go_wp2_with fail
   go_ret
   exact ⟨ret_int (idx_none (by
    have := HN.out
    rwa [List.take_of_length_le (by have := hr.len; omega)] at this)).symm, hb⟩
set_option maxHeartbeats 1000000 in
theorem containsFunc_int (F : FuncId) (C : Array Value) (p : Int → Bool) (A : Option Addr) (n c : Nat) (l : List Int) (w : World) (hr : IntsAt w w.heap.size A n l) (hn : n ≤ maxLen)
  (hE : ∀ args W, (callFunc F args).run Tryz.prog W = .ok (.enter F args) W)
  (hF : ∀ x ∈ l, ∀ W, Below w.heap.size w W → Calls Tryz.prog F (#[.int .i64 x] ++ C) W fun e w' => e = .returned (.bool (p x)) ∧ Below W.heap.size W w') :
  Calls Tryz.prog 127 #[.slice A n c, .func (.func F) #[] C] w fun e w' => e = .returned (.bool (l.any p)) ∧ Below w.heap.size w w' := by
 have H := Lib.hid (indexFunc_int F C p A n c l w hr hn hE hF)
 clear hE hF
 go_enter Tryz.func127, Tryz.ntmps127
 go_wp2_with fail
 refine H.out.mono ?_
 rintro e w' ⟨rfl, hb⟩
 go_wp2_with fail
 go_ret
 exact ⟨ret_bool idx_ge, hb⟩
end
section
open Go.RowKit
theorem out1_any (x lo hi : Int) (b1 b2 : Nat) (w : World) (h1 : w.cell? ⟨b1, 0, none⟩ = some (.int .i64 lo)) (h2 : w.cell? ⟨b2, 0, none⟩ = some (.int .i64 hi)) :
  Calls Tryz.prog 145 (#[.int .i64 x] ++ #[.pointer (some ⟨b1, 0, none⟩), .pointer (some ⟨b2, 0, none⟩)]) w fun e w' => e = .returned (.bool (decide (x < lo) || decide (hi < x))) ∧ Below w.heap.size w w' := by
 by_cases h : x < lo
 all_goals
  go_enter Tryz.func145, Tryz.ntmps145
  go_wp2
  go_ret
  refine ⟨ret_bool ?_, Below.refl _ _⟩
  by_cases q : x < lo <;> simp [q] <;> omega
theorem enters_in1 (args : Array Value) (W : World) : (callFunc 145 args).run Tryz.prog W = .ok (.enter 145 args) W := by
 simp [go_sem]
def inB (lo hi : Int) (l : List Int) : Bool := !l.any fun n => decide (n < lo) || decide (hi < n)
theorem in_any (lo hi : Int) (A : Option Addr) (n c : Nat) (l : List Int) (w : World) (hr : IntsAt w w.heap.size A n l) (hn : n ≤ maxLen) :
  Calls Tryz.prog 120 #[.int .i64 lo, .int .i64 hi, .slice A n c] w fun e w' => e = .returned (.bool (inB lo hi l)) ∧ Below w.heap.size w w' := by
 have hmf : ∀ (fn : Fn) (first cap : Array Value) (w : World), (Instr.makeFunc fn first cap).run Tryz.prog w = .ok (.func fn first cap) w := fun _ _ _ _ => rfl
 go_enter Tryz.func120, Tryz.ntmps120
 go_wp2_with fail
 have hb : Below w.heap.size w ((w.alloc (.cells #[.int .i64 lo] 3)).alloc (.cells #[.int .i64 hi] 3)) := ((Below.refl _ _).alloc (Nat.le_refl _) _).alloc (by simp) _
 refine (containsFunc_int 145 _ (fun n => decide (n < lo) || decide (hi < n)) A n c l _ ((hr.below hb).more (by simp; omega)) hn enters_in1 ?_).mono ?_
 ·intro x _ W hW
  exact out1_any x lo hi _ _ W ((hW.cell (p := ⟨w.heap.size, 0, none⟩) (by simp; omega)).trans (by simp [go_sem])) ((hW.cell (p := ⟨w.heap.size + 1, 0, none⟩) (by simp)).trans (by simp [go_sem]))
 ·rintro e w' ⟨rfl, hb'⟩
  go_wp2_with fail
  go_ret
  exact ⟨rfl, hb.trans (hb'.mono (by simp; omega))⟩
theorem in1_any (lo hi x : Int) (g : Nat) (w : World) (hg : g < w.heap.size) (hc : w.cell? ⟨g, 0, none⟩ = some (.int .i64 x)) :
  Calls Tryz.prog 120 #[.int .i64 lo, .int .i64 hi, .slice (some ⟨g, 0, none⟩) 1 1] w fun e w' => e = .returned (.bool (inB lo hi [x])) ∧ Below w.heap.size w w' :=
 in_any lo hi _ 1 1 [x] w ⟨rfl, fun _ => ⟨_, rfl, hg, fun j u hu => by
  cases j with
  | zero => simp at hu; rw [← hu]; simpa [Addr.add] using hc
  | succ j => simp at hu⟩⟩ (by decide)
end
section
def cmpL : List Int → List Int → Int
 | [], [] => 0
 | [], _ :: _ => -1
 | _ :: _, [] => 1
 | x :: a, y :: b => if x < y then -1 else if y < x then 1 else cmpL a b
theorem cmpL_drop {a b : List Int} {k : Nat} {x y : Int} (hx : a[k]? = some x) (hy : b[k]? = some y) : cmpL (a.drop k) (b.drop k) = if x < y then -1 else if y < x then 1 else cmpL (a.drop (k + 1)) (b.drop (k + 1)) := by
 obtain ⟨hk, rfl⟩ := List.getElem?_eq_some_iff.1 hx
 obtain ⟨hk', rfl⟩ := List.getElem?_eq_some_iff.1 hy
 rw [List.drop_eq_getElem_cons hk, List.drop_eq_getElem_cons hk']; rfl
theorem cmpL_cons (x y : Int) (a b : List Int) : cmpL (x :: a) (y :: b) = if x < y then -1 else if y < x then 1 else cmpL a b := rfl
theorem cmpL_same (x : Int) (a b : List Int) : cmpL (x :: a) (x :: b) = cmpL a b := by rw [cmpL_cons, if_neg (by omega), if_neg (by omega)]
theorem cmpL_refl : ∀ a : List Int, cmpL a a = 0
 | [] => rfl
 | x :: a => by rw [cmpL_same]; exact cmpL_refl a
theorem cmpL_three : ∀ a b : List Int, cmpL a b = -1 ∨ cmpL a b = 0 ∨ cmpL a b = 1
 | [], [] => by simp [cmpL]
 | [], _ :: _ => by simp [cmpL]
 | _ :: _, [] => by simp [cmpL]
 | x :: a, y :: b => by
  rw [cmpL_cons]
  have := cmpL_three a b
  split
  ·simp
  ·split
   ·simp
   ·exact this
theorem cmpL_eq : ∀ {a b : List Int}, cmpL a b = 0 → a = b
 | [], [], _ => rfl
 | [], _ :: _, h => by simp [cmpL] at h
 | _ :: _, [], h => by simp [cmpL] at h
 | x :: a, y :: b, h => by
  rw [cmpL_cons] at h
  split at h
  ·omega
  ·split at h
   ·omega
   ·rw [cmpL_eq h, show x = y by omega]
theorem cmpL_swap : ∀ a b : List Int, cmpL b a = - cmpL a b
 | [], [] => rfl
 | [], _ :: _ => rfl
 | _ :: _, [] => rfl
 | x :: a, y :: b => by
  rw [cmpL_cons, cmpL_cons]
  have := cmpL_swap a b
  by_cases h1 : x < y
  ·rw [if_neg (by omega), if_pos h1, if_pos h1]; rfl
  ·by_cases h2 : y < x
   ·rw [if_pos h2, if_neg h1, if_pos h2]
   ·rw [if_neg h2, if_neg h1, if_neg h1, if_neg h2]; exact this
theorem cmpL_trans : ∀ {a b c : List Int}, cmpL a b ≤ 0 → cmpL b c ≤ 0 → cmpL a c ≤ 0
 | [], _, [], _, _ => by simp [cmpL]
 | [], _, _ :: _, _, _ => by simp [cmpL]
 | _ :: _, [], _, h, _ => by simp [cmpL] at h
 | _ :: _, _ :: _, [], _, h => by simp [cmpL] at h
 | x :: a, y :: b, z :: c, h1, h2 => by
  rw [cmpL_cons] at h1 h2 ⊢
  have ih := @cmpL_trans a b c
  by_cases p1 : x < y
  ·by_cases q1 : y < z
   ·rw [if_pos (by omega)]; omega
   ·rw [if_neg q1] at h2
    by_cases q2 : z < y
    ·rw [if_pos q2] at h2; omega
    ·rw [if_pos (by omega)]; omega
  ·rw [if_neg p1] at h1
   by_cases p2 : y < x
   ·rw [if_pos p2] at h1; omega
   ·rw [if_neg p2] at h1
    by_cases q1 : y < z
    ·rw [if_pos (by omega)]; omega
    ·rw [if_neg q1] at h2
     by_cases q2 : z < y
     ·rw [if_pos q2] at h2; omega
     ·rw [if_neg q2] at h2
      rw [if_neg (by omega), if_neg (by omega)]; exact ih h1 h2
theorem cmpL_total (a b : List Int) : cmpL a b ≤ 0 ∨ cmpL b a ≤ 0 := by
 have := cmpL_three a b
 have := cmpL_swap a b
 omega
theorem cmpL_antisymm {a b : List Int} (h1 : cmpL a b ≤ 0) (h2 : cmpL b a ≤ 0) : a = b := by
 have := cmpL_swap a b
 exact cmpL_eq (by omega)
theorem cmpL_le_lt {a b c : List Int} (h1 : cmpL a b ≤ 0) (h2 : cmpL b c < 0) : cmpL a c < 0 := by
 have h3 := cmpL_trans h1 (show cmpL b c ≤ 0 by omega)
 rcases cmpL_three a c with h | h | h
 ·omega
 ·have := cmpL_eq h
  subst this
  have := cmpL_swap a b
  omega
 ·omega
theorem cmpL_append : ∀ {a b : List Int} (x y : List Int), a.length = b.length → cmpL (a ++ x) (b ++ y) = if cmpL a b = 0 then cmpL x y else cmpL a b
 | [], [], x, y, _ => by simp [cmpL]
 | [], _ :: _, x, y, h => by simp at h
 | _ :: _, [], x, y, h => by simp at h
 | p :: a, q :: b, x, y, h => by
  rw [List.cons_append, List.cons_append, cmpL_cons, cmpL_cons, cmpL_append x y (by simpa using h)]
  by_cases h1 : p < q
  ·simp [h1]
  ·by_cases h2 : q < p
   ·simp [h1, h2]
   ·simp [h1, h2]
theorem cmpL_pre (a x y : List Int) : cmpL (a ++ x) (a ++ y) = cmpL x y := by rw [cmpL_append x y rfl, cmpL_refl, if_pos rfl]
end
section
structure Link where
 id : Int
 fr : Int
 to : Int
 steps : Int
 paces : Int
 deriving DecidableEq
structure Town where
 places : List Int
 links : List Link
 deriving DecidableEq
structure Cost where
 a : Int
 b : Int
 c : Int
 d : Int
 deriving DecidableEq
structure Price where
 pace : Int
 up : Int
 step : Int
 deriving DecidableEq
def Cost.list (c : Cost) : List Int := [c.a, c.b, c.c, c.d]
def addC (x y : Cost) : Cost := ⟨x.a + y.a, x.b + y.b, x.c + y.c, x.d + y.d⟩
def zeroC : Cost := ⟨0, 0, 0, 0⟩
theorem addC_zero (x : Cost) : addC x zeroC = x := by simp [addC, zeroC]
theorem zero_addC (x : Cost) : addC zeroC x = x := by simp [addC, zeroC]
theorem addC_assoc (x y z : Cost) : addC (addC x y) z = addC x (addC y z) := by simp [addC]; omega
theorem addC_comm (x y : Cost) : addC x y = addC y x := by simp [addC]; omega
def key (c : Cost) (l : List Int) : List Int := c.list ++ l
theorem key_inj {c d : Cost} {l m : List Int} (h : key c l = key d m) : c = d ∧ l = m := by
 obtain ⟨a1, a2, a3, a4⟩ := c
 obtain ⟨b1, b2, b3, b4⟩ := d
 simp [key, Cost.list] at h
 obtain ⟨rfl, rfl, rfl, rfl, rfl⟩ := h
 exact ⟨rfl, rfl⟩
theorem cmp_key (c d : Cost) (l m : List Int) : cmpL (key c l) (key d m) = if cmpL c.list d.list = 0 then cmpL l m else cmpL c.list d.list := cmpL_append l m rfl
theorem list_eq {c d : Cost} (h : cmpL c.list d.list = 0) : c = d := by
 have := cmpL_eq h
 obtain ⟨a1, a2, a3, a4⟩ := c
 obtain ⟨b1, b2, b3, b4⟩ := d
 simp [Cost.list] at this
 obtain ⟨rfl, rfl, rfl, rfl⟩ := this
 rfl
theorem cmpC_unf (c d : Cost) : cmpL c.list d.list = if c.a < d.a then -1 else if d.a < c.a then 1 else if c.b < d.b then -1 else if d.b < c.b then 1 else if c.c < d.c then -1 else if d.c < c.c then 1 else if c.d < d.d then -1 else if d.d < c.d then 1 else 0 := rfl
theorem cmpC_add (c d x : Cost) : cmpL (addC c x).list (addC d x).list = cmpL c.list d.list := by
 rw [cmpC_unf, cmpC_unf]
 unfold addC
 have e : ∀ u v w : Int, (u + w < v + w) = (u < v) := fun u v w => propext ⟨fun h => by omega, fun h => by omega⟩
 simp only [e]
theorem cmpC_add' (c d x : Cost) : cmpL (addC x c).list (addC x d).list = cmpL c.list d.list := by rw [addC_comm x c, addC_comm x d]; exact cmpC_add c d x
theorem cmpC_grow (c x : Cost) (ha : 0 ≤ x.a) (hb : 0 ≤ x.b) (hc : 0 < x.c) : cmpL c.list (addC c x).list = -1 := by
 rw [cmpC_unf]
 unfold addC
 split
 ·rfl
 ·rw [if_neg (by simp; omega)]
  split
  ·rfl
  ·rw [if_neg (by simp; omega), if_pos (by simp; omega)]
theorem key_snoc (c d x : Cost) (l m : List Int) (i : Int) (h1 : c.d = l.length) (h2 : d.d = m.length) : cmpL (key (addC c x) (l ++ [i])) (key (addC d x) (m ++ [i])) = cmpL (key c l) (key d m) := by
 rw [cmp_key, cmp_key, cmpC_add]
 split
 ·rename_i h
  have := list_eq h
  subst this
  rw [cmpL_append _ _ (by omega), cmpL_refl]
  split
  ·rename_i h3; rw [h3]
  ·rfl
 ·rfl
theorem key_cons (c d x : Cost) (l m : List Int) (i : Int) : cmpL (key (addC x c) (i :: l)) (key (addC x d) (i :: m)) = cmpL (key c l) (key d m) := by
 rw [cmp_key, cmp_key, cmpC_add', cmpL_same]
theorem key_grow (c x : Cost) (l m : List Int) (ha : 0 ≤ x.a) (hb : 0 ≤ x.b) (hc : 0 < x.c) : cmpL (key c l) (key (addC c x) m) < 0 := by
 rw [cmp_key, cmpC_grow c x ha hb hc, if_neg (by decide)]; decide
def leads (dk : Bool) (p : Price) (x : Link) (v : Int) : Option (Int × Cost) :=
 if dk = true ∧ 0 < x.steps then none
 else if x.fr = v then some (x.to, ⟨x.paces * p.pace + x.steps * (p.up + p.step), x.steps, x.paces, 1⟩)
 else if x.to = v then some (x.fr, ⟨x.paces * p.pace + x.steps * p.step, 0, x.paces, 1⟩)
 else none
inductive Walk (t : Town) (dk : Bool) (p : Price) : Int → Int → Cost → List Int → Prop
 | nil (v : Int) : Walk t dk p v v zeroC []
 | cons {u m v : Int} {x : Link} {c d : Cost} {l : List Int} (hx : x ∈ t.links) (hl : leads dk p x u = some (m, c)) (h : Walk t dk p m v d l) : Walk t dk p u v (addC c d) (x.id :: l)
structure Fine (t : Town) : Prop where
 steps : ∀ x ∈ t.links, 0 ≤ x.steps ∧ x.steps ≤ 500
 paces : ∀ x ∈ t.links, 1 ≤ x.paces ∧ x.paces ≤ 2000
 ends : ∀ x ∈ t.links, x.fr ∈ t.places ∧ x.to ∈ t.places
 ids : t.links.Pairwise fun x y => x.id < y.id
 size : t.places.length ≤ 9
structure Fair (p : Price) : Prop where
 pace : 0 ≤ p.pace ∧ p.pace ≤ 50
 up : 0 ≤ p.up
 step : 0 ≤ p.step
 both : p.up + p.step ≤ 50
section
variable {t : Town} {dk : Bool} {p : Price} {u v m : Int} {c d : Cost} {l k : List Int} {x : Link}
theorem leads_cost (hx : x ∈ t.links) (ht : Fine t) (hp : Fair p) (h : leads dk p x u = some (m, c)) : 0 ≤ c.a ∧ c.a ≤ 125000 ∧ 0 ≤ c.b ∧ c.b ≤ 500 ∧ 1 ≤ c.c ∧ c.c ≤ 2000 ∧ c.d = 1 := by
 have h1 := ht.steps x hx
 have h2 := ht.paces x hx
 obtain ⟨hp1, hp2, hp3, hp4⟩ := hp
 have m1 : 0 ≤ x.paces * p.pace ∧ x.paces * p.pace ≤ 2000 * 50 := ⟨Int.mul_nonneg (by omega) (by omega), Int.mul_le_mul (by omega) (by omega) (by omega) (by omega)⟩
 have m2 : 0 ≤ x.steps * (p.up + p.step) ∧ x.steps * (p.up + p.step) ≤ 500 * 50 := ⟨Int.mul_nonneg (by omega) (by omega), Int.mul_le_mul (by omega) (by omega) (by omega) (by omega)⟩
 have m3 : 0 ≤ x.steps * p.step ∧ x.steps * p.step ≤ 500 * 50 := ⟨Int.mul_nonneg (by omega) (by omega), Int.mul_le_mul (by omega) (by omega) (by omega) (by omega)⟩
 unfold leads at h
 split at h
 ·cases h
 ·split at h
  ·cases h; refine ⟨?_, ?_, ?_, ?_, ?_, ?_, rfl⟩ <;> simp <;> omega
  ·split at h
   ·cases h; refine ⟨?_, ?_, ?_, ?_, ?_, ?_, rfl⟩ <;> simp <;> omega
   ·cases h
theorem leads_ends (hx : x ∈ t.links) (ht : Fine t) (h : leads dk p x u = some (m, c)) : u ∈ t.places ∧ m ∈ t.places := by
 have := ht.ends x hx
 unfold leads at h
 split at h
 ·cases h
 ·split at h
  ·rename_i e; cases h; subst e; exact ⟨this.1, this.2⟩
  ·split at h
   ·rename_i e; cases h; subst e; exact ⟨this.2, this.1⟩
   ·cases h
theorem Walk.append (h : Walk t dk p u v c l) : ∀ {m : Int} {d : Cost} {k : List Int}, Walk t dk p v m d k → Walk t dk p u m (addC c d) (l ++ k) := by
 induction h with
 | nil v => intro m d k h; rw [zero_addC]; exact h
 | cons hx hl _ ih => intro m d k h; rw [addC_assoc]; exact .cons hx hl (ih h)
theorem Walk.snoc (h : Walk t dk p u v c l) (hx : x ∈ t.links) (hl : leads dk p x v = some (m, d)) : Walk t dk p u m (addC c d) (l ++ [x.id]) := by
 have := h.append (.cons hx hl (.nil m))
 rwa [addC_zero] at this
theorem Walk.bound (h : Walk t dk p u v c l) (ht : Fine t) (hp : Fair p) : 0 ≤ c.a ∧ c.a ≤ 125000 * l.length ∧ 0 ≤ c.b ∧ c.b ≤ 500 * l.length ∧ l.length ≤ c.c ∧ c.c ≤ 2000 * l.length ∧ c.d = l.length := by
 induction h with
 | nil v => simp [zeroC]
 | cons hx hl _ ih =>
  have := leads_cost hx ht hp hl
  obtain ⟨i1, i2, i3, i4, i5, i6, i7⟩ := ih
  simp only [addC, List.length_cons]
  omega
theorem Walk.ends (h : Walk t dk p u v c l) (ht : Fine t) : (u = v ∧ l = []) ∨ (u ∈ t.places ∧ v ∈ t.places) := by
 induction h with
 | nil v => exact .inl ⟨rfl, rfl⟩
 | cons hx hl _ ih =>
  have := leads_ends hx ht hl
  rcases ih with ⟨rfl, _⟩ | ih
  ·exact .inr this
  ·exact .inr ⟨this.1, ih.2⟩
theorem Walk.cross (S : Int → Prop) (h : Walk t dk p u v c l) : S u → ¬ S v → ∃ m n x c1 c2 c3 l1 l2, Walk t dk p u m c1 l1 ∧ S m ∧ x ∈ t.links ∧ leads dk p x m = some (n, c2) ∧ ¬ S n ∧ Walk t dk p n v c3 l2 ∧ c = addC (addC c1 c2) c3 ∧ l = (l1 ++ [x.id]) ++ l2 := by
 induction h with
 | nil v => intro h1 h2; exact absurd h1 h2
 | @cons u m v x c d l hx hl hw ih =>
  intro h1 h2
  by_cases hm : S m
  ·obtain ⟨m', n, y, c1, c2, c3, l1, l2, w1, s1, hy, ly, sn, w2, e1, e2⟩ := ih hm h2
   refine ⟨m', n, y, addC c c1, c2, c3, x.id :: l1, l2, .cons hx hl w1, s1, hy, ly, sn, w2, ?_, ?_⟩
   ·rw [e1, addC_assoc, addC_assoc, addC_assoc]
   ·rw [e2]; simp
  ·exact ⟨u, m, x, zeroC, c, d, [], l, .nil u, h1, hx, hl, hm, hw, by rw [zero_addC], by simp⟩
end
def First (t : Town) (dk : Bool) (p : Price) (u v : Int) : Option (Cost × List Int) → Prop
 | none => ∀ c l, ¬ Walk t dk p u v c l
 | some (c, l) => Walk t dk p u v c l ∧ ∀ c' l', Walk t dk p u v c' l' → cmpL (key c l) (key c' l') ≤ 0
section
variable {t : Town} {dk : Bool} {p : Price} {u v m : Int} {c d : Cost} {l k : List Int} {x : Link}
theorem First.unique {r r' : Option (Cost × List Int)} (h : First t dk p u v r) (h' : First t dk p u v r') : r = r' := by
 match r, r', h, h' with
 | none, none, _, _ => rfl
 | none, some (c, l), h, h' => exact absurd h'.1 (h c l)
 | some (c, l), none, h, h' => exact absurd h.1 (h' c l)
 | some (c, l), some (d, k), h, h' =>
  have := cmpL_antisymm (h.2 _ _ h'.1) (h'.2 _ _ h.1)
  obtain ⟨rfl, rfl⟩ := key_inj this
  rfl
theorem Walk.longer (h : Walk t dk p u v c l) (ht : Fine t) (hp : Fair p) (d : Cost) (k m : List Int) : cmpL (key d k) (key (addC d c) m) < 0 ∨ (l = [] ∧ c = zeroC ∧ u = v) := by
 have hb := h.bound ht hp
 cases h with
 | nil v => exact .inr ⟨rfl, rfl, rfl⟩
 | cons hx hl hw =>
  refine .inl (key_grow d _ k m hb.1 hb.2.2.1 ?_)
  have := hb.2.2.2.2.1
  simp at this ⊢
  omega
theorem Walk.longer' (h : Walk t dk p u v c l) (ht : Fine t) (hp : Fair p) (d : Cost) (k : List Int) : cmpL (key d k) (key (addC d c) (k ++ l)) ≤ 0 := by
 rcases h.longer ht hp d k (k ++ l) with h1 | ⟨rfl, rfl, _⟩
 ·omega
 ·rw [addC_zero, List.append_nil, cmpL_refl]; omega
structure DInv (t : Town) (dk : Bool) (p : Price) (s : Int) (S O : Int → Option (Cost × List Int)) : Prop where
 disj : ∀ v, O v ≠ none → S v = none
 sFirst : ∀ v r, S v = some r → First t dk p s v (some r)
 oWalk : ∀ v c l, O v = some (c, l) → Walk t dk p s v c l
 cross : ∀ u c l, S u = some (c, l) → ∀ x ∈ t.links, ∀ n d, leads dk p x u = some (n, d) → S n ≠ none ∨ ∃ c' l', O n = some (c', l') ∧ cmpL (key c' l') (key (addC c d) (l ++ [x.id])) ≤ 0
 start : S s ≠ none ∨ O s = some (zeroC, [])
theorem DInv.least {s : Int} {S O : Int → Option (Cost × List Int)} (h : DInv t dk p s S O) (ht : Fine t) (hp : Fair p) {c : Cost} {l : List Int} (ho : O v = some (c, l))
  (hmin : ∀ v' c' l', O v' = some (c', l') → cmpL (key c l) (key c' l') ≤ 0) : First t dk p s v (some (c, l)) := by
 refine ⟨h.oWalk _ _ _ ho, fun c' l' hw => ?_⟩
 rcases h.start with hs | hs
 ·have hv : ¬ S v ≠ none := fun hc => hc (h.disj v (by rw [ho]; simp))
  obtain ⟨m, n, x, c1, c2, c3, l1, l2, w1, sm, hx, lx, sn, w2, rfl, rfl⟩ := hw.cross (fun v => S v ≠ none) hs hv
  cases hm : S m with
  | none => exact absurd hm sm
  | some r =>
   obtain ⟨cm, lm⟩ := r
   have fm := h.sFirst m _ hm
   rcases h.cross m cm lm hm x hx n c2 lx with hn | ⟨cn, ln, hn, hle⟩
   ·exact absurd hn sn
   ·have k1 := hmin n cn ln hn
    have k2 := fm.2 _ _ w1
    have k3 : cmpL (key (addC cm c2) (lm ++ [x.id])) (key (addC c1 c2) (l1 ++ [x.id])) ≤ 0 := by
     rw [key_snoc _ _ _ _ _ _ (fm.1.bound ht hp).2.2.2.2.2.2 (w1.bound ht hp).2.2.2.2.2.2]; exact k2
    exact cmpL_trans (cmpL_trans (cmpL_trans k1 hle) k3) (w2.longer' ht hp _ _)
 ·have k1 := hmin s _ _ hs
  have := hw.longer' ht hp zeroC []
  rw [zero_addC, List.nil_append] at this
  exact cmpL_trans k1 this
theorem DInv.over {s : Int} {S O : Int → Option (Cost × List Int)} (h : DInv t dk p s S O) (hO : ∀ v, O v = none) (v : Int) : First t dk p s v (S v) := by
 cases hv : S v with
 | some r => exact h.sFirst v r hv
 | none =>
  intro c l hw
  rcases h.start with hs | hs
  ·obtain ⟨m, n, x, c1, c2, c3, l1, l2, w1, sm, hx, lx, sn, _⟩ := hw.cross (fun v => S v ≠ none) hs (by simp [hv])
   cases hm : S m with
   | none => exact absurd hm sm
   | some r =>
    obtain ⟨cm, lm⟩ := r
    rcases h.cross m cm lm hm x hx n c2 lx with hn | ⟨cn, ln, hn, _⟩
    ·exact absurd hn sn
    ·rw [hO n] at hn; cases hn
  ·rw [hO s] at hs; cases hs
structure DMid (t : Town) (dk : Bool) (p : Price) (s a : Int) (cw : Cost) (lw : List Int) (k : Nat) (S O : Int → Option (Cost × List Int)) : Prop where
 disj : ∀ v, O v ≠ none → S v = none
 sFirst : ∀ v r, S v = some r → First t dk p s v (some r)
 oWalk : ∀ v c l, O v = some (c, l) → Walk t dk p s v c l
 cross : ∀ u c l, S u = some (c, l) → u ≠ a → ∀ x ∈ t.links, ∀ n d, leads dk p x u = some (n, d) → S n ≠ none ∨ ∃ c' l', O n = some (c', l') ∧ cmpL (key c' l') (key (addC c d) (l ++ [x.id])) ≤ 0
 now : ∀ x ∈ t.links.take k, ∀ n d, leads dk p x a = some (n, d) → S n ≠ none ∨ ∃ c' l', O n = some (c', l') ∧ cmpL (key c' l') (key (addC cw d) (lw ++ [x.id])) ≤ 0
 start : S s ≠ none
 here : S a = some (cw, lw)
def setF {β : Type} (f : Int → Option β) (v : Int) (r : Option β) : Int → Option β := fun u => if u = v then r else f u
theorem setF_same {β : Type} (f : Int → Option β) (v : Int) (r : Option β) : setF f v r v = r := by simp [setF]
theorem setF_other {β : Type} (f : Int → Option β) {v u : Int} (r : Option β) (h : u ≠ v) : setF f v r u = f u := by simp [setF, h]
theorem DInv.enter {s a : Int} {S O : Int → Option (Cost × List Int)} (h : DInv t dk p s S O) (ht : Fine t) (hp : Fair p) {c : Cost} {l : List Int} (ho : O a = some (c, l))
  (hmin : ∀ v' c' l', O v' = some (c', l') → cmpL (key c l) (key c' l') ≤ 0) : DMid t dk p s a c l 0 (setF S a (some (c, l))) (setF O a none) := by
 have hf := h.least ht hp ho hmin
 refine ⟨?_, ?_, ?_, ?_, ?_, ?_, setF_same _ _ _⟩
 ·intro v hv
  by_cases e : v = a
  ·subst e; rw [setF_same] at hv; exact absurd rfl hv
  ·rw [setF_other _ _ e] at hv ⊢; exact h.disj v hv
 ·intro v r hr
  by_cases e : v = a
  ·subst e; rw [setF_same] at hr; cases hr; exact hf
  ·rw [setF_other _ _ e] at hr; exact h.sFirst v r hr
 ·intro v c' l' hr
  by_cases e : v = a
  ·subst e; rw [setF_same] at hr; cases hr
  ·rw [setF_other _ _ e] at hr; exact h.oWalk v _ _ hr
 ·intro u c' l' hu hne x hx n d hl
  rw [setF_other _ _ hne] at hu
  by_cases e : n = a
  ·subst e; left; rw [setF_same]; simp
  ·rw [setF_other _ _ e, setF_other _ _ e]
   exact h.cross u c' l' hu x hx n d hl
 ·intro x hx; simp at hx
 ·by_cases e : s = a
  ·subst e; rw [setF_same]; simp
  ·rw [setF_other _ _ e]
   rcases h.start with hs | hs
   ·exact hs
   ·exfalso
    have h1 := hmin s _ _ hs
    have h2 := (h.oWalk a _ _ ho).longer ht hp zeroC [] l
    rw [zero_addC] at h2
    rcases h2 with h2 | ⟨_, _, h2⟩
    ·have := cmpL_swap (key c l) (key zeroC [])
     omega
    ·exact e h2
theorem DMid.leave {s a : Int} {S O : Int → Option (Cost × List Int)} {cw : Cost} {lw : List Int} {k : Nat} (h : DMid t dk p s a cw lw k S O) (hk : t.links.length ≤ k) : DInv t dk p s S O := by
 refine ⟨h.disj, h.sFirst, h.oWalk, ?_, .inl h.start⟩
 intro u c l hu x hx n d hl
 by_cases e : u = a
 ·subst e
  rw [h.here] at hu
  cases hu
  exact h.now x (by rw [List.take_of_length_le hk]; exact hx) n d hl
 ·exact h.cross u c l hu e x hx n d hl
theorem DMid.skip {s a : Int} {S O : Int → Option (Cost × List Int)} {cw : Cost} {lw : List Int} {k : Nat} (h : DMid t dk p s a cw lw k S O) (hx : t.links[k]? = some x)
  (hno : ∀ n d, leads dk p x a = some (n, d) → S n ≠ none ∨ ∃ c' l', O n = some (c', l') ∧ cmpL (key c' l') (key (addC cw d) (lw ++ [x.id])) ≤ 0) : DMid t dk p s a cw lw (k + 1) S O := by
 refine ⟨h.disj, h.sFirst, h.oWalk, h.cross, ?_, h.start, h.here⟩
 intro y hy n d hl
 obtain ⟨hk, rfl⟩ := List.getElem?_eq_some_iff.1 hx
 rw [List.take_succ_eq_append_getElem hk, List.mem_append] at hy
 rcases hy with hy | hy
 ·exact h.now y hy n d hl
 ·simp at hy; subst hy; exact hno n d hl
theorem DMid.take {s a n : Int} {S O : Int → Option (Cost × List Int)} {cw dx : Cost} {lw : List Int} {k : Nat} (h : DMid t dk p s a cw lw k S O) (hx : t.links[k]? = some x) (hl : leads dk p x a = some (n, dx)) (hn : S n = none)
  (hbe : ∀ c' l', O n = some (c', l') → cmpL (key (addC cw dx) (lw ++ [x.id])) (key c' l') ≤ 0) : DMid t dk p s a cw lw (k + 1) S (setF O n (some (addC cw dx, lw ++ [x.id]))) := by
 have hxm : x ∈ t.links := List.mem_of_getElem? hx
 have hw : Walk t dk p s n (addC cw dx) (lw ++ [x.id]) := (h.sFirst a _ h.here).1.snoc hxm hl
 have old : ∀ {m : Int} {K : List Int}, (S m ≠ none ∨ ∃ c' l', O m = some (c', l') ∧ cmpL (key c' l') K ≤ 0) → S m ≠ none ∨ ∃ c' l', setF O n (some (addC cw dx, lw ++ [x.id])) m = some (c', l') ∧ cmpL (key c' l') K ≤ 0 := by
  intro m K h1
  rcases h1 with h1 | ⟨c', l', h1, h2⟩
  ·exact .inl h1
  ·by_cases e : m = n
   ·subst e
    exact .inr ⟨_, _, setF_same _ _ _, cmpL_trans (hbe _ _ h1) h2⟩
   ·exact .inr ⟨c', l', by rw [setF_other _ _ e]; exact h1, h2⟩
 refine ⟨?_, h.sFirst, ?_, ?_, ?_, h.start, h.here⟩
 ·intro v hv
  by_cases e : v = n
  ·subst e; exact hn
  ·rw [setF_other _ _ e] at hv; exact h.disj v hv
 ·intro v c' l' hr
  by_cases e : v = n
  ·subst e; rw [setF_same] at hr; cases hr; exact hw
  ·rw [setF_other _ _ e] at hr; exact h.oWalk v _ _ hr
 ·intro u c' l' hu hne y hy m d hl'
  exact old (h.cross u c' l' hu hne y hy m d hl')
 ·intro y hy m d hl'
  obtain ⟨hk, rfl⟩ := List.getElem?_eq_some_iff.1 hx
  rw [List.take_succ_eq_append_getElem hk, List.mem_append] at hy
  rcases hy with hy | hy
  ·exact old (h.now y hy m d hl')
  ·simp at hy; subst hy
   rw [hl] at hl'
   cases hl'
   exact .inr ⟨_, _, setF_same _ _ _, by rw [cmpL_refl]; omega⟩
theorem DInv.init (s : Int) : DInv t dk p s (fun _ => none) (fun v => if v = s then some (zeroC, []) else none) := by
 refine ⟨fun _ _ => rfl, fun _ _ h => (by cases h), ?_, fun _ _ _ h => (by cases h), .inr (by simp)⟩
 intro v c l h
 split at h
 ·rename_i e; cases h; subst e; exact .nil _
 ·cases h
end
end
section
open Go.RowKit
def Link.vals (x : Link) : List Value := [.int .i64 x.id, .int .i64 x.fr, .int .i64 x.to, .int .i64 x.steps, .int .i64 x.paces]
def LinksAt (w : World) (B : Nat) (A : Option Addr) (n : Nat) (l : List Link) : Prop := Reads w B 5 A n (l.flatMap Link.vals)
theorem flat_len (l : List Link) : (l.flatMap Link.vals).length = l.length * 5 := by
 induction l with
 | nil => rfl
 | cons x l ih => rw [List.flatMap_cons, List.length_append, ih, List.length_cons]; simp [Link.vals]; omega
theorem flat_at {l : List Link} {k j : Nat} {x : Link} (h : l[k]? = some x) (hj : j < 5) : (l.flatMap Link.vals)[k * 5 + j]? = x.vals[j]? := by
 induction l generalizing k with
 | nil => simp at h
 | cons y l ih =>
  rw [List.flatMap_cons]
  cases k with
  | zero =>
   simp at h; subst h
   rw [List.getElem?_append_left (by simp [Link.vals]; omega)]; simp
  | succ k =>
   rw [List.getElem?_append_right (by simp [Link.vals]; omega)]
   have : (k + 1) * 5 + j - y.vals.length = k * 5 + j := by simp [Link.vals]; omega
   rw [this]
   exact ih (by simpa using h)
section
variable {w w' : World} {B B' n : Nat} {A : Option Addr} {l : List Link}
theorem LinksAt.len (h : LinksAt w B A n l) : l.length = n := by have := h.1; rw [flat_len] at this; omega
theorem LinksAt.below (h : LinksAt w B A n l) (hb : Below B w w') : LinksAt w' B A n l := Reads.below h hb
theorem LinksAt.more (h : LinksAt w B A n l) (hB : B ≤ B') : LinksAt w B' A n l := Reads.more h hB
theorem LinksAt.cell (h : LinksAt w B A n l) {k : Nat} (hk : k < n) : ∃ b off x, A = some ⟨b, off, none⟩ ∧ b < B ∧ l[k]? = some x ∧
  w.cell? ⟨b, off + k * 5, none⟩ = some (.int .i64 x.id) ∧ w.cell? ⟨b, off + k * 5 + 1, none⟩ = some (.int .i64 x.fr) ∧ w.cell? ⟨b, off + k * 5 + 2, none⟩ = some (.int .i64 x.to)
   ∧ w.cell? ⟨b, off + k * 5 + 3, none⟩ = some (.int .i64 x.steps) ∧ w.cell? ⟨b, off + k * 5 + 4, none⟩ = some (.int .i64 x.paces) := by
 have hl := h.len
 obtain ⟨b, off, e, hb, hc⟩ := Reads.plain h (by rw [flat_len]; omega)
 have hx : l[k]? = some l[k] := List.getElem?_eq_getElem (by omega)
 refine ⟨b, off, _, e, hb, hx, ?_, ?_, ?_, ?_, ?_⟩
 ·have := hc (k * 5) (.int .i64 l[k].id) (by have := flat_at (j := 0) hx (by omega); simpa [Link.vals] using this); exact this
 ·have := hc (k * 5 + 1) (.int .i64 l[k].fr) (by have := flat_at (j := 1) hx (by omega); simpa [Link.vals] using this); exact this
 ·have := hc (k * 5 + 2) (.int .i64 l[k].to) (by have := flat_at (j := 2) hx (by omega); simpa [Link.vals] using this); exact this
 ·have := hc (k * 5 + 3) (.int .i64 l[k].steps) (by have := flat_at (j := 3) hx (by omega); simpa [Link.vals] using this); exact this
 ·have := hc (k * 5 + 4) (.int .i64 l[k].paces) (by have := flat_at (j := 4) hx (by omega); simpa [Link.vals] using this); exact this
end
structure TownAt (w : World) (B : Nat) (A : Option Addr) (n : Nat) (A' : Option Addr) (m : Nat) (t : Town) : Prop where
 places : IntsAt w B A n t.places
 links : LinksAt w B A' m t.links
section
variable {w w' : World} {B B' n m : Nat} {A A' : Option Addr} {t : Town}
theorem TownAt.below (h : TownAt w B A n A' m t) (hb : Below B w w') : TownAt w' B A n A' m t := ⟨h.places.below hb, h.links.below hb⟩
theorem TownAt.more (h : TownAt w B A n A' m t) (hB : B ≤ B') : TownAt w B' A n A' m t := ⟨h.places.more hB, h.links.more hB⟩
end
theorem has1_any (A : Option Addr) (n c : Nat) (A' : Option Addr) (m d : Nat) (t : Town) (x : Int) (g : Nat) (w : World) (hn : n ≤ maxLen)
  (ht : TownAt w w.heap.size A n A' m t) (h0 : w.cell? ⟨g, 0, none⟩ = some (.slice A n c)) :
  Calls Tryz.prog 128 (#[.int .i64 x] ++ #[.pointer (some ⟨g, 0, none⟩)]) w fun e w' => e = .returned (.bool (!memI t.places x)) ∧ Below w.heap.size w w' := by
 have H := Lib.hid (contains_int A n c t.places x w ht.places hn)
 go_enter Tryz.func128, Tryz.ntmps128
 go_wp2_with fail
 refine H.out.mono ?_
 rintro e w' ⟨rfl, hb⟩
 go_wp2_with fail
 go_ret
 exact ⟨rfl, hb⟩
theorem enters_has1 (args : Array Value) (W : World) : (callFunc 128 args).run Tryz.prog W = .ok (.enter 128 args) W := by
 simp [go_sem]
def hasB (t : Town) (l : List Int) : Bool := !l.any fun x => !memI t.places x
theorem has_any (A : Option Addr) (n c : Nat) (A' : Option Addr) (m d : Nat) (t : Town) (A2 : Option Addr) (k e : Nat) (l : List Int) (w : World) (hn : n ≤ maxLen) (hk : k ≤ maxLen)
  (ht : TownAt w w.heap.size A n A' m t) (hr : IntsAt w w.heap.size A2 k l) :
  Calls Tryz.prog 101 #[.agg #[.slice A n c, .slice A' m d], .slice A2 k e] w fun e w' => e = .returned (.bool (hasB t l)) ∧ Below w.heap.size w w' := by
 have hmf : ∀ (fn : Fn) (first cap : Array Value) (w : World), (Instr.makeFunc fn first cap).run Tryz.prog w = .ok (.func fn first cap) w := fun _ _ _ _ => rfl
 go_enter Tryz.func101, Tryz.ntmps101
 go_wp2_with fail
 have hb : Below w.heap.size w (w.alloc (.cells #[.slice A n c, .slice A' m d] 25)) := (Below.refl _ _).alloc (Nat.le_refl _) _
 refine (containsFunc_int 128 _ (fun x => !memI t.places x) A2 k e l _ ((hr.below hb).more (by simp)) hk enters_has1 ?_).mono ?_
 ·intro x _ W hW
  have hW' : Below w.heap.size w W := hb.trans (hW.mono (by simp))
  exact has1_any A n c A' m d t x _ W hn ((ht.below hW').more hW'.size) ((hW.cell (p := ⟨w.heap.size, 0, none⟩) (by simp)).trans (by simp [go_sem]))
 ·rintro e w' ⟨rfl, hb'⟩
  go_wp2_with fail
  go_ret
  exact ⟨rfl, hb.trans (hb'.mono (by simp))⟩
end
section
open Go.RowKit
section
variable {F : Fence} {n : Nat} {P : Program} {ops : Array Oper} {Q : Exit → Act → World → Prop}
theorem openCount_set {listed : Array Bool} {i : Nat} (hi : listed.getD i true = false) : ((listed.setIfInBounds i true).toList.count false) + 1 ≤ listed.toList.count false := by
 have hlt : i < listed.size := by
  rcases Nat.lt_or_ge i listed.size with h | h
  ·exact h
  ·rw [Array.getD_eq_getD_getElem?, Array.getElem?_eq_none h] at hi; cases hi
 have hv : listed.toList[i]'(by simpa using hlt) = false := by
  rw [Array.getD_eq_getD_getElem?, Array.getElem?_eq_getElem hlt] at hi
  simpa using hi
 have h1 : 0 < listed.toList.count false := List.count_pos_iff.2 (by rw [← hv]; exact List.getElem_mem _)
 have h2 := List.count_set (a := true) (b := false) (l := listed.toList) (i := i) (by simpa using hlt)
 rw [hv] at h2
 rw [Array.toList_setIfInBounds, h2]
 simp only [BEq.rfl, if_true]
 have h3 : (true == false) = false := rfl
 simp only [h3, Bool.false_eq_true, if_false]
 omega
theorem wpAnyIn_inv (St : Array Bool → Act → World → Prop)
  (hsize : ∀ listed a w, St listed a w → listed.size = ops.size)
  (hstep : ∀ listed a w i o, ops[i]? = some o → listed.getD i true = false → (∀ e ∈ o.after, Region.binds .any e = true → listed.getD e.on false = true) → St listed a w → wpListIn F n P ops (Exit.then (St (listed.setIfInBounds i true)) Q) [o] a w)
  (hend : ∀ listed a w, Region.ready .any ops listed = [] → St listed a w → Q .normal a w) :
  ∀ fuel listed a w, listed.toList.count false ≤ fuel → St listed a w → wpAnyIn F n P .any ops Q fuel listed a w := by
 have hop : ∀ listed a w i, i ∈ Region.ready .any ops listed → St listed a w → wpOpIn F n P ops Q i (St (listed.setIfInBounds i true)) a w := by
  intro listed a w i hi hs
  obtain ⟨h1, o, ho, h2⟩ := mem_ready.1 hi
  have h3 := hstep listed a w i o ho h1 h2 hs
  unfold wpOpIn
  simp only [ho]
  simp only [wpListIn] at h3
  split
  ·rename_i hw
   rw [if_pos hw] at h3
   unfold Oper.wpIn at h3 ⊢
   refine ⟨h3.1, ?_⟩
   have h4 := h3.2
   generalize (o.semAt F.round a.eval).run P w = r at h4 ⊢
   cases r with
   | ok x w' =>
    cases x <;> simp only [Oper.uponIn, Exit.then] at h4 ⊢ <;>
     first
      | exact h4
      | exact ⟨h4.1, CallsIn.mono h4.2 (fun e w'' he => by cases e <;> exact he)⟩
      | exact ⟨h4.1, RoundIn.mono h4.2 (fun e w'' he => by cases e <;> exact he)⟩
   | halt x w' => cases x <;> simp only [Oper.uponIn, Exit.then] at h4 ⊢ <;> exact h4
  ·rename_i hw
   rw [if_neg hw] at h3
   exact h3
 intro fuel
 induction fuel with
 | zero =>
  intro listed a w hf hs
  have hnil : Region.ready .any ops listed = [] := by
   cases hr : Region.ready .any ops listed with
   | nil => rfl
   | cons i rs =>
    have hi : i ∈ Region.ready .any ops listed := by rw [hr]; simp
    have := openCount_set (mem_ready.1 hi).1
    omega
  exact ⟨hnil, hend listed a w hnil hs⟩
 | succ fuel ih =>
  intro listed a w hf hs
  refine ⟨fun h0 => hend listed a w h0 hs, fun i hi => ?_⟩
  have hc := openCount_set (mem_ready.1 hi).1
  exact wpOpIn_mono (fun a' w' h' => ih _ a' w' (by omega) h') (hop listed a w i hi hs)
theorem wpIn_region_inv {id : Nat} {a : Act} {w : World} (hm : P.follows .mixedOrders = true) (St : Array Bool → Act → World → Prop)
  (hsize : ∀ listed a w, St listed a w → listed.size = ops.size)
  (h0 : St (Array.replicate ops.size false) a w.drew)
  (hstep : ∀ listed a w i o, ops[i]? = some o → listed.getD i true = false → (∀ e ∈ o.after, Region.binds .any e = true → listed.getD e.on false = true) → St listed a w → wpListIn F n P ops (Exit.then (St (listed.setIfInBounds i true)) Q) [o] a w)
  (hend : ∀ listed a w, Region.ready .any ops listed = [] → St listed a w → Q .normal a w) : (Code.region id ops true).wpIn F n P Q a w :=
 wpIn_region_any hm (wpAnyIn_inv St hsize hstep hend _ _ _ _ (by rw [Array.toList_replicate, List.count_replicate]; simp) h0)
def done (L : Nat → Bool) (i : Nat) : Nat → Bool := fun k => if k = i then true else L k
theorem wpIn_region_L {σ : Type} {id : Nat} {a : Act} {w : World} (hm : P.follows .mixedOrders = true) (act : σ → Act) (inv : (Nat → Bool) → σ → World → Prop)
  (h0 : ∃ s, a = act s ∧ inv (fun _ => false) s w.drew)
  (hstep : ∀ L i o s W, ops[i]? = some o → L i = false → (∀ e ∈ o.after, Region.binds .any e = true → L e.on = true) → inv L s W → wpListIn F n P ops (Exit.then (fun a' W' => ∃ s', a' = act s' ∧ inv (done L i) s' W') Q) [o] (act s) W)
  (hend : ∀ L s W, (∀ k, k < ops.size → L k = true) → inv L s W → Q .normal (act s) W) (hdag : ∀ L : Nat → Bool, (∀ i o, ops[i]? = some o → L i = false → ∃ e ∈ o.after, Region.binds .any e = true ∧ L e.on = false) → ∀ k, k < ops.size → L k = true) : (Code.region id ops true).wpIn F n P Q a w := by
 refine wpIn_region_inv hm (fun listed a W => listed.size = ops.size ∧ ∃ s, a = act s ∧ inv (fun k => listed.getD k false) s W) (fun _ _ _ h => h.1) ?_ ?_ ?_
 ·obtain ⟨s, h1, h2⟩ := h0
  refine ⟨by simp, s, h1, ?_⟩
  have : (fun k => (Array.replicate ops.size false).getD k false) = fun _ => false := by
   funext k
   rw [Array.getD_eq_getD_getElem?, Array.getElem?_replicate]
   split <;> rfl
  rw [this]; exact h2
 ·rintro listed a W i o ho hu hd ⟨hsz, s, rfl, hi⟩
  have hlt : i < listed.size := by rw [hsz]; exact (Array.getElem?_eq_some_iff.1 ho).1
  have hu' : listed.getD i false = false := by
   rw [Array.getD_eq_getD_getElem?, Array.getElem?_eq_getElem hlt] at hu ⊢
   simpa using hu
  have h := hstep (fun k => listed.getD k false) i o s W ho hu' hd hi
  have e : (fun k => (listed.setIfInBounds i true).getD k false) = done (fun k => listed.getD k false) i := by
   funext k
   unfold done
   by_cases hk : k = i
   ·subst hk
    rw [if_pos rfl, Array.getD_eq_getD_getElem?, Array.getElem?_setIfInBounds]
    simp [hlt]
   ·rw [if_neg hk, Array.getD_eq_getD_getElem?, Array.getElem?_setIfInBounds_ne (Ne.symm hk), ← Array.getD_eq_getD_getElem?]
  have hsz' : (listed.setIfInBounds i true).size = ops.size := by simpa using hsz
  simp only [e, hsz', true_and]
  exact h
 ·rintro listed a W hr ⟨hsz, s, rfl, hi⟩
  refine hend _ s W (hdag _ ?_) hi
  intro i o ho hu
  have hlt : i < listed.size := by rw [hsz]; exact (Array.getElem?_eq_some_iff.1 ho).1
  have hu' : listed.getD i true = false := by
   rw [Array.getD_eq_getD_getElem?, Array.getElem?_eq_getElem hlt] at hu ⊢
   simpa using hu
  have hno : ¬ i ∈ Region.ready .any ops listed := by rw [hr]; simp
  rw [mem_ready] at hno
  have h2 : ¬ ∀ e ∈ o.after, Region.binds .any e = true → listed.getD e.on false = true := fun h => hno ⟨hu', o, ho, h⟩
  have h3 : ∃ e, ¬ (e ∈ o.after → Region.binds .any e = true → listed.getD e.on false = true) := by
   refine Classical.byContradiction fun hc => h2 fun e => ?_
   exact Classical.byContradiction fun hc' => hc ⟨e, hc'⟩
  obtain ⟨e, he⟩ := h3
  have he1 : e ∈ o.after := Classical.byContradiction fun h => he fun h' => absurd h' h
  have he2 : Region.binds .any e = true := Classical.byContradiction fun h => he fun _ h' => absurd h' h
  have he3 : listed.getD e.on false = false := by
   cases hc : listed.getD e.on false with
   | false => rfl
   | true => exact absurd (fun _ _ => hc) he
  exact ⟨e, he1, he2, he3⟩
def backB (ops : Array Oper) : Bool := (List.range ops.size).all fun i => ((ops[i]?).map fun o => o.after.all fun e => !Region.binds .any e || decide (e.on < i)).getD true
theorem dag_of_back (h : backB ops = true) (L : Nat → Bool) (hL : ∀ i o, ops[i]? = some o → L i = false → ∃ e ∈ o.after, Region.binds .any e = true ∧ L e.on = false) : ∀ k, k < ops.size → L k = true := by
 intro k
 induction k using Nat.strongRecOn with
 | _ k ih =>
  intro hk
  cases hc : L k with
  | true => rfl
  | false =>
   exfalso
   obtain ⟨e, he, hbnd, hf⟩ := hL k _ (Array.getElem?_eq_getElem hk) hc
   have hb := List.all_eq_true.1 h k (by simpa using hk)
   rw [Array.getElem?_eq_getElem hk] at hb
   simp only [Option.map_some, Option.getD_some] at hb
   rw [Array.all_eq_true_iff_forall_mem] at hb
   have hlt : e.on < k := by simpa [hbnd] using hb e he
   have := ih e.on hlt (by omega)
   rw [this] at hf
   cases hf
def upd (s : Nat → Value) (k : Nat) (v : Value) : Nat → Value := fun j => if j = k then v else s j
def Waited (L : Nat → Bool) : List Edge → Prop
 | [] => True
 | e :: es => (Region.binds .any e = true → L e.on = true) ∧ Waited L es
theorem Waited.of {L : Nat → Bool} : ∀ {l : List Edge}, (∀ e ∈ l, Region.binds .any e = true → L e.on = true) → Waited L l
 | [], _ => trivial
 | e :: es, h => ⟨h e (by simp), Waited.of fun e' he => h e' (by simp [he])⟩
theorem Waited.at_ {L : Nat → Bool} : ∀ {l : List Edge}, Waited L l → ∀ (j : Nat), (l.any fun e => e.on == j && Region.binds .any e) = true → L j = true
 | [], _, j, h => by simp at h
 | e :: es, hw, j, h => by
  rw [List.any_cons, Bool.or_eq_true] at h
  rcases h with h | h
  ·simp only [Bool.and_eq_true, beq_iff_eq] at h
   rw [← h.1]; exact hw.1 h.2
  ·exact Waited.at_ hw.2 j h
def Steps {σ : Type} (F : Fence) (n : Nat) (P : Program) (ops : Array Oper) (act : σ → Act) (inv : (Nat → Bool) → σ → World → Prop) : Nat → List Oper → Prop
 | _, [] => True
 | i, o :: rest => (∀ L s W, L i = false → Waited L o.after.toList → inv L s W → ∀ (K : Act → World → Prop) (Q : Exit → Act → World → Prop), (∀ s' W', inv (done L i) s' W' → K (act s') W') → wpListIn F n P ops (Exit.then K Q) [o] (act s) W) ∧ Steps F n P ops act inv (i + 1) rest
theorem Steps.at_ {σ : Type} {act : σ → Act} {inv : (Nat → Bool) → σ → World → Prop} : ∀ {l : List Oper} {k i : Nat} {o : Oper}, Steps F n P ops act inv k l → l[i]? = some o →
  ∀ L s W, L (k + i) = false → Waited L o.after.toList → inv L s W → ∀ (K : Act → World → Prop) (Q : Exit → Act → World → Prop), (∀ s' W', inv (done L (k + i)) s' W' → K (act s') W') → wpListIn F n P ops (Exit.then K Q) [o] (act s) W
 | [], _, _, _, _, h => by simp at h
 | o' :: l, k, 0, o, hs, h => by simp at h; subst h; exact hs.1
 | o' :: l, k, i + 1, o, hs, h => by
  have := Steps.at_ (i := i) hs.2 (by simpa using h)
  rwa [show k + 1 + i = k + (i + 1) by omega] at this
end
end
section
open Go.RowKit
section
variable {P : Program} {ops : Array Oper} {Q : Exit → Act → World → Prop}
theorem wpAny_inv (St : Array Bool → Act → World → Prop)
  (hstep : ∀ listed a w i o, ops[i]? = some o → listed.getD i true = false → (∀ e ∈ o.after, Region.binds .any e = true → listed.getD e.on false = true) → St listed a w → wpList P ops (Exit.then (St (listed.setIfInBounds i true)) Q) [o] a w)
  (hend : ∀ listed a w, Region.ready .any ops listed = [] → St listed a w → Q .normal a w) :
  ∀ fuel listed a w, listed.toList.count false ≤ fuel → St listed a w → wpAny P .any ops Q fuel listed a w := by
 have hop : ∀ listed a w i, i ∈ Region.ready .any ops listed → St listed a w → wpOp P ops Q i (St (listed.setIfInBounds i true)) a w := by
  intro listed a w i hi hs
  obtain ⟨h1, o, ho, h2⟩ := mem_ready.1 hi
  have h3 := hstep listed a w i o ho h1 h2 hs
  unfold wpOp
  simp only [ho]
  simp only [wpList] at h3
  split
  ·rename_i hw
   rw [if_pos hw] at h3
   rcases h3 with h3 | ⟨h3, h4⟩
   ·left
    unfold Oper.wp at h3 ⊢
    generalize (execOp a.eval o).run P w = r at h3 ⊢
    cases r with
    | ok x w' =>
     cases x <;> simp only [Oper.upon, Exit.then] at h3 ⊢ <;>
      first
       | exact h3
       | exact Calls.mono h3 (fun e w'' he => by cases e <;> exact he)
    | halt x w' => cases x <;> simp only [Oper.upon, Exit.then] at h3 ⊢ <;> exact h3
   ·right
    exact ⟨h3, h4⟩
  ·rename_i hw
   rw [if_neg hw] at h3
   exact h3
 intro fuel
 induction fuel with
 | zero =>
  intro listed a w hf hs
  have hnil : Region.ready .any ops listed = [] := by
   cases hr : Region.ready .any ops listed with
   | nil => rfl
   | cons i rs =>
    have hi : i ∈ Region.ready .any ops listed := by rw [hr]; simp
    have := openCount_set (mem_ready.1 hi).1
    omega
  exact ⟨hnil, hend listed a w hnil hs⟩
 | succ fuel ih =>
  intro listed a w hf hs
  refine ⟨fun h0 => hend listed a w h0 hs, fun i hi => ?_⟩
  have hc := openCount_set (mem_ready.1 hi).1
  exact wpOp_mono (fun a' w' h' => ih _ a' w' (by omega) h') (hop listed a w i hi hs)
def Down (l : List Oper) (L : Nat → Bool) : Prop := ∀ (j : Nat) o, l[j]? = some o → L j = true → Waited L o.after.toList
def afterB (l : List Oper) (j k : Nat) : Bool := match l[j]? with
 | some o => o.after.toList.any fun e => e.on == k && Region.binds .any e
 | none => false
theorem Down.at_ {l : List Oper} {L : Nat → Bool} (h : Down l L) (j k : Nat) (hj : L j = true) (hk : afterB l j k = true) : L k = true := by
 unfold afterB at hk
 split at hk
 ·rename_i o ho; exact (h j o ho hj).at_ k hk
 ·cases hk
theorem Down.no {l : List Oper} {L : Nat → Bool} (h : Down l L) (j k : Nat) (hj : L j = true) (hk : afterB l j k = true) (hf : L k = false) {p : Prop} : p := absurd ((h.at_ j k hj hk).symm.trans hf) (by decide)
theorem Waited.mono {L L' : Nat → Bool} (hL : ∀ k, L k = true → L' k = true) : ∀ {l : List Edge}, Waited L l → Waited L' l
 | [], _ => trivial
 | e :: es, h => ⟨fun hb => hL _ (h.1 hb), Waited.mono hL h.2⟩
theorem done_mono (L : Nat → Bool) (i k : Nat) (h : L k = true) : done L i k = true := by unfold done; split <;> simp_all
theorem Down.step {l : List Oper} {L : Nat → Bool} (h : Down l L) {i : Nat} {o : Oper} (ho : l[i]? = some o) (hw : Waited L o.after.toList) : Down l (done L i) := by
 intro j o' hj ht
 by_cases e : j = i
 ·subst e
  rw [ho] at hj
  cases hj
  exact hw.mono (done_mono L j)
 ·unfold done at ht
  rw [if_neg e] at ht
  exact (h j o' hj ht).mono (done_mono L i)
def StepsW {σ : Type} (P : Program) (ops : Array Oper) (D : (Nat → Bool) → Prop) (act : σ → Act) (inv : (Nat → Bool) → σ → World → Prop) : Nat → List Oper → Prop
 | _, [] => True
 | i, o :: rest => (∀ L s W, L i = false → Waited L o.after.toList → D L → inv L s W → ∀ (K : Act → World → Prop) (Q : Exit → Act → World → Prop), (∀ s' W', inv (done L i) s' W' → K (act s') W') → wpList P ops (Exit.then K Q) [o] (act s) W) ∧ StepsW P ops D act inv (i + 1) rest
theorem StepsW.at_ {σ : Type} {D : (Nat → Bool) → Prop} {act : σ → Act} {inv : (Nat → Bool) → σ → World → Prop} : ∀ {l : List Oper} {k i : Nat} {o : Oper}, StepsW P ops D act inv k l → l[i]? = some o →
  ∀ L s W, L (k + i) = false → Waited L o.after.toList → D L → inv L s W → ∀ (K : Act → World → Prop) (Q : Exit → Act → World → Prop), (∀ s' W', inv (done L (k + i)) s' W' → K (act s') W') → wpList P ops (Exit.then K Q) [o] (act s) W
 | [], _, _, _, _, h => by simp at h
 | o' :: l, k, 0, o, hs, h => by simp at h; subst h; exact hs.1
 | o' :: l, k, i + 1, o, hs, h => by
  have := StepsW.at_ (i := i) hs.2 (by simpa using h)
  rwa [show k + 1 + i = k + (i + 1) by omega] at this
theorem wp_region_steps {σ : Type} {id : Nat} {a : Act} {w : World} {l : List Oper} (hm : P.follows .mixedOrders = true) (hb : backB l.toArray = true) (act : σ → Act) (inv : (Nat → Bool) → σ → World → Prop) (s0 : σ)
  (ha : a = act s0) (h0 : inv (fun _ => false) s0 w.drew)
  (hstep : StepsW P l.toArray (Down l) act inv 0 l)
  (hend : ∀ L s W, (∀ k, k < l.length → L k = true) → inv L s W → Q .normal (act s) W) : (Code.region id l.toArray true).wp P Q a w := by
 refine wp_region_any hm (wpAny_inv (fun listed a W => listed.size = l.length ∧ Down l (fun k => listed.getD k false) ∧ ∃ s, a = act s ∧ inv (fun k => listed.getD k false) s W) ?_ ?_ _ _ _ _ (by rw [Array.toList_replicate, List.count_replicate]; simp) ?_)
 ·rintro listed a W i o ho hu hd ⟨hsz, hdn, s, rfl, hi⟩
  have hlt : i < listed.size := by rw [hsz]; simpa using (Array.getElem?_eq_some_iff.1 ho).1
  have hu' : listed.getD i false = false := by
   rw [Array.getD_eq_getD_getElem?, Array.getElem?_eq_getElem hlt] at hu ⊢
   simpa using hu
  have h := hstep.at_ (i := i) (o := o) (by simpa using ho) (fun k => listed.getD k false) s W (by simpa using hu') (Waited.of fun e he => hd e (by simpa using he)) hdn hi
  simp only [Nat.zero_add] at h
  refine h _ Q ?_
  intro s' W' h'
  have e : (fun k => (listed.setIfInBounds i true).getD k false) = done (fun k => listed.getD k false) i := by
   funext k
   unfold done
   by_cases hk : k = i
   ·subst hk
    rw [if_pos rfl, Array.getD_eq_getD_getElem?, Array.getElem?_setIfInBounds]
    simp [hlt]
   ·rw [if_neg hk, Array.getD_eq_getD_getElem?, Array.getElem?_setIfInBounds_ne (Ne.symm hk), ← Array.getD_eq_getD_getElem?]
  refine ⟨by simpa using hsz, ?_, s', rfl, ?_⟩
  ·rw [e]; exact hdn.step (by simpa using ho) (Waited.of fun e he => hd e (by simpa using he))
  ·rw [e]; exact h'
 ·rintro listed a W hr ⟨hsz, _, s, rfl, hi⟩
  refine hend _ s W ?_ hi
  have := dag_of_back hb (fun k => listed.getD k false) ?_
  ·intro k hk; exact this k (by simpa using hk)
  ·intro i o ho hu
   have hlt : i < listed.size := by rw [hsz]; simpa using (Array.getElem?_eq_some_iff.1 ho).1
   have hu' : listed.getD i true = false := by
    rw [Array.getD_eq_getD_getElem?, Array.getElem?_eq_getElem hlt] at hu ⊢
    simpa using hu
   have hno : ¬ i ∈ Region.ready .any l.toArray listed := by rw [hr]; simp
   rw [mem_ready] at hno
   have h2 : ¬ ∀ e ∈ o.after, Region.binds .any e = true → listed.getD e.on false = true := fun h => hno ⟨hu', o, ho, h⟩
   refine Classical.byContradiction fun hc => h2 fun e he hbnd => ?_
   cases hc' : listed.getD e.on false with
   | true => rfl
   | false => exact absurd ⟨e, he, hbnd, hc'⟩ hc
 ·have : (fun k => (Array.replicate l.toArray.size false).getD k false) = fun _ => false := by
   funext k
   rw [Array.getD_eq_getD_getElem?, Array.getElem?_replicate]
   split <;> rfl
  refine ⟨by simp, ?_, s0, ha, ?_⟩
  ·rw [this]; intro j o _ h; cases h
  ·rw [this]; exact h0
end
end
section
open Go.RowKit
section
variable {F : Fence} {n : Nat} {P : Program} {Q : Exit → Act → World → Prop}
def StepsD {σ : Type} (F : Fence) (n : Nat) (P : Program) (ops : Array Oper) (D : (Nat → Bool) → Prop) (act : σ → Act) (inv : (Nat → Bool) → σ → World → Prop) : Nat → List Oper → Prop
 | _, [] => True
 | i, o :: rest => (∀ L s W, L i = false → Waited L o.after.toList → D L → inv L s W → ∀ (K : Act → World → Prop) (Q : Exit → Act → World → Prop), (∀ s' W', inv (done L i) s' W' → K (act s') W') → wpListIn F n P ops (Exit.then K Q) [o] (act s) W) ∧ StepsD F n P ops D act inv (i + 1) rest
theorem StepsD.at_ {σ : Type} {ops : Array Oper} {D : (Nat → Bool) → Prop} {act : σ → Act} {inv : (Nat → Bool) → σ → World → Prop} : ∀ {l : List Oper} {k i : Nat} {o : Oper}, StepsD F n P ops D act inv k l → l[i]? = some o →
  ∀ L s W, L (k + i) = false → Waited L o.after.toList → D L → inv L s W → ∀ (K : Act → World → Prop) (Q : Exit → Act → World → Prop), (∀ s' W', inv (done L (k + i)) s' W' → K (act s') W') → wpListIn F n P ops (Exit.then K Q) [o] (act s) W
 | [], _, _, _, _, h => by simp at h
 | o' :: l, k, 0, o, hs, h => by simp at h; subst h; exact hs.1
 | o' :: l, k, i + 1, o, hs, h => by
  have := StepsD.at_ (i := i) hs.2 (by simpa using h)
  rwa [show k + 1 + i = k + (i + 1) by omega] at this
theorem wpIn_region_stepsD {σ : Type} {id : Nat} {a : Act} {w : World} {l : List Oper} (hm : P.follows .mixedOrders = true) (hb : backB l.toArray = true) (act : σ → Act) (inv : (Nat → Bool) → σ → World → Prop) (s0 : σ)
  (ha : a = act s0) (h0 : inv (fun _ => false) s0 w.drew)
  (hstep : StepsD F n P l.toArray (Down l) act inv 0 l)
  (hend : ∀ L s W, (∀ k, k < l.length → L k = true) → inv L s W → Q .normal (act s) W) : (Code.region id l.toArray true).wpIn F n P Q a w := by
 refine wpIn_region_L hm act (fun L s W => Down l L ∧ inv L s W) ⟨s0, ha, (fun j o _ h => by cases h), h0⟩ ?_ ?_ (dag_of_back hb)
 ·rintro L i o s W ho hu hd ⟨hdn, hi⟩
  have hw : Waited L o.after.toList := Waited.of fun e he => hd e (by simpa using he)
  have := hstep.at_ (i := i) (o := o) (by simpa using ho) L s W (by simpa using hu) hw hdn hi
  simp only [Nat.zero_add] at this
  exact this _ Q fun s' W' h => ⟨s', rfl, hdn.step (by simpa using ho) hw, h⟩
 ·rintro L s W hall ⟨_, hi⟩
  exact hend L s W (fun k hk => hall k (by simpa using hk)) hi
end
end
section
open Go.RowKit
section
variable {F : Fence} {n : Nat} {P : Program} {ops : Array Oper} {md : Region.Mode} {C : World → Prop}
def noDefer (ops : Array Oper) : Prop := ∀ (i : Nat) o, ops[i]? = some o → ∀ c, o.op ≠ .defer c
def noDeferB (l : List Oper) : Bool := l.all fun o => match o.op with
 | .defer _ => false
 | _ => true
theorem noDefer_of {l : List Oper} (h : noDeferB l = true) : noDefer l.toArray := by
 intro i o ho c hc
 have := List.all_eq_true.1 h o (by simpa using List.mem_of_getElem? (by simpa using ho))
 rw [hc] at this
 cases this
theorem wpIn_of_quiet' {o : Oper} {a : Act} {K : Act → Prop} {K' : Act → World → Prop} {Q' : Exit → Act → World → Prop} {w : World} (hnd : ∀ c, o.op ≠ .defer c) (hw : C w) (h : ∀ a w', C w' → K a → K' a w')
  (ha : o.askedIn F P a C) (hh : o.quietIn F n P a C K) : o.wpIn F n P a w K' Q' := by
 obtain ⟨v, h1, h2⟩ := hh
 have h3 := h1 w hw
 unfold Oper.quietAtIn at h3
 unfold Oper.wpIn
 refine ⟨ha w hw, ?_⟩
 rw [Oper.semAt_eq _ _ _ hnd]
 generalize (execOp a.eval o).run P w = r at *
 cases r with
 | ok x w' =>
  cases x <;> simp only [Oper.quietUponIn] at h3 <;> simp only [Oper.uponIn]
  case value u =>
   obtain ⟨e1, e2⟩ := h3
   rw [e1, e2]
   exact h _ _ hw h2
  case skip =>
   obtain ⟨e1, e2⟩ := h3
   rw [e1, ← e2]
   exact h _ _ hw h2
  case enter f args =>
   obtain ⟨e1, hd, hc⟩ := h3
   rw [e1]
   exact ⟨hd, hc.mono fun e w'' ⟨he, hw''⟩ => by subst he; exact h _ _ hw'' h2⟩
 | halt x w' => simp only [Oper.quietUponIn] at h3
theorem wpOpIn_of_qOpIn' {i : Nat} {a : Act} {K : Act → Prop} {K' : Act → World → Prop} {Q' : Exit → Act → World → Prop} {w : World} (hnd : noDefer ops) (hC : C w) (h : ∀ a w', C w' → K a → K' a w')
  (hh : qOpIn F n P ops C i K a) : wpOpIn F n P ops Q' i K' a w := by
 unfold qOpIn at hh
 unfold wpOpIn
 split
 ·rename_i ho; simp only [ho] at hh; exact h _ _ hC hh
 ·rename_i o ho
  simp only [ho] at hh
  obtain ⟨ha, hh⟩ := hh
  split
  ·rename_i hw; simp only [hw, if_true] at hh; exact wpIn_of_quiet' (hnd i o ho) hC h ha hh
  ·rename_i hw; simp only [hw] at hh; exact ⟨ha w hC, h _ _ hC hh⟩
def wpHeadIn (F : Fence) (n : Nat) (P : Program) (md : Region.Mode) (ops : Array Oper) (C : World → Prop) (k : Nat) (L : Array Bool → Act → Prop) : Nat → Array Bool → Act → Prop
 | 0, listed, a => L listed a
 | f + 1, listed, a =>
  Region.ready md ops listed ≠ [] ∧ ∀ i ∈ Region.ready md ops listed, i < k ∧ qOpIn F n P ops C i (wpHeadIn F n P md ops C k L f (listed.setIfInBounds i true)) a
theorem wpAnyIn_of_head {k g : Nat} {L : Array Bool → Act → Prop} {Q' : Exit → Act → World → Prop} (hnd : noDefer ops) (hL : ∀ listed a w, C w → L listed a → wpAnyIn F n P md ops Q' g listed a w) :
  ∀ (f : Nat) (listed : Array Bool) (a : Act) (w : World), C w → wpHeadIn F n P md ops C k L f listed a → wpAnyIn F n P md ops Q' (f + g) listed a w
 | 0, listed, a, w, hw, h => by rw [Nat.zero_add]; exact hL _ _ _ hw h
 | f + 1, listed, a, w, hw, h => by
  rw [show f + 1 + g = (f + g) + 1 by omega]
  exact ⟨fun h0 => absurd h0 h.1, fun i hi => wpOpIn_of_qOpIn' hnd hw (fun a' w' hw' h' => wpAnyIn_of_head hnd hL f _ a' w' hw' h') (h.2 i hi).2⟩
theorem wpHeadIn_first {k i : Nat} {oi : Oper} {v : Value} {L : Array Bool → Act → Prop} (hi : ops[i]? = some oi) (hsel : ∀ (j : Nat) (o : Oper) cs b, ops[j]? = some o → o.op ≠ .select cs b)
  (hs : Region.sinkB md ops k = true) (hc : Region.chainB md ops k = true) (hn : k < ops.size) (hin : i < k)
  (hdone : ∀ listed a, L listed a → ∀ j ∈ Region.ready md ops listed, k ≤ j) :
  ∀ (f : Nat) (listed : Array Bool) (a : Act), HeadInv md ops k listed →
   (∀ j oj, ops[j]? = some oj → j ≠ i → listed.getD j true = false → (∀ e ∈ oj.after, Region.binds md e = true → e.on ≠ i) → oi.apart ops oj = true) →
   i ∈ Region.ready md ops listed → YieldsQuiet F n P ops C oi v a →
   wpHeadIn F n P md ops C k L f (listed.setIfInBounds i true) (a.put oi.dst v) → wpHeadIn F n P md ops C k L (f + 1) listed a := by
 intro f
 induction f with
 | zero =>
  intro listed a inv _ hr hy H
  have hun := (mem_ready.1 hr).1
  refine ⟨fun h => (by rw [h] at hr; cases hr), fun j hj => ?_⟩
  have hjn : j < k := by
   rcases Nat.lt_or_ge j k with h | h
   ·exact h
   ·exact absurd hj (tail_waits hs hc hn inv _ i rfl hin hun j h)
  refine ⟨hjn, ?_⟩
  by_cases hji : j = i
  ·subst hji; exact hy.qOpIn hi H
  ·have := hdone _ _ H j (ready_mono hj hji)
   omega
 | succ f ih =>
  intro listed a inv hfree hr hy H
  have hun := (mem_ready.1 hr).1
  refine ⟨fun h => (by rw [h] at hr; cases hr), fun j hj => ?_⟩
  have hjn : j < k := by
   rcases Nat.lt_or_ge j k with h | h
   ·exact h
   ·exact absurd hj (tail_waits hs hc hn inv _ i rfl hin hun j h)
  refine ⟨hjn, ?_⟩
  by_cases hji : j = i
  ·subst hji; exact hy.qOpIn hi H
  ·have h1 := (H.2 j (ready_mono hj hji)).2
   obtain ⟨hjun, oj, hoj, hall⟩ := mem_ready.1 hj
   have hnot : ∀ e ∈ oj.after, Region.binds md e = true → e.on ≠ i := fun e he hb heq => by
    have h1 := hall e he hb
    rw [heq, getD_both hun] at h1
    cases h1
   have h2 := qOpIn_put hoj (hfree j oj hoj hji hjun hnot) (fun cs b => hsel i oi cs b hi) (fun cs b => hsel j oj cs b hoj) hy h1
   have hfree' : ∀ k ok, ops[k]? = some ok → k ≠ i → (listed.setIfInBounds j true).getD k true = false →
     (∀ e ∈ ok.after, Region.binds md e = true → e.on ≠ i) → oi.apart ops ok = true := fun k ok hk hki hun hno => by
    refine hfree k ok hk hki ?_ hno
    by_cases hjk : j = k
    ·subst hjk; exact hjun
    ·rw [getD_set_ne true hjk] at hun; exact hun
   refine qOpIn_mono (fun a' h3 => ih (listed.setIfInBounds j true) a' (inv.set hj hjn) hfree' (ready_mono hr (Ne.symm hji)) h3.1 ?_) h2
   rw [Array.setIfInBounds_comm _ _ hji]
   exact h3.2
theorem wpAnyIn_of_seq {Q' : Exit → Act → World → Prop} : ∀ (l : List Oper) (k : Nat) (listed : Array Bool) (a : Act) (w : World), (∀ j, l[j]? = ops[k + j]?) →
  Region.seqB md ops l.length k listed = true → wpListIn F n P ops Q' l a w → wpAnyIn F n P md ops Q' l.length listed a w
 | [], _, _, _, _, _, hB, h => ⟨by simpa [Region.seqB] using hB, h⟩
 | o :: l, k, listed, a, w, hl, hB, h => by
  have h0 : ops[k]? = some o := by simpa using (hl 0).symm
  simp only [List.length_cons, Region.seqB, Bool.and_eq_true, decide_eq_true_eq] at hB
  refine ⟨fun h1 => (by rw [hB.1] at h1; cases h1), fun i hi => ?_⟩
  rw [hB.1] at hi
  have hik : i = k := by simpa using hi
  subst hik
  have hw : wpOpIn F n P ops Q' i (wpListIn F n P ops Q' l) a w := by unfold wpOpIn; simp only [h0]; exact h
  exact wpOpIn_mono (fun a' w' h' => wpAnyIn_of_seq l (i + 1) _ a' w' (fun j => by have := hl (j + 1); simpa [Nat.add_assoc, Nat.add_comm 1 j] using this) hB.2 h') hw
theorem wpHeadIn_lex {k g : Nat} {Lq : Act → Prop} (hsel : Region.noSelect ops = true) (hs : Region.sinkB md ops k = true) (hc : Region.chainB md ops k = true) (hn : k < ops.size) :
  ∀ (l : List Oper) (i : Nat) (listed : Array Bool) (a : Act), (∀ j, j < l.length → l[j]? = ops[i + j]?) → i + l.length = k → HeadInv md ops k listed →
  Region.lexHead md ops g l.length i listed = true → wpQuietIn F n P ops C Lq l a →
  wpHeadIn F n P md ops C k (fun listed' a' => Region.seqB md ops g k listed' = true ∧ Lq a') l.length listed a
 | [], i, listed, a, _, hk, _, hB, h => by
  have : i = k := by simpa using hk
  subst this
  exact ⟨by simpa [Region.lexHead] using hB, h⟩
 | o :: l, i, listed, a, hl, hk, inv, hB, h => by
  have h0 : ops[i]? = some o := by simpa using (hl 0 (by simp)).symm
  simp only [List.length_cons, Region.lexHead, Bool.and_eq_true] at hB
  obtain ⟨⟨hr, hf⟩, hB'⟩ := hB
  have hkn : i < k := by simp only [List.length_cons] at hk; omega
  have hr' : i ∈ Region.ready md ops listed := by simpa using hr
  have hst : qOpIn F n P ops C i (wpQuietIn F n P ops C Lq l) a := by unfold qOpIn; simp only [h0]; exact h
  obtain ⟨v, hy, hK⟩ := yieldsQuiet_of_qOpIn h0 hst
  exact wpHeadIn_first h0 (Region.noSelect_spec hsel) hs hc hn hkn (fun listed' a' hL => seqB_ready hL.1) l.length listed a inv (Region.free_spec h0 hf) hr' hy
   (wpHeadIn_lex hsel hs hc hn l (i + 1) _ _ (fun j hj => by have := hl (j + 1) (by simp; omega); simpa [Nat.add_assoc, Nat.add_comm 1 j] using this) (by simp only [List.length_cons] at hk; omega) (inv.set hr' hkn) hB' hK)
theorem wpIn_region_tail {id : Nat} {Q : Exit → Act → World → Prop} {a : Act} {w : World} {l : List Oper} (C : World → Prop) (k : Nat) (hm : P.follows .mixedOrders = true) (hnd : noDeferB l = true) (hB : Region.lexTailB .any l.toArray k = true) (hC : C w.drew)
  (h : wpQuietIn F n P l.toArray C (fun a' => ∀ w', C w' → wpListIn F n P l.toArray Q (l.drop k) a' w') (l.take k) a) : (Code.region id l.toArray true).wpIn F n P Q a w := by
 simp only [Region.lexTailB, Bool.and_eq_true, decide_eq_true_eq] at hB
 obtain ⟨⟨⟨⟨hsel, hn⟩, hs⟩, hc⟩, hlex⟩ := hB
 have hn' : k < l.length := by simpa using hn
 have htl : (l.take k).length = k := by simp; omega
 have hdl : (l.drop k).length = l.toArray.size - k := by simp
 have inv0 : HeadInv .any l.toArray k (Array.replicate l.toArray.size false) :=
  ⟨by simp, fun j oj _ hl => (by rw [getD_replicate_false] at hl; cases hl), fun t _ ht => getD_in (by simpa using ht) (getD_replicate_false _ _)⟩
 have H := wpHeadIn_lex (F := F) (n := n) (P := P) (C := C) (md := .any) (g := l.toArray.size - k) hsel hs hc hn (l.take k) 0 _ a (fun j hj => by
  have hj' : j < k := by rw [htl] at hj; exact hj
  simp [hj']) (by simpa using htl) inv0 (by rw [htl]; exact hlex) h
 refine wpIn_region_any hm ?_
 have := wpAnyIn_of_head (Q' := Q) (g := l.toArray.size - k) (noDefer_of hnd) (fun listed a' w' hw' hL => by
  have := wpAnyIn_of_seq (md := .any) (Q' := Q) (l.drop k) k listed a' w' (fun j => by simp [List.getElem?_drop]) (by rw [hdl]; exact hL.1) (hL.2 w' hw')
  rwa [hdl] at this) _ _ _ w.drew hC H
 rw [htl, show k + (l.toArray.size - k) = l.toArray.size by omega] at this
 exact this
end
abbrev Cls {σ : Type} (of : σ → World) : World → Prop := fun W => ∃ z : σ, W = of z
theorem cls_open {C : World → Prop} {w : World} (h : C w) {goal : Prop} (k : ∀ (σ : Type) (_ : Nonempty σ) (of : σ → World), (∀ z, C (of z)) → (∀ W, C W → Cls of W) → goal) : goal :=
 k { W : World // C W } ⟨⟨w, h⟩⟩ (fun z => z.1) (fun z => z.2) (fun W hW => ⟨⟨W, hW⟩, rfl⟩)
end
section
open Go.RowKit
def dstAt (l : List Oper) (i : Nat) : Option Tmp := (l[i]?).bind (·.dst)
structure Desc (l : List Oper) (k : Nat) (val : Nat → Value) (a0 : Act) (S : Nat → Bool) (a : Act) : Prop where
 defers : a.defers = a0.defers
 size : a.tmps.size = a0.tmps.size
 set_ : ∀ i, i < k → S i = true → ∀ d, dstAt l i = some d → a.tmps.getD d undef = val i
 other : ∀ t, (∀ i, i < k → S i = true → dstAt l i ≠ some t) → a.tmps.getD t undef = a0.tmps.getD t undef
def Own1 (l : List Oper) (k : Nat) : Prop := ∀ i, i < k → ∃ d, dstAt l i = some d ∧ ∀ i', i' < k → dstAt l i' = some d → i' = i
section
variable {l : List Oper} {k : Nat} {val : Nat → Value} {a0 a a' : Act} {S S' : Nat → Bool}
theorem Desc.init (hS : ∀ i, i < k → S i = false) : Desc l k val a0 S a0 := ⟨rfl, rfl, (fun i hi h => by rw [hS i hi] at h; cases h), fun _ _ => rfl⟩
theorem getD_set_same (t : Array Value) (d : Nat) (v : Value) (h : d < t.size) : (t.setIfInBounds d v).getD d undef = v := by
 rw [Array.getD_eq_getD_getElem?, Array.getElem?_setIfInBounds_self_of_lt h]; rfl
theorem getD_set_other (t : Array Value) {d e : Nat} (v : Value) (h : d ≠ e) : (t.setIfInBounds d v).getD e undef = t.getD e undef := by
 rw [Array.getD_eq_getD_getElem?, Array.getElem?_setIfInBounds_ne h, ← Array.getD_eq_getD_getElem?]
theorem Desc.step (h : Desc l k val a0 S a) (ho : Own1 l k) {i : Nat} (hi : i < k) {d : Tmp} (hd : dstAt l i = some d) (hsz : d < a0.tmps.size) : Desc l k val a0 (done S i) (a.put (some d) (val i)) := by
 refine ⟨h.defers, by simp [Act.put, h.size], fun i' hi' hS d' hd' => ?_, fun t ht => ?_⟩
 ·by_cases e : i' = i
  ·subst e
   rw [hd] at hd'
   cases hd'
   exact getD_set_same _ _ _ (by rw [h.size]; exact hsz)
  ·have hne : d ≠ d' := by
    intro e'
    subst e'
    obtain ⟨d2, h1, h2⟩ := ho i hi
    rw [hd] at h1
    cases h1
    exact e (h2 i' hi' hd')
   rw [show (a.put (some d) (val i)).tmps = a.tmps.setIfInBounds d (val i) from rfl, getD_set_other _ _ hne]
   exact h.set_ i' hi' (by simpa [done, e] using hS) d' hd'
 ·have hne : d ≠ t := fun e => ht i hi (by simp [done]) (by rw [hd, e])
  rw [show (a.put (some d) (val i)).tmps = a.tmps.setIfInBounds d (val i) from rfl, getD_set_other _ _ hne]
  refine h.other t fun i' hi' hS => ht i' hi' ?_
  unfold done
  split
  ·rfl
  ·exact hS
theorem Desc.agree (h : Desc l k val a0 S a) (h' : Desc l k val a0 S' a') (ho : Own1 l k) (t : Tmp) (hS : ∀ i, i < k → dstAt l i = some t → S i = S' i) : a.tmps.getD t undef = a'.tmps.getD t undef := by
 by_cases hex : ∃ i, i < k ∧ dstAt l i = some t ∧ S i = true
 ·obtain ⟨i, hi, hd, hs⟩ := hex
  rw [h.set_ i hi hs t hd, h'.set_ i hi (by rw [← hS i hi hd]; exact hs) t hd]
 ·have hno : ∀ i, i < k → S i = true → dstAt l i ≠ some t := fun i hi hs hd => hex ⟨i, hi, hd, hs⟩
  rw [h.other t hno, h'.other t (fun i hi hs hd => hno i hi (by rw [hS i hi hd]; exact hs) hd)]
theorem Desc.vals {val' : Nat → Value} (h : Desc l k val a0 S a) (hv : ∀ i, i < k → S i = true → val i = val' i) : Desc l k val' a0 S a := ⟨h.defers, h.size, fun i hi hs d hd => (h.set_ i hi hs d hd).trans (hv i hi hs), h.other⟩
end
section
variable {F : Fence} {n : Nat} {P : Program} {ops : Array Oper} {o : Oper} {a a' : Act}
theorem eval_agree {x : Operand} (h : ∀ t, x = .tmp t → a.tmps.getD t undef = a'.tmps.getD t undef) : a.eval x = a'.eval x := by
 cases x with
 | tmp t => exact h t rfl
 | _ => rfl
theorem execOp_agree (hs : ∀ cs b, o.op ≠ .select cs b) (h : ∀ t ∈ o.looksAt ops, a.tmps.getD t undef = a'.tmps.getD t undef) : execOp a.eval o = execOp a'.eval o :=
 execOp_congr o hs fun x hx => eval_agree fun t e => h t (by
  subst e
  exact List.mem_append_left _ (List.mem_filterMap.2 ⟨.tmp t, by simpa using hx, rfl⟩))
theorem about_agree (w : World) (h : ∀ t ∈ o.looksAt ops, a.tmps.getD t undef = a'.tmps.getD t undef) : o.about P w a.eval = o.about P w a'.eval :=
 about_congr o w fun x hx => eval_agree fun t e => h t (by
  subst e
  exact List.mem_append_left _ (List.mem_filterMap.2 ⟨.tmp t, by simpa using hx, rfl⟩))
theorem wanted_agree (hz : a.tmps.size = a'.tmps.size) (h : ∀ t ∈ o.looksAt ops, a.tmps.getD t undef = a'.tmps.getD t undef) : Region.wanted o (yielded ops a.tmps) = Region.wanted o (yielded ops a'.tmps) := by
 unfold Region.wanted
 cases hg : o.guard with
 | none => rfl
 | some g =>
  obtain ⟨g, b⟩ := g
  have e : yielded ops a.tmps g = yielded ops a'.tmps g := by
   unfold yielded
   cases hd : (ops[g]?).bind (·.dst) with
   | none => rfl
   | some d =>
    have hm : d ∈ o.looksAt ops := by
     unfold Oper.looksAt
     rw [hg]
     exact List.mem_append_right _ (by simp [hd])
    have h1 := h d hm
    have h2 : a.tmps[d]? = a'.tmps[d]? := by
     rcases Nat.lt_or_ge d a.tmps.size with hlt | hge
     ·have hlt' : d < a'.tmps.size := by rw [← hz]; exact hlt
      simpa [hlt, hlt'] using h1
     ·have hge' : a'.tmps.size ≤ d := by rw [← hz]; exact hge
      rw [Array.getElem?_eq_none hge, Array.getElem?_eq_none hge']
    simp [h2]
  simp only [e]
theorem yields_agree {C : World → Prop} {v : Value} (hs : ∀ cs b, o.op ≠ .select cs b) (hz : a.tmps.size = a'.tmps.size) (h : ∀ t ∈ o.looksAt ops, a.tmps.getD t undef = a'.tmps.getD t undef) (hy : YieldsQuiet F n P ops C o v a) : YieldsQuiet F n P ops C o v a' := by
 refine hy.of_same (execOp_agree hs h).symm (wanted_agree hz h).symm (fun w => (about_agree w h).symm)
end
section
variable {F : Fence} {n : Nat} {P : Program} {Q : Exit → Act → World → Prop} {l : List Oper} {k j : Nat}
def valOf (l : List Oper) (AF : Act) (i : Nat) : Value := AF.tmps.getD ((dstAt l i).getD 0) undef
theorem ready_nil_all {ops : Array Oper} {listed : Array Bool} (hb : backB ops = true) (hsz : listed.size = ops.size) (hr : Region.ready .any ops listed = []) : ∀ i, i < ops.size → listed.getD i false = true := by
 refine dag_of_back hb (fun i => listed.getD i false) ?_
 intro i o ho hu
 have hlt : i < listed.size := by rw [hsz]; exact (Array.getElem?_eq_some_iff.1 ho).1
 have hu' : listed.getD i true = false := getD_in hlt hu
 have hno : ¬ i ∈ Region.ready .any ops listed := by rw [hr]; simp
 rw [mem_ready] at hno
 have h2 : ¬ ∀ e ∈ o.after, Region.binds .any e = true → listed.getD e.on false = true := fun h => hno ⟨hu', o, ho, h⟩
 refine Classical.byContradiction fun hc => h2 fun e he hbnd => ?_
 cases hc' : listed.getD e.on false with
 | true => rfl
 | false => exact absurd ⟨e, he, hbnd, hc'⟩ hc
def FCls (V : World) (ty : TypeId) (cs : Array Value) (ob : Option Nat) (W : World) : Prop := Below V.heap.size V W ∧ ∀ b, ob = some b → V.heap.size ≤ b ∧ Blk W b ty cs
theorem FCls.grow {V : World} {ty : TypeId} {cs : Array Value} {ob : Option Nat} {W W' : World} (h : FCls V ty cs ob W) (hb : Below W.heap.size W W') : FCls V ty cs ob W' :=
 ⟨h.1.trans (hb.mono h.1.size), fun b e => ⟨(h.2 b e).1, (h.2 b e).2.below hb (h.2 b e).2.lt⟩⟩
end
end
section
open Go.RowKit
def pick (l : List Oper) (qs : List Nat) : List Oper := qs.filterMap fun i => l[i]?
def upS (l : List Nat) : Bool := match l with
 | [] => true
 | x :: r => r.all (fun y => decide (x < y)) && upS r
theorem upS_pair : ∀ {l : List Nat}, upS l = true → l.Pairwise (· < ·)
 | [], _ => .nil
 | x :: r, h => by
  simp only [upS, Bool.and_eq_true] at h
  exact .cons (fun y hy => by simpa using List.all_eq_true.1 h.1 y hy) (upS_pair h.2)
def slotsM (l : List Oper) (sz : Nat) : Bool := (List.range l.length).all fun i => ((dstAt l i).map fun d => decide (d < sz)).getD true
section
variable {F : Fence} {n : Nat} {P : Program} {l : List Oper} {qs es : List Nat} {j : Nat}
structure DescM (l : List Oper) (qs : List Nat) (val : Nat → Value) (a0 : Act) (S : Nat → Bool) (a : Act) : Prop where
 defers : a.defers = a0.defers
 size : a.tmps.size = a0.tmps.size
 set_ : ∀ i ∈ qs, S i = true → ∀ d, dstAt l i = some d → a.tmps.getD d undef = val i
 other : ∀ t, (∀ i ∈ qs, S i = true → dstAt l i ≠ some t) → a.tmps.getD t undef = a0.tmps.getD t undef
def OwnQ (l : List Oper) (qs : List Nat) : Prop := ∀ i ∈ qs, ∃ d, dstAt l i = some d ∧ ∀ i' ∈ qs, dstAt l i' = some d → i' = i
section
variable {val : Nat → Value} {a0 a a' : Act} {S S' : Nat → Bool}
theorem DescM.init (hS : ∀ i ∈ qs, S i = false) : DescM l qs val a0 S a0 := ⟨rfl, rfl, (fun i hi h => by rw [hS i hi] at h; cases h), fun _ _ => rfl⟩
theorem DescM.step (h : DescM l qs val a0 S a) (ho : OwnQ l qs) {i : Nat} (hi : i ∈ qs) {d : Tmp} (hd : dstAt l i = some d) (hsz : d < a0.tmps.size) : DescM l qs val a0 (done S i) (a.put (some d) (val i)) := by
 refine ⟨h.defers, by simp [Act.put, h.size], fun i' hi' hS d' hd' => ?_, fun t ht => ?_⟩
 ·by_cases e : i' = i
  ·subst e
   rw [hd] at hd'
   cases hd'
   exact getD_set_same _ _ _ (by rw [h.size]; exact hsz)
  ·have hne : d ≠ d' := by
    intro e'
    subst e'
    obtain ⟨d2, h1, h2⟩ := ho i hi
    rw [hd] at h1
    cases h1
    exact e (h2 i' hi' hd')
   rw [show (a.put (some d) (val i)).tmps = a.tmps.setIfInBounds d (val i) from rfl, getD_set_other _ _ hne]
   exact h.set_ i' hi' (by simpa [done, e] using hS) d' hd'
 ·have hne : d ≠ t := fun e => ht i hi (by simp [done]) (by rw [hd, e])
  rw [show (a.put (some d) (val i)).tmps = a.tmps.setIfInBounds d (val i) from rfl, getD_set_other _ _ hne]
  refine h.other t fun i' hi' hS => ht i' hi' ?_
  unfold done
  split
  ·rfl
  ·exact hS
theorem DescM.vals {val' : Nat → Value} (h : DescM l qs val a0 S a) (hv : ∀ i ∈ qs, S i = true → val i = val' i) : DescM l qs val' a0 S a := ⟨h.defers, h.size, fun i hi hs d hd => (h.set_ i hi hs d hd).trans (hv i hi hs), h.other⟩
end
structure Rel (M : Tmp → Prop) (a A : Act) : Prop where
 defers : a.defers = A.defers
 size : a.tmps.size = A.tmps.size
 same : ∀ t, ¬ M t → a.tmps.getD t undef = A.tmps.getD t undef
theorem wpListIn_rel {ops : Array Oper} {o : Oper} {a A : Act} {W : World} {M : Tmp → Prop} {K K' : Act → World → Prop} {Q : Exit → Act → World → Prop} (hsel : ∀ cs b, o.op ≠ .select cs b) (hnd : ∀ c, o.op ≠ .defer c) (hdst : o.dst = none) (hR : Rel M a A) (hag : ∀ t ∈ o.looksAt ops, ¬ M t)
  (h : wpListIn F n P ops (Exit.then K (fun _ _ _ => False)) [o] A W) (hK : ∀ A' a' W', A'.tmps = A.tmps → a'.tmps = a.tmps → a'.defers = A'.defers → K A' W' → K' a' W') : wpListIn F n P ops (Exit.then K' Q) [o] a W := by
 have hag' : ∀ t ∈ o.looksAt ops, A.tmps.getD t undef = a.tmps.getD t undef := fun t ht => (hR.same t (hag t ht)).symm
 simp only [wpListIn] at h ⊢
 rw [wanted_agree hR.size.symm hag'] at h
 split
 ·rename_i hw
  rw [if_pos hw] at h
  unfold Oper.wpIn at h ⊢
  rw [Oper.semAt_eq _ _ _ hnd] at h ⊢
  rw [execOp_agree hsel hag'] at h
  refine ⟨fun f hf => h.1 f (by rw [about_agree W hag']; exact hf), ?_⟩
  have h4 := h.2
  generalize (execOp a.eval o).run P W = r at h4 ⊢
  cases r with
  | ok x w' =>
   cases x <;> simp only [Oper.uponIn, Exit.then, hdst, Act.put] at h4 ⊢ <;>
    first
     | exact hK _ _ _ rfl rfl hR.defers h4
     | (refine hK _ _ _ ?_ ?_ ?_ h4 <;> simp [hR.defers]; done)
     | exact ⟨h4.1, CallsIn.mono h4.2 (fun e w'' he => by cases e <;> first | exact hK _ _ _ rfl rfl hR.defers he | exact False.elim he | (obtain ⟨_, _, he⟩ := he; exact False.elim he))⟩
     | exact ⟨h4.1, RoundIn.mono h4.2 (fun e w'' he => by cases e <;> first | exact hK _ _ _ rfl rfl hR.defers he | exact False.elim he | (obtain ⟨_, _, he⟩ := he; exact False.elim he))⟩
     | exact ⟨h4.1, RowsIn.mono h4.2 (fun v w'' he => hK _ _ _ rfl rfl hR.defers he)⟩
     | exact h4
     | exact False.elim h4
  | halt x w' => cases x <;> simp only [Oper.uponIn, Exit.then] at h4 ⊢ <;> first | exact h4 | exact False.elim h4
 ·rename_i hw
  rw [if_neg hw] at h
  refine ⟨fun f hf => h.1 f (by rw [about_agree W hag']; exact hf), ?_⟩
  have h2 := h.2
  rw [hdst] at h2 ⊢
  exact hK _ _ _ rfl rfl hR.defers h2
theorem pick_cons {l : List Oper} {i : Nat} {o : Oper} {r : List Nat} (h : l[i]? = some o) : pick l (i :: r) = o :: pick l r := by
 unfold pick
 rw [List.filterMap_cons, h]
def pickB : List Oper → List Bool → List Oper
 | o :: l, true :: bs => o :: pickB l bs
 | _ :: l, false :: bs => pickB l bs
 | _, _ => []
end
end
section
open Go.RowKit
def idxs : Nat → List Bool → List Nat
 | _, [] => []
 | k, true :: m => k :: idxs (k + 1) m
 | k, false :: m => idxs (k + 1) m
theorem pickB_idxs : ∀ (l : List Oper) (m : List Bool) (pre : List Oper), m.length ≤ l.length → pickB l m = pick (pre ++ l) (idxs pre.length m)
 | [], [], pre, _ => by simp [pickB, idxs, pick]
 | o :: l, [], pre, _ => by simp [pickB, idxs, pick]
 | [], b :: m, pre, h => by simp at h
 | o :: l, true :: m, pre, h => by
  have ih := pickB_idxs l m (pre ++ [o]) (by simpa using h)
  have e : (pre ++ o :: l)[pre.length]? = some o := by simp
  rw [idxs, pick_cons e, pickB, ih]
  simp
 | o :: l, false :: m, pre, h => by
  have ih := pickB_idxs l m (pre ++ [o]) (by simpa using h)
  rw [idxs, pickB, ih]
  simp
theorem pickB_all (l : List Oper) (m : List Bool) (h : m.length ≤ l.length) : pickB l m = pick l (idxs 0 m) := by
 simpa using pickB_idxs l m [] h
def xsOf : List (List Bool × Nat) → List Bool → List Nat
 | [], fin => idxs 0 fin
 | (m, x) :: r, fin => idxs 0 m ++ x :: xsOf r fin
def lateB (o : Oper) : Bool := match o.op with
 | .move _ | .assign _ | .extract _ _ => true
 | _ => false
def readsB (l : List Oper) (i : Nat) (pre : List Nat) : Bool := ((l[i]?).map fun o => (o.looksAt l.toArray).all fun t => (List.range l.length).all fun i' => dstAt l i' != some t || (afterB l i i' && pre.contains i')).getD false
def depsB (l : List Oper) : List Nat → List Nat → Bool
 | _, [] => true
 | pre, i :: post => readsB l i pre && depsB l (pre ++ [i]) post
def ordB (l : List Oper) (ws : List Nat) : List Nat → Bool
 | [] => true
 | x :: post => (!ws.contains x || post.all fun i => (x :: post).any fun m => afterB l i m) && ordB l ws post
def flowB (l : List Oper) (xs ws es : List Nat) (j : Nat) : Bool :=
 upS es && backB l.toArray && Region.noSelect l.toArray && noDeferB l &&
 (xs.all fun i => decide (i < l.length) && i != j && !es.contains i) && (es.all fun i => decide (i < l.length) && i != j) &&
 ((List.range l.length).all fun i => xs.contains i || es.contains i || i == j) &&
 ((List.range l.length).all fun i => es.contains i || ((dstAt l i).isSome && ((List.range l.length).all fun i' => i == i' || dstAt l i != dstAt l i'))) &&
 depsB l [] xs && (es.all fun e => readsB l e (if j < l.length then j :: xs else xs)) &&
 (es.all fun e => es.all fun e' => decide (e ≤ e') || afterB l e e') && (es.all fun e => decide (l.length ≤ j) || afterB l e j) &&
 (xs.all fun i => (((l[i]?).map lateB).getD false && !ws.contains i) || es.all fun e => afterB l e i) && (es.all fun e => (dstAt l e).isNone) && ordB l ws xs && decide xs.Nodup
structure FlowOk (l : List Oper) (xs ws es : List Nat) (j : Nat) : Prop where
 upE : es.Pairwise (· < ·)
 back : backB l.toArray = true
 nosel : Region.noSelect l.toArray = true
 nodef : noDeferB l = true
 x : ∀ i ∈ xs, i < l.length ∧ i ≠ j ∧ i ∉ es
 e : ∀ i ∈ es, i < l.length ∧ i ≠ j
 part : ∀ i, i < l.length → i ∈ xs ∨ i ∈ es ∨ i = j
 own : ∀ i, i < l.length → i ∉ es → ∃ d, dstAt l i = some d ∧ ∀ i', i' < l.length → dstAt l i' = some d → i' = i
 deps : ∀ pre i post, xs = pre ++ i :: post → ∀ o, l[i]? = some o → ∀ t ∈ o.looksAt l.toArray, ∀ i', i' < l.length → dstAt l i' = some t → afterB l i i' = true ∧ i' ∈ pre
 depsE : ∀ i ∈ es, ∀ o, l[i]? = some o → ∀ t ∈ o.looksAt l.toArray, ∀ i', i' < l.length → dstAt l i' = some t → afterB l i i' = true
 chain : ∀ e ∈ es, ∀ e' ∈ es, e' < e → afterB l e e' = true
 fresh : ∀ e ∈ es, j < l.length → afterB l e j = true
 late : ∀ i ∈ xs, ∀ o, l[i]? = some o → (lateB o = true ∧ i ∉ ws) ∨ ∀ e ∈ es, afterB l e i = true
 edst : ∀ e ∈ es, dstAt l e = none
 ord : ∀ pre x post, xs = pre ++ x :: post → x ∈ ws → ∀ i ∈ post, ∃ m ∈ x :: post, afterB l i m = true
 nodup : xs.Nodup
theorem readsB_spec {l : List Oper} {i : Nat} {pre : List Nat} (h : readsB l i pre = true) : ∀ o, l[i]? = some o → ∀ t ∈ o.looksAt l.toArray, ∀ i', i' < l.length → dstAt l i' = some t → afterB l i i' = true ∧ i' ∈ pre := by
 intro o ho t ht i' hi' hd
 unfold readsB at h
 rw [ho] at h
 simp only [Option.map_some, Option.getD_some] at h
 have h' := List.all_eq_true.1 (List.all_eq_true.1 h t ht) i' (List.mem_range.2 hi')
 simp only [Bool.or_eq_true, bne_iff_ne, Bool.and_eq_true, List.contains_eq_mem, decide_eq_true_eq] at h'
 rcases h' with h' | h'
 ·exact absurd hd h'
 ·exact h'
theorem depsB_spec {l : List Oper} : ∀ (xs acc : List Nat), depsB l acc xs = true → ∀ pre i post, xs = pre ++ i :: post → readsB l i (acc ++ pre) = true
 | [], acc, _, pre, i, post, e => by simp at e
 | x :: xs, acc, h, pre, i, post, e => by
  simp only [depsB, Bool.and_eq_true] at h
  cases pre with
  | nil => simp at e; obtain ⟨rfl, rfl⟩ := e; simpa using h.1
  | cons p pre =>
   simp at e
   obtain ⟨rfl, rfl⟩ := e
   have := depsB_spec _ _ h.2 pre i post rfl
   simpa using this
theorem ordB_spec {l : List Oper} {ws : List Nat} : ∀ (xs : List Nat), ordB l ws xs = true → ∀ pre x post, xs = pre ++ x :: post → x ∈ ws → ∀ i ∈ post, ∃ m ∈ x :: post, afterB l i m = true
 | [], _, pre, x, post, e => by simp at e
 | y :: xs, h, pre, x, post, e => by
  simp only [ordB, Bool.and_eq_true] at h
  cases pre with
  | nil =>
   simp at e
   obtain ⟨rfl, rfl⟩ := e
   intro hx i hi
   have h1 := h.1
   simp only [Bool.or_eq_true, Bool.not_eq_true', List.contains_eq_mem, decide_eq_false_iff_not] at h1
   have h2 := h1.resolve_left (fun hn => hn hx)
   obtain ⟨m, hm, h3⟩ := List.any_eq_true.1 (List.all_eq_true.1 h2 i hi)
   exact ⟨m, hm, h3⟩
  | cons p pre =>
   simp at e
   obtain ⟨rfl, rfl⟩ := e
   exact ordB_spec _ h.2 pre x post rfl
theorem flowOk {l : List Oper} {xs ws es : List Nat} {j : Nat} (h : flowB l xs ws es j = true) : FlowOk l xs ws es j := by
 unfold flowB at h
 simp only [Bool.and_eq_true] at h
 obtain ⟨⟨⟨⟨⟨⟨⟨⟨⟨⟨⟨⟨⟨⟨⟨h1, h2⟩, h3⟩, h4⟩, h5⟩, h6⟩, h7⟩, h8⟩, h9⟩, h10⟩, h11⟩, h12⟩, h13⟩, h14⟩, h15⟩, h16⟩ := h
 refine ⟨upS_pair h1, h2, h3, h4, fun i hi => ?_, fun i hi => ?_, fun i hi => ?_, fun i hi hne => ?_, fun pre i post e o ho t ht i' hi' hd => ?_, fun i hi o ho t ht i' hi' hd => ?_, fun e he e' he' hlt => ?_, fun e he hj => ?_, fun i hi o ho => ?_, fun e he => ?_, ordB_spec _ h15, of_decide_eq_true h16⟩
 ·have := List.all_eq_true.1 h5 i hi
  simp only [Bool.and_eq_true, decide_eq_true_eq, bne_iff_ne, Bool.not_eq_true', List.contains_eq_mem, decide_eq_false_iff_not] at this
  exact ⟨this.1.1, this.1.2, this.2⟩
 ·have := List.all_eq_true.1 h6 i hi
  simp only [Bool.and_eq_true, decide_eq_true_eq, bne_iff_ne] at this
  exact this
 ·have := List.all_eq_true.1 h7 i (List.mem_range.2 hi)
  simp only [Bool.or_eq_true, List.contains_eq_mem, decide_eq_true_eq, beq_iff_eq] at this
  rcases this with (h | h) | h
  ·exact .inl h
  ·exact .inr (.inl h)
  ·exact .inr (.inr h)
 ·have h := List.all_eq_true.1 h8 i (List.mem_range.2 hi)
  simp only [Bool.or_eq_true, List.contains_eq_mem, decide_eq_true_eq] at h
  rcases h with h | h
  ·exact absurd h hne
  ·simp only [Bool.and_eq_true] at h
   obtain ⟨d, hd⟩ := Option.isSome_iff_exists.1 h.1
   refine ⟨d, hd, fun i' hi' hd' => ?_⟩
   have h' := List.all_eq_true.1 h.2 i' (List.mem_range.2 hi')
   simp only [Bool.or_eq_true, beq_iff_eq, bne_iff_ne] at h'
   rcases h' with h' | h'
   ·exact h'.symm
   ·exact absurd (hd.trans hd'.symm) h'
 ·exact readsB_spec (by simpa using depsB_spec _ _ h9 pre i post e) o ho t ht i' hi' hd
 ·exact (readsB_spec (List.all_eq_true.1 h10 i hi) o ho t ht i' hi' hd).1
 ·have := List.all_eq_true.1 (List.all_eq_true.1 h11 e he) e' he'
  simp only [Bool.or_eq_true, decide_eq_true_eq] at this
  exact this.resolve_left (by omega)
 ·have := List.all_eq_true.1 h12 e he
  simp only [Bool.or_eq_true, decide_eq_true_eq] at this
  exact this.resolve_left (by omega)
 ·have := List.all_eq_true.1 h13 i hi
  rw [ho] at this
  simp only [Option.map_some, Option.getD_some, Bool.or_eq_true, Bool.and_eq_true, Bool.not_eq_true', List.contains_eq_mem, decide_eq_false_iff_not] at this
  rcases this with h | h
  ·exact .inl h
  ·exact .inr fun e he => List.all_eq_true.1 h e he
 ·have := List.all_eq_true.1 h14 e he
  simpa using this
structure Mixed (l : List Oper) (S : Nat → Prop) (A base a : Act) : Prop where
 defers : a.defers = base.defers
 size : a.tmps.size = base.tmps.size
 in_ : ∀ i, S i → ∀ t, dstAt l i = some t → a.tmps.getD t undef = A.tmps.getD t undef
 out : ∀ t, (∀ i, S i → dstAt l i ≠ some t) → a.tmps.getD t undef = base.tmps.getD t undef
section
variable {F : Fence} {n : Nat} {P : Program} {l : List Oper}
section
variable {S S' : Nat → Prop} {A A' base a : Act}
theorem Mixed.nil (h : ∀ i, ¬ S i) : Mixed l S A base base := ⟨rfl, rfl, fun i hi => absurd hi (h i), fun _ _ => rfl⟩
theorem Mixed.congr (h : Mixed l S A base a) (hS : ∀ i, S i ↔ S' i) : Mixed l S' A base a := ⟨h.defers, h.size, fun i hi => h.in_ i ((hS i).2 hi), fun t ht => h.out t fun i hi => ht i ((hS i).1 hi)⟩
theorem Mixed.change (h : Mixed l S A base a) (hA : ∀ i, S i → ∀ t, dstAt l i = some t → A.tmps.getD t undef = A'.tmps.getD t undef) : Mixed l S A' base a := ⟨h.defers, h.size, fun i hi t ht => (h.in_ i hi t ht).trans (hA i hi t ht), h.out⟩
theorem Mixed.step (h : Mixed l S A base a) {i : Nat} {d : Tmp} (hd : dstAt l i = some d) (hu : ∀ i', S i' → dstAt l i' = some d → i' = i) (hsz : d < base.tmps.size) : Mixed l (fun k => S k ∨ k = i) A base (a.put (some d) (A.tmps.getD d undef)) := by
 have hp : (a.put (some d) (A.tmps.getD d undef)).tmps = a.tmps.setIfInBounds d (A.tmps.getD d undef) := rfl
 refine ⟨h.defers, by rw [hp]; simpa using h.size, fun k hk t ht => ?_, fun t ht => ?_⟩
 ·by_cases e : t = d
  ·subst e
   rw [hp, getD_set_same _ _ _ (by rw [h.size]; exact hsz)]
  ·rw [hp, getD_set_other _ _ (Ne.symm e)]
   rcases hk with hk | rfl
   ·exact h.in_ k hk t ht
   ·rw [hd] at ht; exact absurd (Option.some.inj ht).symm e
 ·have e : d ≠ t := fun e => ht i (.inr rfl) (by rw [hd, e])
  rw [hp, getD_set_other _ _ e]
  exact h.out t fun k hk => ht k (.inl hk)
theorem Mixed.trans (h : Mixed l S A' A a) (k : Mixed l S' A' base A) : Mixed l (fun i => S i ∨ S' i) A' base a := by
 refine ⟨h.defers.trans k.defers, h.size.trans k.size, fun i hi t ht => ?_, fun t ht => ?_⟩
 ·by_cases hex : ∃ i', S i' ∧ dstAt l i' = some t
  ·obtain ⟨i', h1, h2⟩ := hex
   exact h.in_ i' h1 t h2
  ·rw [h.out t (fun i' h1 h2 => hex ⟨i', h1, h2⟩)]
   rcases hi with hi | hi
   ·exact absurd ⟨i, hi, ht⟩ hex
   ·exact k.in_ i hi t ht
 ·rw [h.out t (fun i hi => ht i (.inl hi))]
  exact k.out t fun i hi => ht i (.inr hi)
end
theorem quiet_seq {C : World → Prop} {A : Act} : ∀ (qs : List Nat) (base : Act), (∀ i ∈ qs, i < l.length ∧ ∃ d, dstAt l i = some d ∧ d < base.tmps.size ∧ ∀ i' ∈ qs, dstAt l i' = some d → i' = i) → qs.Nodup →
  wpQuietIn F n P l.toArray C (fun a2 => a2 = A) (pick l qs) base →
  Mixed l (· ∈ qs) A base A ∧ ∀ pre i post, qs = pre ++ i :: post → ∀ o, l[i]? = some o → ∃ LF, Mixed l (· ∈ pre) A base LF ∧ YieldsQuiet F n P l.toArray C o (valOf l A i) LF
 | [], base, _, _, h => by
  have e : base = A := h
  subst e
  exact ⟨Mixed.nil (by simp), fun pre i post e => by simp at e⟩
 | i0 :: qs, base, hq, hnd, h => by
  obtain ⟨hlt, d, hd, hsz, hun⟩ := hq i0 (by simp)
  have ho : l[i0]? = some l[i0] := List.getElem?_eq_getElem hlt
  rw [pick_cons ho] at h
  have hdo : (l[i0]).dst = some d := by unfold dstAt at hd; rw [ho] at hd; exact hd
  have main : ∃ v, YieldsQuiet F n P l.toArray C l[i0] v base ∧ wpQuietIn F n P l.toArray C (fun a2 => a2 = A) (pick l qs) (base.put (some d) v) := by
   obtain ⟨ha, h2⟩ := h
   by_cases hw : Region.wanted l[i0] (yielded l.toArray base.tmps) = true
   ·rw [if_pos hw] at h2
    obtain ⟨v, h3, h4⟩ := h2
    exact ⟨v, ⟨ha, .inl ⟨hw, h3⟩⟩, by rw [← hdo]; exact h4⟩
   ·rw [if_neg hw] at h2
    exact ⟨undef, ⟨ha, .inr ⟨by simpa using hw, rfl⟩⟩, by rw [← hdo]; exact h2⟩
  obtain ⟨v, hy, hr⟩ := main
  rw [List.nodup_cons] at hnd
  have hbs : (base.put (some d) v).tmps.size = base.tmps.size := by simp [Act.put]
  have hpt : (base.put (some d) v).tmps = base.tmps.setIfInBounds d v := rfl
  obtain ⟨i1, i2⟩ := quiet_seq qs (base.put (some d) v) (fun i hi => by
   obtain ⟨g1, d', g2, g3, g4⟩ := hq i (by simp [hi])
   exact ⟨g1, d', g2, by rw [hbs]; exact g3, fun i' hi' => g4 i' (by simp [hi'])⟩) hnd.2 hr
  have hnod : ∀ i ∈ qs, dstAt l i ≠ some d := fun i hi e => by
   have := hun i (by simp [hi]) e
   subst this
   exact hnd.1 hi
  have hAd : A.tmps.getD d undef = v := by
   rw [i1.out d hnod, hpt, getD_set_same _ _ _ hsz]
  have hv : valOf l A i0 = v := by unfold valOf; rw [hd]; exact hAd
  have up : ∀ {S : Nat → Prop} {LF : Act}, (∀ i, S i → i ∈ qs) → Mixed l S A (base.put (some d) v) LF → Mixed l (fun k => k = i0 ∨ S k) A base LF := by
   intro S LF hS hm
   refine ⟨hm.defers, hm.size.trans hbs, fun i hi t ht => ?_, fun t ht => ?_⟩
   ·rcases hi with rfl | hi
    ·rw [hd] at ht; cases ht
     rw [hm.out d (fun i' hi' => hnod i' (hS i' hi')), hpt, getD_set_same _ _ _ hsz, hAd]
    ·exact hm.in_ i hi t ht
   ·have e : d ≠ t := fun e => ht i0 (.inl rfl) (by rw [hd, e])
    rw [hm.out t (fun i hi => ht i (.inr hi)), hpt, getD_set_other _ _ e]
  refine ⟨(up (fun i hi => hi) i1).congr (by simp), fun pre i post e o hol => ?_⟩
  cases pre with
  | nil =>
   simp at e
   obtain ⟨rfl, rfl⟩ := e
   rw [ho] at hol
   cases hol
   exact ⟨base, Mixed.nil (by simp), by rw [hv]; exact hy⟩
  | cons p pre =>
   simp at e
   obtain ⟨rfl, rfl⟩ := e
   obtain ⟨LF, h5, h6⟩ := i2 pre i post rfl o hol
   exact ⟨LF, (up (fun k hk => by simp [hk]) h5).congr (by simp), h6⟩
theorem wpListIn_relD {ops : Array Oper} {o : Oper} {a A : Act} {W : World} {K K' : Act → World → Prop} {Q : Exit → Act → World → Prop} (hsel : ∀ cs b, o.op ≠ .select cs b) (hnd : ∀ c, o.op ≠ .defer c) (hz : a.tmps.size = A.tmps.size) (hag : ∀ t ∈ o.looksAt ops, A.tmps.getD t undef = a.tmps.getD t undef)
  (h : wpListIn F n P ops (Exit.then K (fun _ _ _ => False)) [o] A W) (hK : ∀ A' a' W' v, A'.tmps = (A.put o.dst v).tmps → a'.tmps = (a.put o.dst v).tmps → (A'.defers = A.defers → a'.defers = a.defers) → K A' W' → K' a' W') : wpListIn F n P ops (Exit.then K' Q) [o] a W := by
 have pd : ∀ (x : Act) (v : Value), (x.put o.dst v).defers = x.defers := fun x v => by cases o.dst <;> rfl
 simp only [wpListIn] at h ⊢
 rw [wanted_agree hz.symm hag] at h
 split
 ·rename_i hw
  rw [if_pos hw] at h
  unfold Oper.wpIn at h ⊢
  rw [Oper.semAt_eq _ _ _ hnd] at h ⊢
  rw [execOp_agree hsel hag] at h
  refine ⟨fun f hf => h.1 f (by rw [about_agree W hag]; exact hf), ?_⟩
  have h4 := h.2
  generalize (execOp a.eval o).run P W = r at h4 ⊢
  cases r with
  | ok x w' =>
   cases x <;> simp only [Oper.uponIn, Exit.then] at h4 ⊢ <;>
    first
     | exact hK _ _ _ _ rfl rfl (fun _ => pd a _) h4
     | exact hK _ _ _ undef (by cases o.dst <;> rfl) (by cases o.dst <;> rfl) (fun e => by
       have e2 : ∀ (x : Act) (v : Value), (x.put o.dst v).defers = x.defers := pd
       rw [e2] at e
       exact absurd e (by simp)) h4
     | exact ⟨h4.1, CallsIn.mono h4.2 (fun e w'' he => by cases e <;> first | exact hK _ _ _ _ rfl rfl (fun _ => pd a _) he | exact False.elim he | (obtain ⟨_, _, he⟩ := he; exact False.elim he))⟩
     | exact ⟨h4.1, RoundIn.mono h4.2 (fun e w'' he => by cases e <;> first | exact hK _ _ _ _ rfl rfl (fun _ => pd a _) he | exact False.elim he | (obtain ⟨_, _, he⟩ := he; exact False.elim he))⟩
     | exact ⟨h4.1, RowsIn.mono h4.2 (fun v w'' he => hK _ _ _ _ rfl rfl (fun _ => pd a _) he)⟩
     | exact h4
     | exact False.elim h4
  | halt x w' => cases x <;> simp only [Oper.uponIn, Exit.then] at h4 ⊢ <;> first | exact h4 | exact False.elim h4
 ·rename_i hw
  rw [if_neg hw] at h
  refine ⟨fun f hf => h.1 f (by rw [about_agree W hag]; exact hf), ?_⟩
  exact hK _ _ _ undef rfl rfl (fun _ => pd a _) h.2
def YieldsAll (F : Fence) (P : Program) (ops : Array Oper) (o : Oper) (v : Value) (a : Act) : Prop :=
 (∀ W f, o.about P W a.eval = some f → F.fn f) ∧ ((Region.wanted o (yielded ops a.tmps) = true ∧ ∀ W, (execOp a.eval o).run P W = .ok (.value v) W) ∨ (Region.wanted o (yielded ops a.tmps) = false ∧ v = undef))
theorem late_yields {ops : Array Oper} {C : World → Prop} {o : Oper} {v : Value} {a : Act} (hl : lateB o = true) (hC : ∃ W, C W) (hy : YieldsQuiet F n P ops C o v a) : YieldsAll F P ops o v a := by
 obtain ⟨W0, hW0⟩ := hC
 obtain ⟨dst, op, type, pos, after, guard⟩ := o
 refine ⟨fun W f hf => ?_, ?_⟩
 ·unfold lateB at hl
  cases op <;> simp only at hl <;> first | (cases hl; done) | (have h0 : (none : Option FuncId) = some f := hf; cases h0)
 ·rcases hy.2 with ⟨hw, hv⟩ | h
  ·refine .inl ⟨hw, fun W => ?_⟩
   have h3 := hv W0 hW0
   unfold Oper.quietAtIn at h3
   unfold lateB at hl
   cases op <;> simp only at hl <;> first | (cases hl; done) | skip
   ·simp only [execOp, Sem.run_pure, Oper.quietUponIn] at h3 ⊢
    rw [h3.2]
   ·simp only [execOp, Sem.run_pure, Oper.quietUponIn] at h3 ⊢
    rw [h3.2]
   ·rename_i t ix
    simp only [execOp] at h3 ⊢
    unfold Instr.extract at h3 ⊢
    cases hv : a.eval t <;> rw [hv] at h3 <;> simp only [Sem.run_bind] at h3 ⊢
    case tuple xs =>
     cases hx : xs[ix]? <;> simp [hx, Sem.run_pure, Result.andThen, Oper.quietUponIn] at h3 ⊢
     exact h3
    all_goals simp [Result.andThen, Oper.quietUponIn] at h3
  ·exact .inr h
theorem YieldsAll.agree {ops : Array Oper} {o : Oper} {v : Value} {a a' : Act} (hy : YieldsAll F P ops o v a) (hs : ∀ cs b, o.op ≠ .select cs b) (hz : a.tmps.size = a'.tmps.size) (h : ∀ t ∈ o.looksAt ops, a.tmps.getD t undef = a'.tmps.getD t undef) : YieldsAll F P ops o v a' := by
 unfold YieldsAll at hy ⊢
 rw [← execOp_agree hs h, ← wanted_agree hz h]
 exact ⟨fun W f hf => hy.1 W f (by rw [about_agree W h]; exact hf), hy.2⟩
end
end
end Go.Proofs.YtahkjagjcogeiaaGreatDoor
