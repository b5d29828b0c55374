/- Part 1 of the texts of this claim, joined. -/
import Derived.Test.YtehgijdjnddfcaaRows
import Derived.WalkKit
import Derived.ProofKit
import Derived.Below
import Derived.Laws.OwnMore
import Derived.Deep.AppendLies
import Derived.Deep.Draws
import Derived.Laws.Rows
import Derived.Deep.QuietTactic
import Derived.BigQuiet
import Derived.Lib.Hide
import Derived.Outline
import Derived.WalkLawsBesides
import Derived.WalkSpells
import Derived.RangeFuncNested
import Derived.RangeFuncBound
import Derived.RangeFuncCalls
import Derived.RangeFuncLeaves
import Derived.Shelf.Abstract
import Derived.Shelf.RegionOpen
import Derived.OwnWalkIn
import Derived.TacticsInMore
import Derived.LoopNIn
import Derived.LoopIn
import Derived.Sort.BigQuietIn
import Derived.StillTail
import Derived.Maps.AppendAt
import Derived.Lib.SliceRun
import Derived.Laws.IdiomCopy
import Derived.Lib.AppendZeros
import Derived.Shelf.Spec.SlicesInsert
import Derived.Lib.Overlaps
import Derived.Deep.Cut
import Derived.Deep.RegionWith
import Derived.Laws.BytesArg
import Derived.Laws.IdiomStrings
import Derived.RecoverIn
import Derived.Sort.CutIn
set_option linter.unusedVariables false
/- Words for memory: a slice that reads as a list, nil let in; frames behind draws. -/
namespace Go.Proofs.Ytehgijdjnddfcaa
open Go.RowKit

theorem ret_int {k : IntKind} {a b : Int} (h : a = b) : Ending.returned (.int k a) = .returned (.int k b) := by rw [h]
theorem ret_bool {a b : Bool} (h : a = b) : Ending.returned (.bool a) = .returned (.bool b) := by rw [h]

theorem block_of_add (a : Addr) (n : Nat) : (a.add n).block = a.block := by unfold Addr.add; split <;> rfl
theorem below_drewN {B : Nat} {a w : World} (h : Below B a w) (n : Nat) : Below B a (w.drewN n) := ⟨h.os, h.tape, h.output, h.size, h.block⟩

/-- The slice value '.slice A n c' holds the cells xs ('size' cells an element), below block B. -/
def Reads (w : World) (B size : Nat) (A : Option Addr) (n : Nat) (xs : List Value) : Prop :=
 xs.length = n * size ∧ (0 < n → ∃ ad, A = some ad ∧ ad.block < B ∧ ∀ j u, xs[j]? = some u → w.cell? (ad.add j) = some u)

section
variable {w w' : World} {B B' size n : Nat} {A : Option Addr} {xs : List Value}
theorem Reads.none_ : Reads w B size A 0 [] := ⟨by simp, fun h => absurd h (by omega)⟩
/-- Where there is a cell the address is plain. -/
theorem Reads.plain (h : Reads w B size A n xs) (hx : 0 < xs.length) : ∃ b off, A = some ⟨b, off, none⟩ ∧ b < B ∧ ∀ j u, xs[j]? = some u → w.cell? ⟨b, off + j, none⟩ = some u := by
 have hn : 0 < n := by
  rcases Nat.eq_zero_or_pos n with h0 | h0
  ·have := h.1; rw [h0] at this; omega
  ·exact h0
 obtain ⟨ad, e, hb, hc⟩ := h.2 hn
 obtain ⟨b, off, spot⟩ := ad
 have h0 := hc 0 _ (List.getElem?_eq_getElem hx)
 have hs : spot = none := by
  cases spot with
  | none => rfl
  | some s => simp [Addr.add, World.cell?] at h0; split at h0 <;> simp at h0
 subst hs
 refine ⟨b, off, e, hb, fun j u hu => ?_⟩
 have := hc j u hu
 unfold Addr.add at this
 by_cases hj : j = 0
 ·subst hj; simpa using this
 ·simpa [hj] using this
theorem Reads.keep (h : Reads w B size A n xs) (hk : ∀ p : Addr, p.block < B → w'.cell? p = w.cell? p) : Reads w' B size A n xs :=
 ⟨h.1, fun hn => by
  obtain ⟨ad, e, hb, hc⟩ := h.2 hn
  exact ⟨ad, e, hb, fun j u hu => (hk _ (by rw [block_of_add]; exact hb)).trans (hc j u hu)⟩⟩
theorem Reads.more (h : Reads w B size A n xs) (hB : B ≤ B') : Reads w B' size A n xs :=
 ⟨h.1, fun hn => by
  obtain ⟨ad, e, hb, hc⟩ := h.2 hn
  exact ⟨ad, e, by omega, hc⟩⟩
theorem Reads.below (h : Reads w B size A n xs) (hb : Below B w w') : Reads w' B size A n xs := h.keep fun _ hp => hb.cell hp
theorem Reads.drewN (h : Reads w B size A n xs) (k : Nat) : Reads (w.drewN k) B size A n xs := h
theorem Reads.alloc (h : Reads w B size A n xs) (hB : B ≤ w.heap.size) (o : Obj) : Reads (w.alloc o) B size A n xs := h.keep fun p hp => World.cell?_alloc_lt w o p (by omega)
theorem Reads.setCell (h : Reads w B size A n xs) {p : Addr} (hB : B ≤ p.block) (u : Value) : Reads (w.setCell p u) B size A n xs :=
 h.keep fun q hq => World.cell?_setCell_other w p q u (fun e => by subst e; omega)
end

/-- Block g is just the cells cs of element type t, none frozen. -/
def Blk (w : World) (g : Nat) (t : TypeId) (cs : Array Value) : Prop := w.heap[g]? = some (.cells cs t (0, 0))

section
variable {w w' : World} {g : Nat} {t : TypeId} {cs : Array Value}
theorem Blk.lt (h : Blk w g t cs) : g < w.heap.size := by
 rcases Nat.lt_or_ge g w.heap.size with hlt | hge
 ·exact hlt
 ·unfold Blk at h; rw [Array.getElem?_eq_none hge] at h; cases h
theorem Blk.cell (h : Blk w g t cs) (i : Nat) : w.cell? ⟨g, i, none⟩ = cs[i]? := cell_of_row w g i cs t (0, 0) h
theorem Blk.frozen (h : Blk w g t cs) (i : Nat) : w.frozen? ⟨g, i, none⟩ = false := by
 unfold Blk at h
 simp [World.frozen?, h]
theorem Blk.new (w : World) (t : TypeId) (cs : Array Value) : Blk (w.alloc (.cells cs t)) w.heap.size t cs := heap_alloc_new w _
theorem Blk.drewN (h : Blk w g t cs) (n : Nat) : Blk (w.drewN n) g t cs := h
theorem Blk.alloc (h : Blk w g t cs) (o : Obj) : Blk (w.alloc o) g t cs := (Below.heap_alloc w o g h.lt).trans h
theorem Blk.set_ (h : Blk w g t cs) (i : Nat) (u : Value) : Blk (w.setCell ⟨g, i, none⟩ u) g t (cs.setIfInBounds i u) := by
 unfold Blk at h ⊢
 simp [World.setCell, Array.getElem?_modify, h]
theorem Blk.far (h : Blk w g t cs) {p : Addr} (hp : g ≠ p.block) (u : Value) : Blk (w.setCell p u) g t cs := (Below.heap_setCell w p u g hp).trans h
theorem Blk.below {B : Nat} (h : Blk w g t cs) (hb : Below B w w') (hg : g < B) : Blk w' g t cs := (hb.block g hg).trans h
theorem Blk.grown {row : Option Nat} (h : Blk w g t cs) (hb : w.grownBy w' row) (hg : some g ≠ row) : Blk w' g t cs := (hb.block g h.lt hg).trans h
end

/-- A slice of ints. -/
def IntsAt (w : World) (B : Nat) (A : Option Addr) (n : Nat) (l : List Int) : Prop := Reads w B 1 A n (l.map (Value.int .i64))

section
variable {w w' : World} {B B' n : Nat} {A : Option Addr} {l : List Int}
theorem IntsAt.len (h : IntsAt w B A n l) : l.length = n := by have := h.1; simpa using this
theorem IntsAt.cell (h : IntsAt w B A n l) {k : Nat} (hk : k < n) : ∃ b off x, A = some ⟨b, off, none⟩ ∧ b < B ∧ l[k]? = some x ∧ w.cell? ⟨b, off + k, none⟩ = some (.int .i64 x) := by
 have hl := h.len
 obtain ⟨b, off, e, hb, hc⟩ := Reads.plain h (by simp; omega)
 have hx : l[k]? = some l[k] := List.getElem?_eq_getElem (by omega)
 exact ⟨b, off, _, e, hb, hx, hc k _ (by rw [List.getElem?_map, hx]; rfl)⟩
theorem IntsAt.below (h : IntsAt w B A n l) (hb : Below B w w') : IntsAt w' B A n l := Reads.below h hb
theorem IntsAt.more (h : IntsAt w B A n l) (hB : B ≤ B') : IntsAt w B' A n l := Reads.more h hB
end

/-- A new block that holds ints. -/
theorem IntsAt.new (w : World) (t : TypeId) (l : List Int) (B : Nat) (hB : w.heap.size < B) : IntsAt (w.alloc (.cells (l.map (Value.int .i64)).toArray t)) B (some ⟨w.heap.size, 0, none⟩) l.length l := by
 refine ⟨by simp, fun _ => ⟨_, rfl, hB, fun j u hu => ?_⟩⟩
 have ha : ((⟨w.heap.size, 0, none⟩ : Addr).add j) = ⟨w.heap.size, j, none⟩ := by
  unfold Addr.add
  by_cases hj : j = 0
  ·simp [hj]
  ·simp [hj]
 rw [ha, cell_of_row _ _ _ _ _ _ (heap_alloc_new w _)]
 simpa using hu

/-- The first place at which something is so; -1 if there is none. -/
def idx (p : Int → Bool) (l : List Int) : Int := if l.any p then (l.findIdx p : Int) else -1

theorem idx_none {p : Int → Bool} {l : List Int} (h : ∀ y ∈ l, p y = false) : idx p l = -1 := by
 unfold idx
 rw [if_neg]
 simp only [List.any_eq_true, not_exists, not_and, Bool.not_eq_true]
 exact h
theorem idx_some {p : Int → Bool} {l : List Int} {k : Nat} {x : Int} (hx : l[k]? = some x) (hp : p x = true) (h : ∀ y ∈ l.take k, p y = false) : idx p l = k := by
 obtain ⟨hk, rfl⟩ := List.getElem?_eq_some_iff.1 hx
 have hf : l.findIdx p = k := by
  rw [List.findIdx_eq hk]
  refine ⟨hp, fun j hj => ?_⟩
  have := h (l[j]'(by omega)) (by
   rw [List.mem_take_iff_getElem]
   exact ⟨j, by omega, rfl⟩)
  simp [this]
 unfold idx
 rw [if_pos (List.any_eq_true.2 ⟨_, List.getElem_mem hk, hp⟩), hf]
theorem idx_ge {p : Int → Bool} {l : List Int} : decide (0 ≤ idx p l) = l.any p := by
 unfold idx
 cases h : l.any p <;> simp
theorem take_snoc_all {α : Type} {p : α → Bool} {l : List α} {k : Nat} {x : α} (hx : l[k]? = some x) (hp : p x = false) (h : ∀ y ∈ l.take k, p y = false) : ∀ y ∈ l.take (k + 1), p y = false := by
 intro y hy
 obtain ⟨hk, rfl⟩ := List.getElem?_eq_some_iff.1 hx
 rw [List.take_succ_eq_append_getElem hk, List.mem_append] at hy
 rcases hy with hy | hy
 ·exact h y hy
 ·simp at hy; rw [hy]; exact hp
theorem mem_of_at {α : Type} {l : List α} {k : Nat} {x : α} (hx : l[k]? = some x) : x ∈ l := by
 obtain ⟨hk, rfl⟩ := List.getElem?_eq_some_iff.1 hx
 exact List.getElem_mem hk

end Go.Proofs.Ytehgijdjnddfcaa
/- Numbers and their bytes, plain Lean. -/
namespace Go.Proofs.Ytehgijdjnddfcaa

/-- The number at an index of bytes, read on from the i-th of its bytes, and the index behind it. -/
def decG (l : List UInt8) (p : Nat) : Nat → Nat → Nat → Option (Nat × Nat)
 | 0, _, _ => none
 | f + 1, i, n => match l[p + i]? with
  | none => none
  | some b => if b.toNat < 128 then (if (b.toNat = 0 ∧ 0 < i) ∨ 999999999 < n + b.toNat % 128 * 128 ^ i then none else some (n + b.toNat % 128 * 128 ^ i, p + i + 1)) else decG l p f (i + 1) (n + b.toNat % 128 * 128 ^ i)
def decN5 (l : List UInt8) (p : Nat) : Option (Nat × Nat) := decG l p 5 0 0
/-- What the loop over a number's bytes knows. -/
structure DecSt (l : List UInt8) (p i n : Nat) : Prop where
 i5 : i ≤ 5
 lt : n < 128 ^ i
 eq : decN5 l p = decG l p (5 - i) i n
theorem DecSt.zero (l : List UInt8) (p : Nat) : DecSt l p 0 0 := ⟨by omega, by decide, rfl⟩
section
variable {l : List UInt8} {p i n : Nat} {b : UInt8}
theorem dec_lt (h : n < 128 ^ i) (b : Nat) : n + b % 128 * 128 ^ i < 128 ^ (i + 1) := by
 have h1 : b % 128 ≤ 127 := by omega
 have h2 : b % 128 * 128 ^ i ≤ 127 * 128 ^ i := Nat.mul_le_mul_right _ h1
 rw [Nat.pow_succ]
 omega
theorem DecSt.step (h : DecSt l p i n) (hi : i < 5) (hb : l[p + i]? = some b) (h128 : ¬ b.toNat < 128) : DecSt l p (i + 1) (n + b.toNat % 128 * 128 ^ i) := by
 refine ⟨by omega, dec_lt h.lt _, ?_⟩
 rw [h.eq, show 5 - i = (5 - (i + 1)) + 1 by omega, decG, hb]
 simp only [if_neg h128]
theorem DecSt.last (h : DecSt l p i n) (hi : i < 5) (hb : l[p + i]? = some b) (h128 : b.toNat < 128) :
  decN5 l p = if (b.toNat = 0 ∧ 0 < i) ∨ 999999999 < n + b.toNat % 128 * 128 ^ i then none else some (n + b.toNat % 128 * 128 ^ i, p + i + 1) := by
 rw [h.eq, show 5 - i = (5 - (i + 1)) + 1 by omega, decG, hb]
 simp only [if_pos h128]
theorem DecSt.short (h : DecSt l p i n) (hb : l[p + i]? = none) : decN5 l p = none := by
 rw [h.eq]
 cases e : 5 - i with
 | zero => rfl
 | succ f => rw [decG, hb]
theorem DecSt.long (h : DecSt l p 5 n) : decN5 l p = none := by
 rw [h.eq]
 rfl
end
theorem decG_to {l : List UInt8} {p : Nat} : ∀ {f i n r to : Nat}, decG l p f i n = some (r, to) → p < to ∧ to ≤ l.length ∧ r ≤ 999999999
 | 0, i, n, r, to, h => by cases h
 | f + 1, i, n, r, to, h => by
  rw [decG] at h
  cases hb : l[p + i]? with
  | none => rw [hb] at h; cases h
  | some b =>
   rw [hb] at h
   have hl := (List.getElem?_eq_some_iff.1 hb).1
   dsimp only at h
   split at h
   ·split at h
    ·cases h
    ·rename_i h1 h2
     cases h
     omega
   ·exact decG_to h
theorem dec_to {l : List UInt8} {p r to : Nat} (h : decN5 l p = some (r, to)) : p < to ∧ to ≤ l.length ∧ r ≤ 999999999 := decG_to h
/-- After so many numbers: where one stands, and what they are. -/
def runN (l : List UInt8) : Nat → Option (Nat × List Int)
 | 0 => some (0, [])
 | k + 1 => match runN l k with
  | none => none
  | some (p, xs) => if p < l.length then (match decN5 l p with | none => none | some (n, to) => some (to, xs ++ [(n : Int)])) else none
def NumAt (l : List UInt8) (p : Nat) (xs : List Int) : Prop := ∃ k, runN l k = some (p, xs)
theorem NumAt.zero (l : List UInt8) : NumAt l 0 [] := ⟨0, rfl⟩
theorem NumAt.step {l : List UInt8} {p n to : Nat} {xs : List Int} (h : NumAt l p xs) (hp : p < l.length) (hd : decN5 l p = some (n, to)) : NumAt l to (xs ++ [(n : Int)]) := by
 obtain ⟨k, hk⟩ := h
 exact ⟨k + 1, by rw [runN, hk]; simp only [if_pos hp, hd]⟩
theorem run_none {l : List UInt8} {k : Nat} (h : runN l k = none) : ∀ {j : Nat}, k ≤ j → runN l j = none
 | 0, hj => by
  obtain rfl : k = 0 := by omega
  exact h
 | j + 1, hj => by
  by_cases e : k = j + 1
  ·subst e; exact h
  ·rw [runN, run_none h (j := j) (by omega)]
theorem run_small {l : List UInt8} : ∀ {k p : Nat} {xs : List Int}, runN l k = some (p, xs) → p ≤ l.length ∧ xs.length ≤ p ∧ xs.length = k ∧ ∀ x ∈ xs, 0 ≤ x ∧ x ≤ 999999999
 | 0, p, xs, h => by cases h; exact ⟨by omega, Nat.le_refl _, rfl, by simp⟩
 | k + 1, p, xs, h => by
  rw [runN] at h
  cases hk : runN l k with
  | none => rw [hk] at h; cases h
  | some y =>
   obtain ⟨p0, ys⟩ := y
   rw [hk] at h
   dsimp only at h
   split at h
   ·rename_i hp
    cases hd : decN5 l p0 with
    | none => rw [hd] at h; cases h
    | some z =>
     obtain ⟨n, to⟩ := z
     rw [hd] at h
     cases h
     obtain ⟨h1, h2, h3, h4⟩ := run_small hk
     have h5 := dec_to hd
     refine ⟨h5.2.1, by rw [List.length_append]; simp only [List.length_cons, List.length_nil]; omega, by rw [List.length_append, h3]; rfl, fun x hx => ?_⟩
     rcases List.mem_append.1 hx with hx | hx
     ·exact h4 x hx
     ·rw [List.mem_singleton.1 hx]
      omega
   ·cases h
theorem NumAt.small {l : List UInt8} {p : Nat} {xs : List Int} (h : NumAt l p xs) : p ≤ l.length ∧ xs.length ≤ p := by
 obtain ⟨k, hk⟩ := h
 exact ⟨(run_small hk).1, (run_small hk).2.1⟩
/-- All numbers of bytes; none if some are none. -/
def NumsIs (l : List UInt8) (xs : List Int) (e : Int) : Prop :=
 (e = 0 ∧ NumAt l l.length xs) ∨ (e = 111 ∧ xs = [] ∧ ∃ p ys, NumAt l p ys ∧ p < l.length ∧ decN5 l p = none)
theorem run_stop {l : List UInt8} {k p : Nat} {xs : List Int} (h : runN l k = some (p, xs)) (hs : p = l.length ∨ (p < l.length ∧ decN5 l p = none)) {j q : Nat} {ys : List Int} (hj : runN l j = some (q, ys)) : j ≤ k := by
 rcases Nat.lt_or_ge k j with hlt | hge
 ·have hn : runN l (k + 1) = none := by
   rw [runN, h]
   rcases hs with rfl | ⟨h1, h2⟩
   ·simp
   ·simp only [if_pos h1, h2]
  rw [run_none hn hlt] at hj
  cases hj
 ·exact hge
theorem NumsIs.same {l : List UInt8} {xs ys : List Int} {e f : Int} (h : NumsIs l xs e) (h' : NumsIs l ys f) : xs = ys ∧ e = f := by
 rcases h with ⟨rfl, k, hk⟩ | ⟨rfl, rfl, p, zs, ⟨k, hk⟩, hp, hd⟩ <;> rcases h' with ⟨rfl, j, hj⟩ | ⟨rfl, rfl, q, us, ⟨j, hj⟩, hq, hd'⟩
 ·have h1 := run_stop hk (.inl rfl) hj
  have h2 := run_stop hj (.inl rfl) hk
  obtain rfl : k = j := by omega
  rw [hk] at hj
  cases hj
  exact ⟨rfl, rfl⟩
 ·have h1 := run_stop hk (.inl rfl) hj
  have h2 := run_stop hj (.inr ⟨hq, hd'⟩) hk
  obtain rfl : k = j := by omega
  rw [hk] at hj
  cases hj
  omega
 ·have h1 := run_stop hk (.inr ⟨hp, hd⟩) hj
  have h2 := run_stop hj (.inl rfl) hk
  obtain rfl : k = j := by omega
  rw [hk] at hj
  cases hj
  omega
 ·exact ⟨rfl, rfl⟩
/-- The bytes of a number. -/
def encN (n : Nat) : List UInt8 := if n < 128 then [UInt8.ofNat n] else UInt8.ofNat (128 + n % 128) :: encN (n / 128)
theorem encN_small {n : Nat} (h : n < 128) : encN n = [UInt8.ofNat n] := by rw [encN, if_pos h]
theorem encN_more {n : Nat} (h : ¬ n < 128) : encN n = UInt8.ofNat (128 + n % 128) :: encN (n / 128) := by rw [encN, if_neg h]
/-- The higher bits, behind a byte's lower ones. -/
theorem or_add {n c i : Nat} (h : n < 2 ^ (7 * i)) : n ||| (c <<< (7 * i)) = n + c * 128 ^ i := by
 rw [Nat.or_comm, ← Nat.shiftLeft_add_eq_or_of_lt h, Nat.shiftLeft_eq, show (128 : Nat) = 2 ^ 7 from rfl, ← Nat.pow_mul, Nat.add_comm]
end Go.Proofs.Ytehgijdjnddfcaa
/- A region that draws its order, by an invariant: whatever has been carried out, each operation that may come up keeps it. -/
namespace Go.Proofs.Ytehgijdjnddfcaa
open Go.RowKit

section
variable {F : Fence} {n : Nat} {P : Program} {ops : Array Oper} {Q : Exit → Act → World → Prop}

/-- What has been carried out is shut: with each operation those that it waits for. -/
def ShutL (ops : Array Oper) (listed : Array Bool) : Prop := ∀ k o, ops[k]? = some o → listed.getD k false = true → ∀ e ∈ o.after, Region.binds .any e = true → listed.getD e.on false = true
theorem getD_set_keep {listed : Array Bool} {i k : Nat} (h : listed.getD k false = true) : (listed.setIfInBounds i true).getD k false = true := by
 rw [Array.getD_eq_getD_getElem?] at h ⊢
 rw [Array.getElem?_setIfInBounds]
 split
 ·rename_i e
  subst e
  split
  ·rfl
  ·rename_i hn
   rw [Array.getElem?_eq_none (by omega)] at h
   cases h
 ·exact h
theorem getD_set_off {listed : Array Bool} {i k : Nat} (hne : k ≠ i) (h : (listed.setIfInBounds i true).getD k false = true) : listed.getD k false = true := by
 rw [Array.getD_eq_getD_getElem?] at h ⊢
 rw [Array.getElem?_setIfInBounds, if_neg (fun e => hne e.symm)] at h
 exact h
theorem ShutL.step {ops : Array Oper} {listed : Array Bool} {i : Nat} {o : Oper} (h : ShutL ops listed) (ho : ops[i]? = some o) (hw : ∀ e ∈ o.after, Region.binds .any e = true → listed.getD e.on false = true) : ShutL ops (listed.setIfInBounds i true) := by
 intro k o' ho' hk e he hb
 by_cases hki : k = i
 ·subst hki
  rw [ho] at ho'
  cases ho'
  exact getD_set_keep (hw e he hb)
 ·exact getD_set_keep (h k o' ho' (getD_set_off hki hk) e he hb)
theorem ShutL.none (ops : Array Oper) (n : Nat) : ShutL ops (Array.replicate n false) := by
 intro k o ho hk
 rw [Array.getD_eq_getD_getElem?, Array.getElem?_replicate] at hk
 split at hk <;> cases hk
/-- What has been carried out, one operation more. -/
def done (L : Nat → Bool) (i : Nat) : Nat → Bool := fun k => if k = i then true else L k

/-- What an operation waits for has been carried out. -/
def Waited (L : Nat → Bool) : List Edge → Prop
 | [] => True
 | e :: es => (Region.binds .any e = true → L e.on = true) ∧ Waited L es
theorem Waited.of {L : Nat → Bool} : ∀ {l : List Edge}, (∀ e ∈ l, Region.binds .any e = true → L e.on = true) → Waited L l
 | [], _ => trivial
 | e :: es, h => ⟨h e (by simp), Waited.of fun e' he => h e' (by simp [he])⟩

theorem Waited.at_ {L : Nat → Bool} : ∀ {l : List Edge}, Waited L l → ∀ (j : Nat), (l.any fun e => e.on == j && Region.binds .any e) = true → L j = true
 | [], _, j, h => by simp at h
 | e :: es, hw, j, h => by
  rw [List.any_cons, Bool.or_eq_true] at h
  rcases h with h | h
  ·simp only [Bool.and_eq_true, beq_iff_eq] at h
   rw [← h.1]; exact hw.1 h.2
  ·exact Waited.at_ hw.2 j h

/-- One obligation an operation. -/
def Steps {σ : Type} (F : Fence) (n : Nat) (P : Program) (ops : Array Oper) (act : σ → Act) (inv : (Nat → Bool) → σ → World → Prop) : Nat → List Oper → Prop
 | _, [] => True
 | i, o :: rest => (∀ L s W, L i = false → Waited L o.after.toList → inv L s W → ∀ (K : Act → World → Prop) (Q : Exit → Act → World → Prop), (∀ s' W', inv (done L i) s' W' → K (act s') W') → wpListIn F n P ops (Exit.then K Q) [o] (act s) W) ∧ Steps F n P ops act inv (i + 1) rest
theorem Steps.at_ {σ : Type} {act : σ → Act} {inv : (Nat → Bool) → σ → World → Prop} : ∀ {l : List Oper} {k i : Nat} {o : Oper}, Steps F n P ops act inv k l → l[i]? = some o →
  ∀ L s W, L (k + i) = false → Waited L o.after.toList → inv L s W → ∀ (K : Act → World → Prop) (Q : Exit → Act → World → Prop), (∀ s' W', inv (done L (k + i)) s' W' → K (act s') W') → wpListIn F n P ops (Exit.then K Q) [o] (act s) W
 | [], _, _, _, _, h => by simp at h
 | o' :: l, k, 0, o, hs, h => by simp at h; subst h; exact hs.1
 | o' :: l, k, i + 1, o, hs, h => by
  have := Steps.at_ (i := i) hs.2 (by simpa using h)
  rwa [show k + 1 + i = k + (i + 1) by omega] at this

end
end Go.Proofs.Ytehgijdjnddfcaa
/- A region that draws its order, by an invariant, outside a fence. -/
namespace Go.Proofs.Ytehgijdjnddfcaa
open Go.RowKit

section
variable {P : Program} {ops : Array Oper} {Q : Exit → Act → World → Prop}

/-- What is done has what it waits for. -/
def Down (l : List Oper) (L : Nat → Bool) : Prop := ∀ (j : Nat) o, l[j]? = some o → L j = true → Waited L o.after.toList
def afterB (l : List Oper) (j k : Nat) : Bool := match l[j]? with
 | some o => o.after.toList.any fun e => e.on == k && Region.binds .any e
 | none => false
theorem Down.at_ {l : List Oper} {L : Nat → Bool} (h : Down l L) (j k : Nat) (hj : L j = true) (hk : afterB l j k = true) : L k = true := by
 unfold afterB at hk
 split at hk
 ·rename_i o ho; exact (h j o ho hj).at_ k hk
 ·cases hk
theorem Down.no {l : List Oper} {L : Nat → Bool} (h : Down l L) (j k : Nat) (hj : L j = true) (hk : afterB l j k = true) (hf : L k = false) {p : Prop} : p := absurd ((h.at_ j k hj hk).symm.trans hf) (by decide)
theorem Waited.mono {L L' : Nat → Bool} (hL : ∀ k, L k = true → L' k = true) : ∀ {l : List Edge}, Waited L l → Waited L' l
 | [], _ => trivial
 | e :: es, h => ⟨fun hb => hL _ (h.1 hb), Waited.mono hL h.2⟩
theorem done_mono (L : Nat → Bool) (i k : Nat) (h : L k = true) : done L i k = true := by unfold done; split <;> simp_all
theorem Down.step {l : List Oper} {L : Nat → Bool} (h : Down l L) {i : Nat} {o : Oper} (ho : l[i]? = some o) (hw : Waited L o.after.toList) : Down l (done L i) := by
 intro j o' hj ht
 by_cases e : j = i
 ·subst e
  rw [ho] at hj
  cases hj
  exact hw.mono (done_mono L j)
 ·unfold done at ht
  rw [if_neg e] at ht
  exact (h j o' hj ht).mono (done_mono L i)

/-- One obligation an operation. -/
def StepsW {σ : Type} (P : Program) (ops : Array Oper) (D : (Nat → Bool) → Prop) (act : σ → Act) (inv : (Nat → Bool) → σ → World → Prop) : Nat → List Oper → Prop
 | _, [] => True
 | i, o :: rest => (∀ L s W, L i = false → Waited L o.after.toList → D L → inv L s W → ∀ (K : Act → World → Prop) (Q : Exit → Act → World → Prop), (∀ s' W', inv (done L i) s' W' → K (act s') W') → wpList P ops (Exit.then K Q) [o] (act s) W) ∧ StepsW P ops D act inv (i + 1) rest
theorem StepsW.at_ {σ : Type} {D : (Nat → Bool) → Prop} {act : σ → Act} {inv : (Nat → Bool) → σ → World → Prop} : ∀ {l : List Oper} {k i : Nat} {o : Oper}, StepsW P ops D act inv k l → l[i]? = some o →
  ∀ L s W, L (k + i) = false → Waited L o.after.toList → D L → inv L s W → ∀ (K : Act → World → Prop) (Q : Exit → Act → World → Prop), (∀ s' W', inv (done L (k + i)) s' W' → K (act s') W') → wpList P ops (Exit.then K Q) [o] (act s) W
 | [], _, _, _, _, h => by simp at h
 | o' :: l, k, 0, o, hs, h => by simp at h; subst h; exact hs.1
 | o' :: l, k, i + 1, o, hs, h => by
  have := StepsW.at_ (i := i) hs.2 (by simpa using h)
  rwa [show k + 1 + i = k + (i + 1) by omega] at this

end
end Go.Proofs.Ytehgijdjnddfcaa
/- A region that draws its order, inside a fence, by an invariant: what has been carried out has what it waits for. -/
namespace Go.Proofs.Ytehgijdjnddfcaa
open Go.RowKit

section
variable {F : Fence} {n : Nat} {P : Program} {Q : Exit → Act → World → Prop}
/-- One obligation an operation. -/
def StepsD {σ : Type} (F : Fence) (n : Nat) (P : Program) (ops : Array Oper) (D : (Nat → Bool) → Prop) (act : σ → Act) (inv : (Nat → Bool) → σ → World → Prop) : Nat → List Oper → Prop
 | _, [] => True
 | i, o :: rest => (∀ L s W, L i = false → Waited L o.after.toList → D L → inv L s W → ∀ (K : Act → World → Prop) (Q : Exit → Act → World → Prop), (∀ s' W', inv (done L i) s' W' → K (act s') W') → wpListIn F n P ops (Exit.then K Q) [o] (act s) W) ∧ StepsD F n P ops D act inv (i + 1) rest
theorem StepsD.at_ {σ : Type} {ops : Array Oper} {D : (Nat → Bool) → Prop} {act : σ → Act} {inv : (Nat → Bool) → σ → World → Prop} : ∀ {l : List Oper} {k i : Nat} {o : Oper}, StepsD F n P ops D act inv k l → l[i]? = some o →
  ∀ L s W, L (k + i) = false → Waited L o.after.toList → D L → inv L s W → ∀ (K : Act → World → Prop) (Q : Exit → Act → World → Prop), (∀ s' W', inv (done L (k + i)) s' W' → K (act s') W') → wpListIn F n P ops (Exit.then K Q) [o] (act s) W
 | [], _, _, _, _, h => by simp at h
 | o' :: l, k, 0, o, hs, h => by simp at h; subst h; exact hs.1
 | o' :: l, k, i + 1, o, hs, h => by
  have := StepsD.at_ (i := i) hs.2 (by simpa using h)
  rwa [show k + 1 + i = k + (i + 1) by omega] at this

end
end Go.Proofs.Ytehgijdjnddfcaa
/- A region that draws its order, inside a fence, in a round or not: a head whose operations leave one value in every world of a class, and a tail that waits for the head: one walk of the lexical order serves. -/
namespace Go.Proofs.Ytehgijdjnddfcaa
open Go.RowKit

section
variable {F : Fence} {n : Nat} {P : Program} {ops : Array Oper} {md : Region.Mode} {C : World → Prop}

end

/-- Worlds of a class, as letters: what is known of each is a rule of the walk. -/
abbrev Cls {σ : Type} (of : σ → World) : World → Prop := fun W => ∃ z : σ, W = of z
end Go.Proofs.Ytehgijdjnddfcaa
/- A region that draws its order: a head whose operations are quiet but for one that lays a new block, and a tail that waits for the head. -/
namespace Go.Proofs.Ytehgijdjnddfcaa
open Go.RowKit

def dstAt (l : List Oper) (i : Nat) : Option Tmp := (l[i]?).bind (·.dst)
/-- The frame a0, the slots of the operations S set. -/
structure Desc (l : List Oper) (k : Nat) (val : Nat → Value) (a0 : Act) (S : Nat → Bool) (a : Act) : Prop where
 defers : a.defers = a0.defers
 size : a.tmps.size = a0.tmps.size
 set_ : ∀ i, i < k → S i = true → ∀ d, dstAt l i = some d → a.tmps.getD d undef = val i
 other : ∀ t, (∀ i, i < k → S i = true → dstAt l i ≠ some t) → a.tmps.getD t undef = a0.tmps.getD t undef

/-- Each operation of the head has a slot of its own. -/
def Own1 (l : List Oper) (k : Nat) : Prop := ∀ i, i < k → ∃ d, dstAt l i = some d ∧ ∀ i', i' < k → dstAt l i' = some d → i' = i

section
variable {l : List Oper} {k : Nat} {val : Nat → Value} {a0 a a' : Act} {S S' : Nat → Bool}
theorem getD_set_same (t : Array Value) (d : Nat) (v : Value) (h : d < t.size) : (t.setIfInBounds d v).getD d undef = v := by
 rw [Array.getD_eq_getD_getElem?, Array.getElem?_setIfInBounds_self_of_lt h]; rfl
theorem getD_set_other (t : Array Value) {d e : Nat} (v : Value) (h : d ≠ e) : (t.setIfInBounds d v).getD e undef = t.getD e undef := by
 rw [Array.getD_eq_getD_getElem?, Array.getElem?_setIfInBounds_ne h, ← Array.getD_eq_getD_getElem?]
theorem Desc.step (h : Desc l k val a0 S a) (ho : Own1 l k) {i : Nat} (hi : i < k) {d : Tmp} (hd : dstAt l i = some d) (hsz : d < a0.tmps.size) : Desc l k val a0 (done S i) (a.put (some d) (val i)) := by
 refine ⟨h.defers, by simp [Act.put, h.size], fun i' hi' hS d' hd' => ?_, fun t ht => ?_⟩
 ·by_cases e : i' = i
  ·subst e
   rw [hd] at hd'
   cases hd'
   exact getD_set_same _ _ _ (by rw [h.size]; exact hsz)
  ·have hne : d ≠ d' := by
    intro e'
    subst e'
    obtain ⟨d2, h1, h2⟩ := ho i hi
    rw [hd] at h1
    cases h1
    exact e (h2 i' hi' hd')
   rw [show (a.put (some d) (val i)).tmps = a.tmps.setIfInBounds d (val i) from rfl, getD_set_other _ _ hne]
   exact h.set_ i' hi' (by simpa [done, e] using hS) d' hd'
 ·have hne : d ≠ t := fun e => ht i hi (by simp [done]) (by rw [hd, e])
  rw [show (a.put (some d) (val i)).tmps = a.tmps.setIfInBounds d (val i) from rfl, getD_set_other _ _ hne]
  refine h.other t fun i' hi' hS => ht i' hi' ?_
  unfold done
  split
  ·rfl
  ·exact hS
theorem Desc.agree (h : Desc l k val a0 S a) (h' : Desc l k val a0 S' a') (ho : Own1 l k) (t : Tmp) (hS : ∀ i, i < k → dstAt l i = some t → S i = S' i) : a.tmps.getD t undef = a'.tmps.getD t undef := by
 by_cases hex : ∃ i, i < k ∧ dstAt l i = some t ∧ S i = true
 ·obtain ⟨i, hi, hd, hs⟩ := hex
  rw [h.set_ i hi hs t hd, h'.set_ i hi (by rw [← hS i hi hd]; exact hs) t hd]
 ·have hno : ∀ i, i < k → S i = true → dstAt l i ≠ some t := fun i hi hs hd => hex ⟨i, hi, hd, hs⟩
  rw [h.other t hno, h'.other t (fun i hi hs hd => hno i hi (by rw [hS i hi hd]; exact hs) hd)]
theorem Desc.eq (h : Desc l k val a0 S a) (h' : Desc l k val a0 S a') (ho : Own1 l k) : a = a' := by
 obtain ⟨t, d⟩ := a
 obtain ⟨t', d'⟩ := a'
 have e1 : d = d' := by have := h.defers; have := h'.defers; simp_all
 have e2 : t = t' := by
  have s1 : t.size = a0.tmps.size := h.size
  have s2 : t'.size = a0.tmps.size := h'.size
  apply Array.ext (by omega)
  intro i h1 h2
  have := h.agree h' ho i (fun _ _ _ => rfl)
  simpa [h1, h2] using this
 rw [e1, e2]
end

section
variable {F : Fence} {n : Nat} {P : Program} {ops : Array Oper} {o : Oper} {a a' : Act}
theorem eval_agree {x : Operand} (h : ∀ t, x = .tmp t → a.tmps.getD t undef = a'.tmps.getD t undef) : a.eval x = a'.eval x := by
 cases x with
 | tmp t => exact h t rfl
 | _ => rfl
theorem execOp_agree (hs : ∀ cs b, o.op ≠ .select cs b) (h : ∀ t ∈ o.looksAt ops, a.tmps.getD t undef = a'.tmps.getD t undef) : execOp a.eval o = execOp a'.eval o :=
 execOp_congr o hs fun x hx => eval_agree fun t e => h t (by
  subst e
  exact List.mem_append_left _ (List.mem_filterMap.2 ⟨.tmp t, by simpa using hx, rfl⟩))
theorem about_agree (w : World) (h : ∀ t ∈ o.looksAt ops, a.tmps.getD t undef = a'.tmps.getD t undef) : o.about P w a.eval = o.about P w a'.eval :=
 about_congr o w fun x hx => eval_agree fun t e => h t (by
  subst e
  exact List.mem_append_left _ (List.mem_filterMap.2 ⟨.tmp t, by simpa using hx, rfl⟩))
theorem wanted_agree (hz : a.tmps.size = a'.tmps.size) (h : ∀ t ∈ o.looksAt ops, a.tmps.getD t undef = a'.tmps.getD t undef) : Region.wanted o (yielded ops a.tmps) = Region.wanted o (yielded ops a'.tmps) := by
 unfold Region.wanted
 cases hg : o.guard with
 | none => rfl
 | some g =>
  obtain ⟨g, b⟩ := g
  have e : yielded ops a.tmps g = yielded ops a'.tmps g := by
   unfold yielded
   cases hd : (ops[g]?).bind (·.dst) with
   | none => rfl
   | some d =>
    have hm : d ∈ o.looksAt ops := by
     unfold Oper.looksAt
     rw [hg]
     exact List.mem_append_right _ (by simp [hd])
    have h1 := h d hm
    have h2 : a.tmps[d]? = a'.tmps[d]? := by
     rcases Nat.lt_or_ge d a.tmps.size with hlt | hge
     ·have hlt' : d < a'.tmps.size := by rw [← hz]; exact hlt
      simpa [hlt, hlt'] using h1
     ·have hge' : a'.tmps.size ≤ d := by rw [← hz]; exact hge
      rw [Array.getElem?_eq_none hge, Array.getElem?_eq_none hge']
    simp [h2]
  simp only [e]
end

section
variable {F : Fence} {n : Nat} {P : Program} {Q : Exit → Act → World → Prop} {l : List Oper} {k j : Nat}
end
end Go.Proofs.Ytehgijdjnddfcaa
/- A region that draws its order: quiet operations, one that lays a new block (or none), and effects one behind the other; quiet ones may come late. -/
namespace Go.Proofs.Ytehgijdjnddfcaa
open Go.RowKit

section
variable {F : Fence} {n : Nat} {P : Program} {l : List Oper} {qs es : List Nat} {j : Nat}
/-- The frame with the slots of the quiet operations S set. -/
structure DescM (l : List Oper) (qs : List Nat) (val : Nat → Value) (a0 : Act) (S : Nat → Bool) (a : Act) : Prop where
 defers : a.defers = a0.defers
 size : a.tmps.size = a0.tmps.size
 set_ : ∀ i ∈ qs, S i = true → ∀ d, dstAt l i = some d → a.tmps.getD d undef = val i
 other : ∀ t, (∀ i ∈ qs, S i = true → dstAt l i ≠ some t) → a.tmps.getD t undef = a0.tmps.getD t undef
def OwnQ (l : List Oper) (qs : List Nat) : Prop := ∀ i ∈ qs, ∃ d, dstAt l i = some d ∧ ∀ i' ∈ qs, dstAt l i' = some d → i' = i
section
variable {val : Nat → Value} {a0 a a' : Act} {S S' : Nat → Bool}
theorem DescM.step (h : DescM l qs val a0 S a) (ho : OwnQ l qs) {i : Nat} (hi : i ∈ qs) {d : Tmp} (hd : dstAt l i = some d) (hsz : d < a0.tmps.size) : DescM l qs val a0 (done S i) (a.put (some d) (val i)) := by
 refine ⟨h.defers, by simp [Act.put, h.size], fun i' hi' hS d' hd' => ?_, fun t ht => ?_⟩
 ·by_cases e : i' = i
  ·subst e
   rw [hd] at hd'
   cases hd'
   exact getD_set_same _ _ _ (by rw [h.size]; exact hsz)
  ·have hne : d ≠ d' := by
    intro e'
    subst e'
    obtain ⟨d2, h1, h2⟩ := ho i hi
    rw [hd] at h1
    cases h1
    exact e (h2 i' hi' hd')
   rw [show (a.put (some d) (val i)).tmps = a.tmps.setIfInBounds d (val i) from rfl, getD_set_other _ _ hne]
   exact h.set_ i' hi' (by simpa [done, e] using hS) d' hd'
 ·have hne : d ≠ t := fun e => ht i hi (by simp [done]) (by rw [hd, e])
  rw [show (a.put (some d) (val i)).tmps = a.tmps.setIfInBounds d (val i) from rfl, getD_set_other _ _ hne]
  refine h.other t fun i' hi' hS => ht i' hi' ?_
  unfold done
  split
  ·rfl
  ·exact hS
end

/-- By a mask. -/
def pickB : List Oper → List Bool → List Oper
 | o :: l, true :: bs => o :: pickB l bs
 | _ :: l, false :: bs => pickB l bs
 | _, _ => []
end
end Go.Proofs.Ytehgijdjnddfcaa
/- A region that draws its order: quiet operations, calls that make memory (a chain, each with what it hands back), one that lays a new block (or none), and effects at the end. One walk by stages serves. -/
namespace Go.Proofs.Ytehgijdjnddfcaa
open Go.RowKit

/-- A frame: S's slots as in A, the others as in 'base'. -/
structure Mixed (l : List Oper) (S : Nat → Prop) (A base a : Act) : Prop where
 defers : a.defers = base.defers
 size : a.tmps.size = base.tmps.size
 in_ : ∀ i, S i → ∀ t, dstAt l i = some t → a.tmps.getD t undef = A.tmps.getD t undef
 out : ∀ t, (∀ i, S i → dstAt l i ≠ some t) → a.tmps.getD t undef = base.tmps.getD t undef

section
variable {F : Fence} {n : Nat} {P : Program} {l : List Oper}
section
variable {S S' : Nat → Prop} {A A' base a : Act}
theorem Mixed.nil (h : ∀ i, ¬ S i) : Mixed l S A base base := ⟨rfl, rfl, fun i hi => absurd hi (h i), fun _ _ => rfl⟩
theorem Mixed.congr (h : Mixed l S A base a) (hS : ∀ i, S i ↔ S' i) : Mixed l S' A base a := ⟨h.defers, h.size, fun i hi => h.in_ i ((hS i).2 hi), fun t ht => h.out t fun i hi => ht i ((hS i).1 hi)⟩
/-- One more. -/
theorem Mixed.step (h : Mixed l S A base a) {i : Nat} {d : Tmp} (hd : dstAt l i = some d) (hu : ∀ i', S i' → dstAt l i' = some d → i' = i) (hsz : d < base.tmps.size) : Mixed l (fun k => S k ∨ k = i) A base (a.put (some d) (A.tmps.getD d undef)) := by
 have hp : (a.put (some d) (A.tmps.getD d undef)).tmps = a.tmps.setIfInBounds d (A.tmps.getD d undef) := rfl
 refine ⟨h.defers, by rw [hp]; simpa using h.size, fun k hk t ht => ?_, fun t ht => ?_⟩
 ·by_cases e : t = d
  ·subst e
   rw [hp, getD_set_same _ _ _ (by rw [h.size]; exact hsz)]
  ·rw [hp, getD_set_other _ _ (Ne.symm e)]
   rcases hk with hk | rfl
   ·exact h.in_ k hk t ht
   ·rw [hd] at ht; exact absurd (Option.some.inj ht).symm e
 ·have e : d ≠ t := fun e => ht i (.inr rfl) (by rw [hd, e])
  rw [hp, getD_set_other _ _ e]
  exact h.out t fun k hk => ht k (.inl hk)
/-- Two of them, one on the other. -/
theorem Mixed.trans (h : Mixed l S A' A a) (k : Mixed l S' A' base A) : Mixed l (fun i => S i ∨ S' i) A' base a := by
 refine ⟨h.defers.trans k.defers, h.size.trans k.size, fun i hi t ht => ?_, fun t ht => ?_⟩
 ·by_cases hex : ∃ i', S i' ∧ dstAt l i' = some t
  ·obtain ⟨i', h1, h2⟩ := hex
   exact h.in_ i' h1 t h2
  ·rw [h.out t (fun i' h1 h2 => hex ⟨i', h1, h2⟩)]
   rcases hi with hi | hi
   ·exact absurd ⟨i, hi, ht⟩ hex
   ·exact k.in_ i hi t ht
 ·rw [h.out t (fun i hi => ht i (.inl hi))]
  exact k.out t fun i hi => ht i (.inr hi)
end

/-- What asks nothing of the world yields its value in every world. -/
def YieldsAll (F : Fence) (P : Program) (ops : Array Oper) (o : Oper) (v : Value) (a : Act) : Prop :=
 (∀ W f, o.about P W a.eval = some f → F.fn f) ∧ ((Region.wanted o (yielded ops a.tmps) = true ∧ ∀ W, (execOp a.eval o).run P W = .ok (.value v) W) ∨ (Region.wanted o (yielded ops a.tmps) = false ∧ v = undef))
theorem YieldsAll.agree {ops : Array Oper} {o : Oper} {v : Value} {a a' : Act} (hy : YieldsAll F P ops o v a) (hs : ∀ cs b, o.op ≠ .select cs b) (hz : a.tmps.size = a'.tmps.size) (h : ∀ t ∈ o.looksAt ops, a.tmps.getD t undef = a'.tmps.getD t undef) : YieldsAll F P ops o v a' := by
 unfold YieldsAll at hy ⊢
 rw [← execOp_agree hs h, ← wanted_agree hz h]
 exact ⟨fun W f hf => hy.1 W f (by rw [about_agree W h]; exact hf), hy.2⟩
end
end Go.Proofs.Ytehgijdjnddfcaa
/- The law of a drawn region by stages. -/
namespace Go.Proofs.Ytehgijdjnddfcaa
open Go.RowKit

/-- A class of worlds above V that is shut under growth. -/
def Good (V : World) (C : World → Prop) : Prop := (∃ W, C W) ∧ (∀ W, C W → Below V.heap.size V W) ∧ ∀ W W', C W → Below W.heap.size W W' → C W'
theorem Good.above (V : World) : Good V fun W => Below V.heap.size V W := ⟨⟨V, Below.refl _ _⟩, fun _ h => h, fun _ _ h k => h.trans (k.mono h.size)⟩
section
variable {F : Fence} {n : Nat} {P : Program} {l : List Oper}
/-- Quiet operations, in whatever world above V. -/
def Quietly (F : Fence) (n : Nat) (P : Program) (l : List Oper) (V : World) (qs : List Oper) (a A : Act) : Prop :=
 ∀ (σ : Type) (_ : Nonempty σ) (of : σ → World), (∀ z, Below V.heap.size V (of z)) → (∀ z W', Below (of z).heap.size (of z) W' → Cls of W') → wpQuietIn F n P l.toArray (Cls of) (fun a2 => a2 = A) qs a
theorem Quietly.none {V : World} {a : Act} : Quietly F n P l V (pickB l []) a a := fun _ _ _ _ _ => by cases l <;> exact rfl

section
variable {xs ws es : List Nat} {j : Nat} {a0 : Act} {tail : List (Nat × Nat) → World → Act → Prop} {fin : List Bool}
end

end
end Go.Proofs.Ytehgijdjnddfcaa
/- One law on append, whatever its source; slices that a call owns. -/
namespace Go.Proofs.Ytehgijdjnddfcaa
open Go.RowKit

/-- The slice type t over elements e: zero value z, 'size' cells, 'bytes' bytes. -/
structure ElemI (P : Program) (t e : TypeId) (i : TypeInfo) (z : Value) (size bytes : Nat) : Prop where
 und : P.underlying t = some (.slice e)
 info : P.info? e = some i
 zero : i.zero = some z
 isize : i.size = size
 ibytes : i.bytes = bytes
 zcells : z.cells.size = size
 pos : 0 < size

def ElemAt (P : Program) (t e : TypeId) (z : Value) (size bytes : Nat) : Prop := ∃ i, ElemI P t e i z size bytes

/-- The call owns the slice (A, n, cap), which holds the cells xs. -/
def Own (w : World) (base : Nat) (e : TypeId) (size : Nat) (A : Option Addr) (n cap : Nat) (xs : List Value) : Prop := w.ownsRow base e size (.slice A n cap) n xs

section
variable {w w' : World} {base n cap size : Nat} {e : TypeId} {A : Option Addr} {xs : List Value}
theorem Own.none_ (w : World) (base : Nat) (e : TypeId) (size : Nat) : Own w base e size none 0 0 [] := World.ownsRow_nil w base e size
theorem Own.form (h : Own w base e size A n cap xs) : (A = none ∧ n = 0 ∧ cap = 0 ∧ xs = []) ∨ ∃ g cur, A = some ⟨g, 0, none⟩ ∧ base ≤ g ∧ Blk w g e cur ∧ n ≤ cap ∧ cap ≤ maxLen ∧ cur.size = cap * size ∧ cur.toList.take (n * size) = xs ∧ xs.length = n * size := by
 rcases h.2 with ⟨hv, h0⟩ | ⟨g, cap', cur, hv, hb, hg, h1, h2, h3, h4⟩
 ·simp at hv
  obtain ⟨rfl, rfl, rfl⟩ := hv
  exact .inl ⟨rfl, rfl, rfl, List.eq_nil_of_length_eq_zero (by simpa using h.1)⟩
 ·simp at hv
  obtain ⟨rfl, rfl⟩ := hv
  exact .inr ⟨g, cur, rfl, hb, hg, h1, h2, h3, h4, h.1⟩
theorem Own.len (h : Own w base e size A n cap xs) : xs.length = n * size := h.1
theorem Own.cap_le (h : Own w base e size A n cap xs) : n ≤ cap ∧ cap ≤ maxLen := by
 rcases h.form with ⟨_, rfl, rfl, _⟩ | ⟨_, _, _, _, _, h1, h2, _⟩
 ·exact ⟨Nat.le_refl _, by unfold maxLen; omega⟩
 ·exact ⟨h1, h2⟩
theorem Own.reads (h : Own w base e size A n cap xs) {B : Nat} (hB : w.heap.size ≤ B) : Reads w B size A n xs := by
 rcases h.form with ⟨rfl, rfl, rfl, rfl⟩ | ⟨g, cur, rfl, hb, hg, h1, h2, h3, h4, h5⟩
 ·exact Reads.none_
 ·refine ⟨h5, fun _ => ⟨_, rfl, Nat.lt_of_lt_of_le hg.lt hB, fun j u hu => ?_⟩⟩
  have ha : ((⟨g, 0, none⟩ : Addr).add j) = ⟨g, j, none⟩ := by
   unfold Addr.add
   by_cases hj : j = 0
   ·simp [hj]
   ·simp [hj]
  have hj : j < n * size := by
   rw [← h5]
   exact (List.getElem?_eq_some_iff.1 hu).1
  rw [ha, hg.cell, ← Array.getElem?_toList, ← hu, ← h4, List.getElem?_take, if_pos hj]
theorem Own.mono (h : Own w base e size A n cap xs) {b' : Nat} (hb : b' ≤ base) : Own w b' e size A n cap xs := by
 refine ⟨h.1, ?_⟩
 rcases h.2 with h' | ⟨g, cap', cur, hv, hb', hr⟩
 ·exact .inl h'
 ·exact .inr ⟨g, cap', cur, hv, Nat.le_trans hb hb', hr⟩
theorem Own.alloc (h : Own w base e size A n cap xs) (o : Obj) : Own (w.alloc o) base e size A n cap xs := World.ownsRow.alloc h o
theorem Own.drewN (h : Own w base e size A n cap xs) (k : Nat) : Own (w.drewN k) base e size A n cap xs := h
theorem Own.below {B : Nat} (h : Own w base e size A n cap xs) (hb : Below B w w') (hB : w.heap.size ≤ B) : Own w' base e size A n cap xs := by
 refine ⟨h.1, ?_⟩
 rcases h.2 with h' | ⟨g, cap', cur, hv, hb', hg, hr⟩
 ·exact .inl h'
 ·have hl : g < w.heap.size := by
   rcases Nat.lt_or_ge g w.heap.size with hlt | hge
   ·exact hlt
   ·rw [Array.getElem?_eq_none hge] at hg; cases hg
  exact .inr ⟨g, cap', cur, hv, hb', (hb.block g (by omega)).trans hg, hr⟩
/-- The own block, if there is one. -/
theorem Own.lt (h : Own w base e size A n cap xs) {a : Addr} (ha : A = some a) : base ≤ a.block ∧ a.block < w.heap.size := by
 rcases h.form with ⟨rfl, _⟩ | ⟨g, cur, rfl, hb, hg, _⟩
 ·cases ha
 ·cases ha; exact ⟨hb, hg.lt⟩
theorem Own.nil (h : Own w base e size none n cap xs) : n = 0 ∧ cap = 0 ∧ xs = [] := by
 rcases h.form with ⟨_, h1, h2, h3⟩ | ⟨g, cur, h', _⟩
 ·exact ⟨h1, h2, h3⟩
 ·cases h'
end

theorem ownBlock_slice (A : Option Addr) (n cap : Nat) : (Value.slice A n cap).ownBlock = A.map (·.block) := by
 cases A <;> rfl

section
variable {P : Program} (w : World)
/-- THE LAW ON append: the source may be nil, empty, or hold cells. -/
theorem run_append_any {t e : TypeId} (ty : TypeId) {z : Value} {size bytes : Nat} (EE : ElemAt P t e z size bytes) {base : Nat} {A : Option Addr} {n cap : Nat} {xs : List Value} (hown : Own w base e size A n cap xs)
  {A2 : Option Addr} {m c B : Nat} {news : List Value} (hR : Reads w B size A2 m news) (h1 : ∀ u ∈ news, u.oneCell' = true) (h63 : n + m ≤ maxLen) (hbytes : (n + m) * bytes ≤ 140737488355328) (hbase : base ≤ w.heap.size) :
  ∃ A' cap' w', (Builtin.append_ #[t, t] ty #[.slice A n cap, .slice A2 m c]).run P w = .ok (.slice A' (n + m) cap') w' ∧ Own w' base e size A' (n + m) cap' (xs ++ news) ∧ w.grownBy w' (A.map (·.block)) ∧ (A' = A ∨ A' = some ⟨w.heap.size, 0, none⟩) := by
 obtain ⟨i, E⟩ := EE
 have main : ∀ (ad : Addr), (∀ j u, news[j]? = some u → w.cell? (ad.add j) = some u) → ∃ A' cap' w', (Builtin.append_ #[t, t] ty #[.slice A n cap, .slice (some ad) m c]).run P w = .ok (.slice A' (n + m) cap') w' ∧ Own w' base e size A' (n + m) cap' (xs ++ news) ∧ w.grownBy w' (A.map (·.block)) ∧ (A' = A ∨ A' = some ⟨w.heap.size, 0, none⟩) := by
  intro ad hc
  obtain ⟨v', w', hr, h2, h3, h4, h5⟩ := run_append_own_at (P := P) w base t ty e i z size bytes E.und E.info E.zero E.isize E.ibytes E.zcells E.pos _ n xs hown ad m c news hR.1 hc h1 h63 hbytes hbase
  rw [ownBlock_slice] at h3
  rcases h2.2 with ⟨hv, h0⟩ | ⟨g, cap', cur, hv, hb, hg, _⟩
  ·subst hv
   have hn : n = 0 := by omega
   have hm : m = 0 := by omega
   have hA := (h4.1 rfl).1
   simp at hA
   obtain ⟨rfl, rfl, rfl⟩ := hA
   subst hm
   exact ⟨none, 0, w', hr, h2, h3, .inl rfl⟩
  ·subst hv
   refine ⟨_, cap', w', hr, h2, h3, ?_⟩
   rcases hown.form with ⟨rfl, rfl, rfl, _⟩ | ⟨g', cur', rfl, _⟩
   ·right
    rcases h5 with h5 | h5
    ·simp [Value.ownBlock] at h5
    ·simp [Value.ownBlock] at h5; rw [h5]
   ·rcases h5 with h5 | h5
    ·left; simp [Value.ownBlock] at h5; rw [h5]
    ·right; simp [Value.ownBlock] at h5; rw [h5]
 cases A2 with
 | some ad =>
  refine main ad ?_
  rcases Nat.eq_zero_or_pos m with h0 | h0
  ·have : news = [] := List.eq_nil_of_length_eq_zero (by rw [hR.1, h0]; simp)
   intro j u hu
   rw [this] at hu; simp at hu
  ·obtain ⟨ad', hA, _, hc⟩ := hR.2 h0
   cases hA
   exact hc
 | none =>
  rcases Nat.eq_zero_or_pos m with h0 | h0
  ·subst h0
   have hne : news = [] := List.eq_nil_of_length_eq_zero (by rw [hR.1]; simp)
   subst hne
   have hn : n ≤ cap := (Own.cap_le hown).1
   refine ⟨A, cap, w, ?_, by simpa using hown, ⟨rfl, rfl, rfl, Nat.le_refl _, fun _ _ _ => rfl⟩, .inl rfl⟩
   rcases hown.form with ⟨rfl, rfl, rfl, _⟩ | ⟨g, cur, rfl, _⟩
   ·simp [Builtin.append_, run_underlying E.und, sizeOf, typeInfo, E.info, Builtin.lenOf, Builtin.firstCells]
   ·simp [Builtin.append_, run_underlying E.und, sizeOf, typeInfo, E.info, Builtin.lenOf, Builtin.firstCells, hn, storeCells]
  ·obtain ⟨ad', hA, _⟩ := hR.2 h0
   cases hA

/-- At the operation, for the walk. -/
theorem wpList_append_any {ops : Array Oper} {rest : List Oper} {o : Oper} {a : Act} {Q : Exit → Act → World → Prop} (hgd : o.guard = none) (s x : Operand) {t e : TypeId}
  (ho : o.op = .call { callee := .builtin .append, args := #[s, x], argTypes := #[t, t] })
  {z : Value} {size bytes : Nat} (EE : ElemAt P t e z size bytes) {base : Nat} {A : Option Addr} {n cap : Nat} {xs : List Value} (hs : a.eval s = .slice A n cap) (hown : Own w base e size A n cap xs)
  {A2 : Option Addr} {m c B : Nat} {news : List Value} (hx : a.eval x = .slice A2 m c) (hR : Reads w B size A2 m news) (h1 : ∀ u ∈ news, u.oneCell' = true) (h63 : n + m ≤ maxLen) (hbytes : (n + m) * bytes ≤ 140737488355328) (hbase : base ≤ w.heap.size)
  (h : ∀ A' cap' w', Own w' base e size A' (n + m) cap' (xs ++ news) → w.grownBy w' (A.map (·.block)) → (A' = A ∨ A' = some ⟨w.heap.size, 0, none⟩) → wpList P ops Q rest (a.put o.dst (.slice A' (n + m) cap')) w') :
  wpList P ops Q (o :: rest) a w := by
 refine wpList_plain hgd fun K hK => ?_
 obtain ⟨A', cap', w', hr, h2, h3, h4⟩ := run_append_any (P := P) w o.type EE hown hR (c := c) h1 h63 hbytes hbase
 unfold Oper.wp execOp
 simp only [ho, resolve, invoke, builtin, Sem.run_bind, Sem.run_pure, Result.andThen_ok, List.map_toArray, List.map_cons, List.map_nil, hs, hx, hr]
 exact hK _ _ (h A' cap' w' h2 h3 h4)
end

theorem info_int : (Try.prog.info? 3).map (fun i => (i.zero, i.size, i.bytes)) = some (some (.int .i64 0), 1, 8) := by kernel_rfl
theorem elem_int : ElemAt Try.prog 36 3 (.int .i64 0) 1 8 := by
 obtain ⟨i0, hi, hz0, hz1, hz2⟩ := info_parts info_int
 exact ⟨i0, Try.underlying36, hi, hz0, hz1, hz2, rfl, by decide⟩
theorem ints_one (l : List Int) : ∀ u ∈ l.map (Value.int .i64), u.oneCell' = true := by
 intro u hu; simp at hu; obtain ⟨x, _, rfl⟩ := hu; rfl
end Go.Proofs.Ytehgijdjnddfcaa
/- Writing many cells of a block; what else lies as it lay. -/
namespace Go.Proofs.Ytehgijdjnddfcaa
open Go.RowKit

section
variable {w w' w2 : World} {g : Nat} {t : TypeId} {cs : Array Value}
theorem Blk.drew (h : Blk w g t cs) : Blk w.drew g t cs := h
theorem grown_refl (w : World) (row : Option Nat) : w.grownBy w row := ⟨rfl, rfl, rfl, Nat.le_refl _, fun _ _ _ => rfl⟩
theorem grown_trans {row : Option Nat} (h : w.grownBy w' row) (k : w'.grownBy w2 row) : w.grownBy w2 row :=
 ⟨k.os.trans h.os, k.tape.trans h.tape, k.output.trans h.output, Nat.le_trans h.size k.size, fun i hi hr => (k.block i (Nat.lt_of_lt_of_le hi h.size) hr).trans (h.block i hi hr)⟩
theorem grown_below {row : Option Nat} (h : w.grownBy w' row) (k : Below w'.heap.size w' w2) : w.grownBy w2 row :=
 ⟨k.os.trans h.os, k.tape.trans h.tape, k.output.trans h.output, Nat.le_trans h.size k.size, fun i hi hr => (k.block i (Nat.lt_of_lt_of_le hi h.size)).trans (h.block i hi hr)⟩
theorem grown_alloc {row : Option Nat} (h : w.grownBy w' row) (o : Obj) : w.grownBy (w'.alloc o) row := grown_below h ((Below.refl _ _).alloc (Nat.le_refl _) _)
theorem grown_setCell {row : Option Nat} (h : w.grownBy w' row) {p : Addr} (hp : some p.block = row ∨ w.heap.size ≤ p.block) (u : Value) : w.grownBy (w'.setCell p u) row :=
 ⟨h.os, h.tape, h.output, by have := h.size; simpa [World.setCell] using this, fun i hi hr => (Below.heap_setCell w' p u i (by
  intro e
  subst e
  rcases hp with hp | hp
  ·exact hr hp
  ·omega)).trans (h.block i hi hr)⟩
theorem below_of_grown {B : Nat} {row : Option Nat} (h : w.grownBy w' row) (hr : ∀ k, row = some k → B ≤ k) (hB : B ≤ w.heap.size) : Below B w w' :=
 (Below.refl B w).grown h hB hr
theorem Reads.grown {B size n : Nat} {A : Option Addr} {xs : List Value} {row : Option Nat} (h : Reads w B size A n xs) (hg : w.grownBy w' row) (hB : B ≤ w.heap.size) (hr : ∀ a, A = some a → some a.block ≠ row) : Reads w' B size A n xs :=
 ⟨h.1, fun hn => by
  obtain ⟨ad, e, hb, hc⟩ := h.2 hn
  exact ⟨ad, e, hb, fun j u hu => by
   rw [← hc j u hu]
   exact World.cell?_of_block (hg.block _ (by rw [block_of_add]; omega) (by rw [block_of_add]; exact hr ad e))⟩⟩
theorem Own.grown {base n cap size : Nat} {e : TypeId} {A : Option Addr} {xs : List Value} {row : Option Nat} (h : Own w base e size A n cap xs) (hg : w.grownBy w' row) (hr : ∀ a, A = some a → some a.block ≠ row) : Own w' base e size A n cap xs := by
 refine ⟨h.1, ?_⟩
 rcases h.2 with h' | ⟨g, cap', cur, hv, hb, hgb, hrest⟩
 ·exact .inl h'
 ·have hl : g < w.heap.size := (Array.getElem?_eq_some_iff.1 hgb).1
  simp at hv
  exact .inr ⟨g, cap', cur, by simp [hv], hb, (hg.block g hl (by have := hr _ hv.1; simpa using this)).trans hgb, hrest⟩
end

end Go.Proofs.Ytehgijdjnddfcaa
/- What lies in memory, block by block. -/
namespace Go.Proofs.Ytehgijdjnddfcaa
open Go.RowKit

/-- Below w's end all is as in w; and these blocks lie behind it. -/
def Lay (w W : World) (bs : List (Nat × TypeId × Array Value)) : Prop := Below w.heap.size w W ∧ ∀ b ∈ bs, w.heap.size ≤ b.1 ∧ Blk W b.1 b.2.1 b.2.2
section
variable {w W W' : World} {bs : List (Nat × TypeId × Array Value)}
theorem Lay.nil (w : World) : Lay w w [] := ⟨Below.refl _ _, fun b hb => by simp at hb⟩
theorem Lay.bel (h : Lay w W bs) : Below w.heap.size w W := h.1
theorem Lay.below (h : Lay w W bs) (hb : Below W.heap.size W W') : Lay w W' bs := ⟨h.1.trans (hb.mono h.1.size), fun b k => ⟨(h.2 b k).1, (h.2 b k).2.below hb (h.2 b k).2.lt⟩⟩
theorem Lay.blk (h : Lay w W bs) (i : Nat) {g : Nat} {t : TypeId} {cs : Array Value} (hi : bs[i]? = some (g, t, cs)) : Blk W g t cs := (h.2 _ (List.mem_of_getElem? hi)).2
theorem Lay.lt (h : Lay w W bs) (i : Nat) {g : Nat} {t : TypeId} {cs : Array Value} (hi : bs[i]? = some (g, t, cs)) : g < W.heap.size := (h.blk i hi).lt
theorem Lay.alloc (h : Lay w W bs) (t : TypeId) (cs : Array Value) : Lay w (W.alloc (.cells cs t)) (bs ++ [(W.heap.size, t, cs)]) := by
 have hb : Below W.heap.size W (W.alloc (.cells cs t)) := (Below.refl _ _).alloc (Nat.le_refl _) _
 refine ⟨(h.below hb).1, fun b k => ?_⟩
 rcases List.mem_append.1 k with k | k
 ·exact (h.below hb).2 b k
 ·obtain rfl := List.mem_singleton.1 k
  exact ⟨h.1.size, Blk.new W t cs⟩
/-- One more block that is known. -/
theorem Lay.add (h : Lay w W bs) {g : Nat} {t : TypeId} {cs : Array Value} (hg : w.heap.size ≤ g) (hb : Blk W g t cs) : Lay w W (bs ++ [(g, t, cs)]) := ⟨h.1, fun b k => by
 rcases List.mem_append.1 k with k | k
 ·exact h.2 b k
 ·obtain rfl := List.mem_singleton.1 k
  exact ⟨hg, hb⟩⟩
end
theorem Lay.one (w : World) (t : TypeId) (X : Array Value) : Lay w (w.alloc (.cells X t)) [(w.heap.size, t, X)] := (Lay.nil w).alloc t X
theorem Lay.two (w : World) (t : TypeId) (X : Array Value) (t2 : TypeId) (X2 : Array Value) : Lay w ((w.alloc (.cells X t)).alloc (.cells X2 t2)) [(w.heap.size, t, X), (w.heap.size + 1, t2, X2)] := by
 have h := (Lay.one w t X).alloc t2 X2
 rwa [World.size_alloc] at h
theorem Lay.drewN {w W : World} {bs : List (Nat × TypeId × Array Value)} (h : Lay w W bs) (k : Nat) : Lay w (W.drewN k) bs := ⟨below_drewN h.1 k, h.2⟩

end Go.Proofs.Ytehgijdjnddfcaa
/- The answer's number and Number. -/
namespace Go.Proofs.Ytehgijdjnddfcaa
open Go.RowKit

theorem cv_one (W : World) (g : Nat) (x : Int) (h : W.cell? ⟨g, 0, none⟩ = some (.int .u8 x)) :
  (convert 56 9 (.slice (some ⟨g, 0, none⟩) 1 1)).run Try.prog W = .ok (.string (ByteArray.empty.push (UInt8.ofNat x.toNat))) W := by
 rw [run_convert_bytes_string W _ _ _ _ 1 1 Try.underlying56 Try.underlying5 Try.underlying9]
 refine run_bytesToString W ⟨g, 0, none⟩ 1 1 [x] ?_
 exact run_loadCells_list (P := Try.prog) W ⟨g, 0, none⟩ [.int .u8 x] (fun j v hj => by
  match j, hj with
  | 0, hj => simp at hj; subst hj; simpa [Addr.add] using h)
/-- The bytes of a number, as a string. -/
def encS (n : Nat) : ByteArray := ⟨(encN n).toArray⟩
theorem push_list (b : UInt8) : ByteArray.empty.push b = ⟨#[b]⟩ := rfl
theorem encS_small {n : Nat} (h : n < 128) : ByteArray.empty.push (UInt8.ofNat n) = encS n := by
 unfold encS
 rw [encN_small h]
 rfl
theorem encS_more {n : Nat} (h : ¬ n < 128) : ByteArray.empty.push (UInt8.ofNat (128 + n % 128)) ++ encS (n / 128) = encS n := by
 have e : encN n = UInt8.ofNat (128 + n % 128) :: encN (n / 128) := encN_more h
 unfold encS
 rw [e]
 apply ByteArray.ext
 rw [push_list, ByteArray.data_append]
 simp
theorem encN_len (m : Nat) : (encN m).length ≤ m + 1 := by
 induction m using Nat.strongRecOn with
 | ind m ih =>
  by_cases h : m < 128
  ·rw [encN_small h]; simp
  ·have := ih (m / 128) (by omega)
   rw [encN_more h, List.length_cons]
   omega
theorem encS_len (m : Nat) : (encS m).size ≤ m + 1 := by
 have := encN_len m
 unfold encS
 simpa [ByteArray.size] using this
set_option maxRecDepth 100000 in
set_option maxHeartbeats 4000000 in
theorem rnumber_any (n : Nat) : n ≤ 999999999 → ∀ (w : World), Calls Try.prog 25 #[.int .i64 (n : Int)] w fun e w' => e = .returned (.string (encS n)) ∧ Below w.heap.size w w' := by
 induction n using Nat.strongRecOn with
 | ind n ih =>
  intro hn w
  have hcv := cv_one
  by_cases h : n < 128
  ·have hd : decide ((n : Int) < 128) = true := by simp; omega
   clear ih
   go_enter Try.func25, Try.ntmps25
   go_wp2_with fail
   exact bodyPost_ret (v := .string (ByteArray.empty.push (UInt8.ofNat n))) (by simp [results, Try.results25, go_sem]) rfl ⟨by rw [encS_small h], (Below.refl _ _).alloc (Nat.le_refl _) _⟩
  ·have hd : decide ((n : Int) < 128) = false := by simp; omega
   have IH := Lib.hid (ih (n / 128) (by omega) (by omega))
   have HQ := Lib.hid (show IntKind.i64.wrap ((n : Int) / 128) = ((n / 128 : Nat) : Int) from (IntWalk.i64_in _ (by omega)).trans (by omega))
   have HU := Lib.hid (show UInt8.ofNat (IntKind.u8.wrap (IntKind.i64.wrap (128 + (n : Int).tmod 128))).toNat = UInt8.ofNat (128 + n % 128) from by
    have e : (n : Int).tmod 128 = ((n % 128 : Nat) : Int) := by rw [Int.tmod_eq_emod_of_nonneg (by omega)]; omega
    rw [e, IntWalk.i64_in _ (by omega), IntWalk.u8_in _ (by omega)]
    congr 1)
   have hsz : ¬ 9223372036854775807 < 1 + (encS (n / 128)).size := by have := encS_len (n / 128); omega
   clear ih
   go_enter Try.func25, Try.ntmps25
   go_upto_region 3 with fail
   go_region_with (first
    | (go_at_call 25; with_reducible (show Calls _ _ _ (World.drew (World.alloc _ _)) _); rw [HQ.out]; refine (IH.out _).mono ?_; rintro e w2 ⟨rfl, hb⟩; have hc8 : w2.cell? ⟨w.heap.size, 0, none⟩ = some (.int .u8 (IntKind.u8.wrap (IntKind.i64.wrap (128 + (n : Int).tmod 128)))) := (hb.cell (p := ⟨w.heap.size, 0, none⟩) (by simp)).trans (by simp [go_sem]))
    | (go_at_call 25; rw [HQ.out]; refine (IH.out _).mono ?_; rintro e w2 ⟨rfl, hb⟩))
   all_goals go_wp2_with fail
   all_goals rw [HU.out, encS_more h]
   all_goals refine bodyPost_ret (v := .string (encS n)) (by simp [results, Try.results25, go_sem]) rfl ⟨rfl, ?_⟩
   ·exact (below_drewN ((Below.refl w.heap.size w).alloc (Nat.le_refl _) _) 1).trans (hb.mono (by simp))
   ·exact (below_drewN ((Below.refl w.heap.size w).alloc (Nat.le_refl _) _) 1).trans (hb.mono (by simp))
   ·exact ((below_drewN (Below.refl w.heap.size w) 1).trans hb).alloc hb.size _
theorem rNumber_any (n : Int) (w : World) : Calls Try.prog 11 #[.int .i64 n] w fun e w' => e = .returned (if 0 ≤ n ∧ n ≤ 999999999 then .tuple #[.string (encS n.toNat), .int .i64 0] else .tuple #[.string ⟨#[]⟩, .int .i64 110]) ∧ Below w.heap.size w w' := by
 by_cases h0 : n < 0
 ·rw [if_neg (by omega)]
  go_enter Try.func11, Try.ntmps11
  go_wp2_with fail
  go_ret2
  exact ⟨rfl, Below.refl _ _⟩
 ·have d0 : decide (n < 0) = false := by simp; omega
  by_cases h1 : 999999999 < n
  ·rw [if_neg (by omega)]
   go_enter Try.func11, Try.ntmps11
   go_wp2_with fail
   go_ret2
   exact ⟨rfl, Below.refl _ _⟩
  ·rw [if_pos (by omega)]
   have d1 : decide (999999999 < n) = false := by simp; omega
   obtain ⟨k, rfl⟩ : ∃ k : Nat, n = k := ⟨n.toNat, by omega⟩
   go_enter Try.func11, Try.ntmps11
   go_wp2_with fail
   refine (rnumber_any k (by omega) w).mono ?_
   rintro e w1 ⟨rfl, hb⟩
   go_wp2_with fail
   go_ret2
   exact ⟨rfl, hb⟩
end Go.Proofs.Ytehgijdjnddfcaa
/- A range over a function whose iterator lays what it yields: the contract tells the body what lies there; the body never leaves the loop. -/
namespace Go.Proofs.Ytehgijdjnddfcaa
open Go.RowKit

/-- The iterator g yields things x (encs x), each with 'At x'; a round keeps what Kp says; what has come in all is S. -/
def SeqAt {α : Type} (F : Fence) (n : Nat) (P : Program) (g : Nat) (lb : Array Value) (encs : α → Array Value) (At : α → World → Prop) (Kp : World → World → Prop) (S : List α → Prop) (w : World) : Prop :=
 ∀ (l : Nat) (J : List α → World → Prop) (W : World), Below w.heap.size w W → (∀ s A B, J s A → Below A.heap.size A B → J s B) →
  (∀ pre x W1, J pre W1 → At x W1 → YieldAt F (n - 1) P l (encs x) W1 fun e W' => e = .returned (.bool true) ∧ J (pre ++ [x]) W' ∧ Kp W1 W') →
  J [] W → CallsIn F n P g (#[.func (.yield l) #[] #[]] ++ lb) W fun e W' => (∃ v, e = .returned v) ∧ ∃ xs, S xs ∧ J xs W'

end Go.Proofs.Ytehgijdjnddfcaa
/- A function that holds loops over functions, one behind another or in a loop, leaves with many marks among its deferred calls: each is shut, no call is made. -/
namespace Go.Proofs.Ytehgijdjnddfcaa
open Go.RowKit

/-- The marks: blocks of deferred calls without a call, at or above B, each but once. -/
def Marks (B : Nat) (w : World) : List Deferred → Prop
 | [] => True
 | d :: ds => (∃ r, B ≤ r ∧ d.target = .collected r ∧ w.heap[r]? = some (.deferred (some [])) ∧ ∀ d' ∈ ds, d'.target ≠ .collected r) ∧ Marks B w ds

theorem Marks.keep {B : Nat} {w w' : World} : ∀ {ds : List Deferred}, Marks B w ds → (∀ d ∈ ds, ∀ r, d.target = .collected r → w.heap[r]? = some (.deferred (some [])) → w'.heap[r]? = some (.deferred (some []))) → Marks B w' ds
 | [], _, _ => trivial
 | d :: ds, ⟨⟨r, h1, h2, h3, h4⟩, h5⟩, hk => ⟨⟨r, h1, h2, hk d (by simp) r h2 h3, h4⟩, Marks.keep h5 fun d' hd => hk d' (by simp [hd])⟩
theorem Marks.lt {B : Nat} {w : World} : ∀ {ds : List Deferred}, Marks B w ds → ∀ d ∈ ds, ∀ r, d.target = .collected r → r < w.heap.size
 | d :: ds, ⟨⟨r', h1, h2, h3, h4⟩, h5⟩, x, hx, r, hr => by
  rcases List.mem_cons.1 hx with rfl | hx
  ·rw [h2] at hr
   cases hr
   exact (Array.getElem?_eq_some_iff.1 h3).1
  ·exact Marks.lt h5 x hx r hr
theorem Marks.below {B : Nat} {w w' : World} {ds : List Deferred} (h : Marks B w ds) (hb : Below w.heap.size w w') : Marks B w' ds :=
 h.keep fun d hd r hr h0 => (hb.block r (h.lt d hd r hr)).trans h0
theorem Marks.more {B : Nat} {w : World} {ds : List Deferred} {D : Nat} (h : Marks B w ds) (hD : B ≤ D) (hd : w.heap[D]? = some (.deferred (some []))) (hn : ∀ d ∈ ds, ∀ r, d.target = .collected r → r < D) (a : Array Value) : Marks B w ({ target := .collected D, args := a } :: ds) :=
 ⟨⟨D, hD, rfl, hd, fun d' hd' e => absurd (hn d' hd' D e) (by omega)⟩, h⟩

/-- What shutting the marks leaves. -/
structure Shut (B : Nat) (w w' : World) : Prop where
 below : Below B w w'
 cells : ∀ (b : Nat) cs t fr, w.heap[b]? = some (.cells cs t fr) → w'.heap[b]? = some (.cells cs t fr)
theorem Shut.refl (B : Nat) (w : World) : Shut B w w := ⟨Below.refl _ _, fun _ _ _ _ h => h⟩
theorem Shut.trans {B : Nat} {w w' w'' : World} (h : Shut B w w') (k : Shut B w' w'') : Shut B w w'' := ⟨h.below.trans k.below, fun b cs t fr e => k.cells b cs t fr (h.cells b cs t fr e)⟩
theorem Shut.blk {B g : Nat} {w w' : World} {t : TypeId} {cs : Array Value} (h : Shut B w w') (b : Blk w g t cs) : Blk w' g t cs := h.cells _ _ _ _ b

theorem shut_put {B r : Nat} {w : World} (hB : B ≤ r) (h : w.heap[r]? = some (.deferred (some []))) : Shut B w (w.putObj r (.deferred none)) := by
 have hlt := (Array.getElem?_eq_some_iff.1 h).1
 refine ⟨(Below.refl B w).grown (grownBy_putObj' w r (.deferred none)) (by omega) (fun k e => by cases e; exact hB), fun b cs t fr e => ?_⟩
 have hne : b ≠ r := by
  intro e'
  subst e'
  rw [h] at e
  cases e
 exact (World.putObj_heap_other hne).trans e

end Go.Proofs.Ytehgijdjnddfcaa
/- A range over a function whose iterator may panic between its rounds: the loop is left by that panic. The body never leaves the loop by itself. -/
namespace Go.Proofs.Ytehgijdjnddfcaa
open Go.RowKit

/-- As SeqAt; Nx tells what comes next behind what came; S tells of the ending too: a return, or a panic. The iterator may write a box of its own (row). -/
def SeqFall {α : Type} (F : Fence) (n : Nat) (P : Program) (g : Nat) (lb : Array Value) (encs : α → Array Value) (Nx : List α → α → Prop) (Kp : World → World → Prop) (S : Ending → List α → Prop) (row : Option Nat) (w : World) : Prop :=
 ∀ (l : Nat) (J : List α → World → Prop) (W : World), Below w.heap.size w W → (∀ s A B, J s A → A.grownBy B row → J s B) →
  (∀ pre x W1, J pre W1 → Nx pre x → YieldAt F (n - 1) P l (encs x) W1 fun e W' => e = .returned (.bool true) ∧ J (pre ++ [x]) W' ∧ Kp W1 W') →
  J [] W → CallsIn F n P g (#[.func (.yield l) #[] #[]] ++ lb) W fun e W' => ((∃ v, e = .returned v) ∨ ∃ ch, e = .panicked ch) ∧ ∃ xs, S e xs ∧ J xs W'

theorem wpIn_rangeFall {α : Type} {F : Fence} {n : Nat} {P : Program} {g : Operand} {ps : Array Tmp} {assign body : Code} {Q : Exit → Act → World → Prop} {a : Act} {w : World}
  (hro : F.round = none) (h1 : 1 ≤ n) {gf : Nat} {lb : Array Value} (hg : a.eval g = .func (.func gf) #[] lb) (hFg : F.fn gf) (eg : ∀ args w, (callFunc gf args).run P w = .ok (.enter gf args) w)
  {encs : α → Array Value} {Nx : List α → α → Prop} {Kp : World → World → Prop} {S : Ending → List α → Prop} {row : Option Nat} (hrow : ∀ k, row = some k → k < w.heap.size) (hseq : SeqFall F (n - 1) P gf lb encs Nx Kp S row w)
  (hKt : ∀ {A B C : World}, Kp A B → Kp B C → Kp A C) (hKb : ∀ (W : World) (l : Nat) (o o' : Obj), w.heap.size ≤ l → W.heap[l]? = some o → o.isCells = false → o.isWalk = false → Kp W (W.putObj l o')) (hps : ∀ x, (encs x).size = ps.size)
  (I : List α → World → Prop) (hI : OwnFrom w.heap.size I) (hIB : ∀ s A B, I s A → A.grownBy B row → I s B) (h0 : I [] w) (Ax : α → Act → World → Prop) (hAx : ∀ x a', OwnFrom w.heap.size (fun (_ : Unit) W => Ax x a' W))
  (hassign : ∀ (l : Nat) (pre : List α) (x : α) (W : World) (K : Act → World → Prop), I pre W → Nx pre x → (∀ a' W', KeepsFrom w.heap.size W W' → Kp W W' → I pre W' → Ax x a' W' → K a' W') →
   assign.wpIn (F.inRound l) (n - 1 - 1) P (Exit.then K (fun _ _ _ => False)) { tmps := (ps.zip (encs x)).foldl (fun t (p, v) => t.setIfInBounds p v) a.tmps, defers := [] } W)
  (hbody : ∀ (l : Nat) (pre : List α) (x : α) (a' : Act) (W : World), I pre W → Nx pre x → Ax x a' W → body.wpIn (F.inRound l) (n - 1 - 1) P (fun e _ W3 => e = .normal ∧ KeepsFrom w.heap.size W W3 ∧ Kp W W3 ∧ I (pre ++ [x]) W3) a' W)
  (hfall : ∀ (D : Nat) (ch : List PanicEntry) (xs : List α) (W : World), w.heap.size ≤ D → S (.panicked ch) xs → I xs W → W.heap[D]? = some (.deferred (some [])) → Q (.panic ch) { a with defers := { target := .collected D, args := #[] } :: a.defers } W)
  (hdone : ∀ (D : Nat) (v : Value) (xs : List α) (W : World), w.heap.size ≤ D → S (.returned v) xs → I xs W → W.heap[D]? = some (.deferred (some [])) → Q .normal { a with defers := { target := .collected D, args := #[] } :: a.defers } W) :
  (Code.rangeFunc g ps assign body).wpIn F n P Q a w := by
 refine wpIn_rangeFunc fun fn hfn => ?_
 rw [hro]
 obtain ⟨rec, hrec⟩ : ∃ rec : LoopState → Loop, rec = fun st => { state := st, pending := none, fn, tmps := a.tmps, params := ps, assign, body, defers := w.heap.size } := ⟨_, rfl⟩
 have e1 : ((w.alloc (.deferred (some []))).alloc (.loop (rec .ready))).heap[w.heap.size + 1]? = some (.loop (rec .ready)) := by
  have h := World.alloc_heap_new (w.alloc (.deferred (some []))) (.loop (rec .ready))
  rwa [World.size_alloc] at h
 have e0 : ((w.alloc (.deferred (some []))).alloc (.loop (rec .ready))).heap[w.heap.size]? = some (.deferred (some [])) :=
  (Below.heap_alloc _ _ _ (by simp)).trans (World.alloc_heap_new w _)
 have i1 := hI.alloc (.loop (rec .ready)) (hI.alloc (.deferred (some [])) h0)
 have b1 : Below w.heap.size w ((w.alloc (.deferred (some []))).alloc (.loop (rec .ready))) := ((Below.refl _ w).alloc (Nat.le_refl _) _).alloc (by simp) _
 have z1 : ((w.alloc (.deferred (some []))).alloc (.loop (rec .ready))).heap.size = w.heap.size + 1 + 1 := by simp
 have en : (Instr.enterLoop fn a.tmps ps assign body none).run P w = .ok (w.heap.size + 1, [{ target := .collected w.heap.size, args := #[] }]) ((w.alloc (.deferred (some []))).alloc (.loop (rec .ready))) := by
  rw [hrec]
  exact run_enterLoop_outer _ _ _ _ _
 generalize (w.alloc (.deferred (some []))).alloc (.loop (rec .ready)) = W0 at *
 refine ⟨w.heap.size + 1, [{ target := .collected w.heap.size, args := #[] }], W0, { target := .fn (.func gf) lb, args := #[.func (.yield (w.heap.size + 1)) #[] #[]] }, W0, gf,
  #[.func (.yield (w.heap.size + 1)) #[] #[]] ++ lb, W0, en, ?_, ?_, ?_, fun _ => h1, ?_⟩
 ·simp only [resolve, hg]
  simp [go_sem]
 ·intro f hf
  simp [Target.leads] at hf
  subst hf
  exact hFg
 ·simp [invoke, go_sem, eg]
 ·refine (hseq (w.heap.size + 1) (fun pre W => I pre W ∧ W.heap[w.heap.size + 1]? = some (.loop (rec .ready)) ∧ W.heap[w.heap.size]? = some (.deferred (some []))) W0 b1
   (fun s A B hs hb => ⟨hIB s A B hs.1 hb, (hb.block _ (Array.getElem?_eq_some_iff.1 hs.2.1).1 (fun e => by have := hrow _ e.symm; omega)).trans hs.2.1, (hb.block _ (Array.getElem?_eq_some_iff.1 hs.2.2).1 (fun e => by have := hrow _ e.symm; omega)).trans hs.2.2⟩)
   ?_ ⟨i1, e1, e0⟩).mono ?_
  ·rintro pre x W ⟨hi, hl, hk⟩ hat
   have hy := run_yield (P := P) (args := encs x) hl (by rw [hrec]; exact hps x)
   rw [hrec] at hy
   refine ⟨fn, _, assign, body, hy, roundIn_of_wpIn hfn (hassign _ pre x W _ hi hat fun a' V kf kp hiV hax => ?_)⟩
   have lV := kf.same _ _ (Nat.le_succ _) hl rfl
   have kV := kf.same _ _ (Nat.le_refl _) hk rfl
   have ltV := (Array.getElem?_eq_some_iff.1 lV).1
   refine ⟨_, run_beginRound lV (by rw [hrec]), ?_⟩
   have lU : (V.putObj (w.heap.size + 1) (.loop { rec .ready with state := .busy })).heap[w.heap.size + 1]? = some (.loop { rec .ready with state := .busy }) := World.putObj_heap_same ltV
   have kU : (V.putObj (w.heap.size + 1) (.loop { rec .ready with state := .busy })).heap[w.heap.size]? = some (.deferred (some [])) := (World.putObj_heap_other (by omega)).trans kV
   refine wpIn_mono (hbody _ pre x a' _ (hI.putObj _ hiV (Nat.le_succ _) lV rfl) hat ((hAx x a').putObj (s := ()) _ hax (Nat.le_succ _) lV rfl)) ?_
   rintro e a3 W3 ⟨rfl, kf3, kp3, hi3⟩
   have l3 := kf3.same _ _ (Nat.le_succ _) lU rfl
   have k3 := kf3.same _ _ (Nat.le_refl _) kU rfl
   have er := run_endRound (P := P) none l3
   refine ⟨_, _, er, rfl, ⟨hI.putObj _ hi3 (Nat.le_succ _) l3 rfl, ?_, (World.putObj_heap_other (by omega)).trans k3⟩, hKt kp (hKt (hKt (hKb _ _ _ _ (Nat.le_succ _) lV rfl rfl) kp3) (hKb _ _ _ _ (Nat.le_succ _) l3 rfl rfl))⟩
   rw [World.putObj_heap_same (Array.getElem?_eq_some_iff.1 l3).1, hrec]
   rfl
  ·rintro e W2 ⟨⟨v, rfl⟩ | ⟨ch, rfl⟩, xs, hS, hi, hl, hk⟩
   ·have el := run_endLoop (P := P) hl (by rw [hrec]; simp)
    rw [hrec] at el
    exact ⟨none, _, el, hdone _ v xs _ (Nat.le_refl _) hS (hI.putObj _ hi (Nat.le_succ _) hl rfl) ((World.putObj_heap_other (by omega)).trans hk)⟩
   ·exact hfall _ ch xs _ (Nat.le_refl _) hS hi hk
/-- Marks are shut likewise where the function leaves by a panic. -/
theorem leaves_marksU {F : Fence} {n : Nat} {P : Program} {fn : Func} {tmps : Array Value} {R : Ending → World → Prop} {B : Nat} {u : FrameMode} (hu : u ≠ .run) : ∀ (ds : List Deferred) (w : World), Marks B w ds →
  (∀ w', Shut B w w' → LeavesIn F n P fn tmps R [] u w') → LeavesInM F n P fn tmps R ds u w
 | [], w, _, h => h w (Shut.refl _ _)
 | d :: ds, w, ⟨⟨r, h1, h2, h3, h4⟩, h5⟩, h => by
  refine ⟨hu, .inl ⟨r, _, h2, run_takeDeferred h3, ?_⟩⟩
  refine leaves_marksU hu ds _ (h5.keep fun d' hd r' hr h0 => ?_) (fun w' hs => h w' ((shut_put h1 h3).trans hs))
  have hne : r' ≠ r := by
   intro e
   subst e
   exact h4 d' hd hr
  exact (World.putObj_heap_other hne).trans h0
end Go.Proofs.Ytehgijdjnddfcaa
/- book.must: nothing, or the panic that tells the error. -/
namespace Go.Proofs.Ytehgijdjnddfcaa
open Go.RowKit

/-- The panic that tells an error. -/
abbrev noP (e : Int) : List PanicEntry := [{ v := .iface 72 (.agg #[.int .i64 e]), recovered := false }]
theorem must_ok (e : Int) (w : World) : Calls Try.prog 32 #[.bool true, .int .i64 e] w fun x w' => x = .returned (.tuple #[]) ∧ w' = w := by
 go_enter Try.func32, Try.ntmps32
 go_wp2_with fail
 exact ⟨rfl, .tuple #[], by simp [results, Try.results32, go_sem], rfl, rfl⟩
theorem must_no (e : Int) (w : World) : Calls Try.prog 32 #[.bool false, .int .i64 e] w fun x w' => x = .panicked (noP e) ∧ w' = w := by
 go_enter Try.func32, Try.ntmps32
 go_wp2_with fail
 exact ⟨rfl, rfl, rfl⟩

theorem as_no (v : Value) (w : World) : (Instr.typeAssert (.iface 72 v) 20 72 true).run Try.prog w = .ok (.tuple #[v, .bool true]) w := by kernel_rfl
theorem catch_idle (n : Nat) (p : Addr) (w : World) :
  CallsDIn Fence.wide n Try.prog 36 #[.pointer (some p)] .returning w fun e u' w' => e = .returned (.tuple #[]) ∧ u' = .returning ∧ w' = w := by
 refine callsDIn_of_wpSIn Try.func36 rfl trivial fun c₀ cs hu => ?_
 simp only [Try.ntmps36, List.size_toArray, List.length_cons, List.length_nil, Nat.reduceAdd, Nat.reduceSub, Array.replicate_succ, Array.replicate_zero, List.push_toArray, List.append_toArray, List.nil_append, List.cons_append]
 apply wpSIn_seq
 apply wpSIn_region
 simp [wpOpsSIn, go_sem, recoverD, hu, Exit.thenS]
 refine wpSIn_of_wpIn rfl ?_
 gi_wp2
 cases c₀
 simp_all [bodyPostS, results, Try.results36]
theorem catch_no (n : Nat) (g : Nat) (x e : Int) (w : World) (hc : w.cell? ⟨g, 0, none⟩ = some (.int .i64 x)) (hz : w.frozen? ⟨g, 0, none⟩ = false) (hp : g < w.heap.size) :
  CallsDIn Fence.wide n Try.prog 36 #[.pointer (some ⟨g, 0, none⟩)] (.panicking (noP e)) w fun e' u' w' => e' = .returned (.tuple #[]) ∧ u' = .panicking [{ v := .iface 72 (.agg #[.int .i64 e]), recovered := true }] ∧
   w' = (w.setCell ⟨g, 0, none⟩ (.int .i64 e)).alloc (.cells #[.int .i64 e] 72) := by
 have has := as_no
 refine callsDIn_of_wpSIn Try.func36 rfl trivial fun c₀ cs hu => ?_
 simp only [Try.ntmps36, List.size_toArray, List.length_cons, List.length_nil, Nat.reduceAdd, Nat.reduceSub, Array.replicate_succ, Array.replicate_zero, List.push_toArray, List.append_toArray, List.nil_append, List.cons_append]
 apply wpSIn_seq
 apply wpSIn_region
 simp [wpOpsSIn, go_sem, recoverD, hu, Exit.thenS]
 refine wpSIn_of_wpIn rfl ?_
 gi_wp2
 exact ⟨rfl, _, rfl, .tuple #[], by simp [results, Try.results36, go_sem], rfl, rfl, rfl⟩
set_option maxHeartbeats 1000000 in
theorem tried_in (n : Nat) (fd : Nat) (lb : Array Value) (row : Option Nat) (w : World) (hrow : ∀ k, row = some k → k < w.heap.size) (Ok : World → Prop) (No : Int → World → Prop) (he : ∀ args W, (callFunc fd args).run Try.prog W = .ok (.enter fd args) W)
  (hdo : CallsIn Fence.wide n Try.prog fd lb (w.alloc (.cells #[.int .i64 0] 24)) fun e W' => ((e = .returned (.tuple #[]) ∧ Ok W') ∨ ∃ x, e = .panicked (noP x) ∧ No x W') ∧ (w.alloc (.cells #[.int .i64 0] 24)).grownBy W' row)
  (hOk : ∀ A B, Ok A → A.grownBy B (some w.heap.size) → Ok B) (hNo : ∀ x A B, No x A → A.grownBy B (some w.heap.size) → No x B) :
  CallsIn Fence.wide (n + 1) Try.prog 26 #[.func (.func fd) #[] lb] w fun e W' => ((e = .returned (.int .i64 0) ∧ Ok W') ∨ ∃ x, e = .returned (.int .i64 x) ∧ No x W') ∧ w.grownBy W' row := by
 have hmf : ∀ (fn : Fn) (first cap : Array Value) (w : World), (Instr.makeFunc fn first cap).run Try.prog w = .ok (.func fn first cap) w := fun _ _ _ _ => rfl
 have HD := Lib.hid hdo
 have HO := Lib.hid hOk
 have HN := Lib.hid hNo
 have HR := Lib.hid hrow
 clear hdo hOk hNo hrow
 refine callsIn_of_wp_defers Try.func26 rfl trivial ?_
 simp only [Try.ntmps26, List.size_toArray, List.length_cons, List.length_nil, Nat.reduceAdd, Nat.reduceSub, Array.replicate_succ, Array.replicate_zero, List.push_toArray, List.append_toArray, List.nil_append, List.cons_append]
 gi_wp2
 refine ⟨trivial, HD.out.mono ?_⟩
 rintro e W1 ⟨⟨rfl, hok⟩ | ⟨x, rfl, hno⟩, hg⟩
 ·have HK := Lib.hid hok
  have HG := Lib.hid hg
  have hb := (Blk.new w 24 #[.int .i64 0]).grown hg (fun e => absurd (HR.out _ e.symm) (by omega))
  have b0 := hb.cell 0
  have bz := hb.frozen 0
  have bl := hb.lt
  clear hok hg hb
  gi_wp2
  refine leavesIn_cons (f := 36) (args := #[.pointer (some ⟨w.heap.size, 0, none⟩)]) (by simp) (by simp [Fence.wide]) (by simp [go_sem]) (by intro g hg; trivial) ?_
  refine (catch_idle _ _ _).mono ?_
  rintro e u' w2 ⟨rfl, rfl, rfl⟩
  refine ⟨.int .i64 0, by simp [results, Try.results26, go_sem, b0], .inl ⟨rfl, ?_⟩, ?_⟩
  ·exact HO.out _ _ HK.out (grown_setCell (grown_refl _ _) (.inl rfl) _)
  ·exact grown_setCell (grown_trans (grown_alloc (grown_refl _ _) _) HG.out) (.inr (Nat.le_refl _)) _
 ·have HK := Lib.hid hno
  have HG := Lib.hid hg
  have hb := (Blk.new w 24 #[.int .i64 0]).grown hg (fun e => absurd (HR.out _ e.symm) (by omega))
  have b0 := hb.cell 0
  have bz := hb.frozen 0
  have bl := hb.lt
  clear hno hg hb
  gi_wp2
  refine leavesIn_cons (f := 36) (args := #[.pointer (some ⟨w.heap.size, 0, none⟩)]) (by simp) (by simp [Fence.wide]) (by simp [go_sem]) (by intro g hg; trivial) ?_
  refine (catch_no _ _ _ _ _ b0 bz bl).mono ?_
  rintro e u' w2 ⟨rfl, rfl, rfl⟩
  refine ⟨.int .i64 x, by simp [results, Try.results26, go_sem, bl, World.cell?_setCell_same' _ _ _ (by rw [b0]; rfl)], .inr ⟨x, rfl, ?_⟩, ?_⟩
  ·exact HN.out _ _ _ HK.out (grown_alloc (grown_setCell (grown_refl _ _) (.inl rfl) _) _)
  ·exact grown_alloc (grown_setCell (grown_trans (grown_alloc (grown_refl _ _) _) HG.out) (.inr (Nat.le_refl _)) _) _
end Go.Proofs.Ytehgijdjnddfcaa
/- book.numbers: the iterator over numbers of bytes; it may panic between its rounds. -/
namespace Go.Proofs.Ytehgijdjnddfcaa
open Go.RowKit
attribute [local go_sem] Oper.semAt_some

theorem numbers_any (s : ByteArray) (w : World) :
  Calls Try.prog 28 #[.string s] w fun e w' => e = .returned (.func (.func 37) #[] #[.pointer (some ⟨w.heap.size, 0, none⟩)]) ∧ w' = w.alloc (.cells #[.string s] 9) := by
 have hmf : ∀ (fn : Fn) (first cap : Array Value) (w : World), (Instr.makeFunc fn first cap).run Try.prog w = .ok (.func fn first cap) w := fun _ _ _ _ => rfl
 go_enter Try.func28, Try.ntmps28
 go_wp2_with fail
 go_ret
 exact ⟨rfl, rfl⟩

theorem len_bytes (a : ByteArray) : a.data.toList.length = a.size := by simp
theorem sub_byte {s y : ByteArray} {p i : Nat} (hy : y = s.extract p s.size) (hi : i < y.size) : s.data.toList[p + i]? = some y[i] := by
 subst hy
 have h : p + i < s.size := by rw [ByteArray.size_extract] at hi; omega
 have e : (s.extract p s.size)[i] = s[p + i] := ByteArray.getElem_extract ..
 rw [e, List.getElem?_eq_getElem (by simpa using h)]
 rfl
theorem wrap_byte (b : UInt8) : wrap64 (b.toNat : Int) = (b.toNat : Int) := by
 have := b.toNat_lt
 unfold wrap64
 omega
theorem sh_byte (b : UInt8) {i : Nat} (hi : i < 5) : wrap64 ((b.toNat : Int).tmod 128 * 2 ^ (7 * i)) = ((b.toNat % 128 * 128 ^ i : Nat) : Int) := by
 have h1 : (b.toNat : Int).tmod 128 = ((b.toNat % 128 : Nat) : Int) := by rw [Int.tmod_eq_emod_of_nonneg (by omega)]; omega
 have h2 : ((2 : Int) ^ (7 * i)) = ((128 ^ i : Nat) : Int) := by rw [Int.pow_mul]; simp
 have h3 : 128 ^ i ≤ 128 ^ 4 := Nat.pow_le_pow_right (by decide) (by omega)
 have h4 : b.toNat % 128 * 128 ^ i ≤ 127 * 128 ^ 4 := Nat.mul_le_mul (by omega) h3
 rw [h1, h2, ← Int.natCast_mul]
 unfold wrap64
 omega
theorem or_byte {m c i : Nat} (hi : i < 5) (hm : m < 128 ^ i) (hc : c < 128) : Go.bits BinOp.or IntKind.i64 (m : Int) ((c * 128 ^ i : Nat) : Int) = ((m + c * 128 ^ i : Nat) : Int) := by
 have h3 : 128 ^ i ≤ 128 ^ 4 := Nat.pow_le_pow_right (by decide) (by omega)
 have h4 : c * 128 ^ i ≤ 127 * 128 ^ 4 := Nat.mul_le_mul (by omega) h3
 have h5 : m ||| c * 128 ^ i = m + c * 128 ^ i := by
  have := or_add (n := m) (c := c) (i := i) (by rw [Nat.pow_mul]; exact hm)
  rwa [Nat.shiftLeft_eq, Nat.pow_mul] at this
 have hb : IntKind.i64.bits = 64 := rfl
 unfold Go.bits
 rw [hb]
 have e0 : (BitVec.ofInt 64 (m : Int) ||| BitVec.ofInt 64 ((c * 128 ^ i : Nat) : Int)).toNat = m + c * 128 ^ i := by
  rw [BitVec.toNat_or, BitVec.toNat_ofInt, BitVec.toNat_ofInt]
  have e1 : ((m : Int) % ((2 ^ 64 : Nat) : Int)).toNat = m := by omega
  have e2 : (((c * 128 ^ i : Nat) : Int) % ((2 ^ 64 : Nat) : Int)).toNat = c * 128 ^ i := by omega
  rw [e1, e2, h5]
 dsimp only
 rw [e0, IntWalk.i64_in _ (by omega)]
theorem ext_ext {s y : ByteArray} {p i : Nat} (hy : y = s.extract p s.size) (hp : p ≤ s.size) : y.extract (i + 1) y.size = s.extract (p + i + 1) s.size := by
 subst hy
 rw [ByteArray.extract_extract, ByteArray.size_extract]
 congr 1 <;> omega
/-- What comes: a number, and where the bytes behind it begin. -/
abbrev NumX := Nat × Nat
def numEnc (s : ByteArray) (x : NumX) : Array Value := #[.int .i64 (x.1 : Int), .string (s.extract x.2 s.size)]
def numInts (xs : List NumX) : List Int := xs.map fun x => (x.1 : Int)
/-- How it ends: by a return behind the last number, or by the panic of bytes that are none. -/
def NumEnd (s : ByteArray) (e : Ending) (xs : List NumX) : Prop :=
 (e = .returned (.tuple #[]) ∧ NumAt s.data.toList s.data.toList.length (numInts xs)) ∨ (e = .panicked (noP 111) ∧ ∃ p, NumAt s.data.toList p (numInts xs) ∧ p < s.data.toList.length ∧ decN5 s.data.toList p = none)
/-- What comes next. -/
def numNx (s : ByteArray) (pre : List NumX) (x : NumX) : Prop := NumAt s.data.toList x.2 (numInts (pre ++ [x]))
def keepS (gs : Nat) (W W' : World) : Prop := ∀ cs, Blk W gs 9 cs → Blk W' gs 9 cs
def boxSize (gs : Nat) (W : World) : Nat := match W.cell? ⟨gs, 0, none⟩ with
 | some (.string b) => b.size
 | _ => 0

theorem box_size {gs : Nat} {W : World} {b : ByteArray} (h : Blk W gs 9 #[.string b]) : boxSize gs W = b.size := by
 unfold boxSize
 rw [h.cell 0]
 rfl
set_option maxRecDepth 100000 in
set_option maxHeartbeats 4000000 in
theorem numbers1_fall (n : Nat) (hn : 2 ≤ n) (s : ByteArray) (hs : s.size ≤ maxLen) (gs : Nat) (w0 : World) (hb : Blk w0 gs 9 #[.string s]) :
  SeqFall Fence.wide n Try.prog 37 #[.pointer (some ⟨gs, 0, none⟩)] (numEnc s) (numNx s) (keepS gs) (NumEnd s) (some gs) w0 := by
 intro l J w hW hJ hY h0
 have HB := Lib.hid (hb.below hW hb.lt)
 have HJ := Lib.hid hJ
 have HY := Lib.hid hY
 have H0 := Lib.hid h0
 unfold maxLen at hs
 clear hJ hY h0 hb hW
 refine callsIn_of_wp Try.func37 rfl trivial ?_ rfl
 simp only [Try.ntmps37, List.size_toArray, List.length_cons, List.length_nil, Nat.reduceAdd, Nat.reduceSub, Array.replicate_succ, Array.replicate_zero, List.push_toArray, List.append_toArray, List.nil_append, List.cons_append]
 gi_wp2
 gi_loopw [] (fun wr => ∃ (p : Nat) (y : ByteArray) (pre : List NumX), Hid (J pre wr ∧ Blk wr gs 9 #[.string y] ∧ y = s.extract p s.size ∧ p ≤ s.size ∧ NumAt s.data.toList p (numInts pre)))
  (fun wr => boxSize gs wr)
 case atStart => exact ⟨0, s, [], Lib.hid ⟨H0.out, HB.out, by simp, Nat.zero_le _, NumAt.zero _⟩⟩
 case round =>
  obtain ⟨p, y, pre, HS⟩ := hrel
  have c0 := HS.out.2.1.cell 0
  have cl := HS.out.2.1.lt
  have HY0 := Lib.hid (show y.size = s.size - p by rw [HS.out.2.2.1]; simp)
  by_cases hlt : 0 < y.size
  ·gi_wp2
   gi_loopw [3, 4] (fun v3 v4 wq => ∃ (i m : Nat), v3 = .int .i64 (m : Int) ∧ v4 = .int .i64 (i : Int) ∧ Hid (DecSt s.data.toList p i m) ∧ wr = wq)
    (fun v3 v4 _ => 6 - (intOf v4).toNat)
   case atStart => exact ⟨0, 0, rfl, rfl, Lib.hid (DecSt.zero _ _), rfl⟩
   case round =>
    obtain ⟨i, m, rfl, rfl, HD, rfl⟩ := hrel
    have hi5 := HD.out.i5
    have HNO := Lib.hid (show decN5 s.data.toList p = none → p < s.data.toList.length → ((∃ v, Ending.panicked (noP 111) = Ending.returned v) ∨ ∃ ch, Ending.panicked (noP 111) = Ending.panicked ch) ∧ ∃ xs, NumEnd s (.panicked (noP 111)) xs ∧ J xs wr from
     fun h1 h2 => ⟨.inr ⟨_, rfl⟩, pre, .inr ⟨rfl, p, HS.out.2.2.2.2, h2, h1⟩, HS.out.1⟩)
    have HPL := Lib.hid (show p < s.data.toList.length from by have := HY0.out; have := len_bytes s; omega)
    by_cases hi : i < y.size
    ·by_cases hi4 : i < 5
     ·gi_wp2
      rw [show decide ((i : Int) < 5) = true by simp; omega]
      refine ⟨trivial, fun _ => by omega, (callsIn_wide.2 (must_ok 111 wr)).mono ?_⟩
      rintro e W1 ⟨rfl, hw⟩
      obtain rfl := hw.symm
      have HBY := Lib.hid (sub_byte HS.out.2.2.1 hi)
      gi_upto_region 6 with fail
      rw [wrap_byte y[i], sh_byte y[i] hi4, or_byte (c := y[i].toNat % 128) hi4 HD.out.lt (by omega)]
      have HLA := Lib.hid (fun h => HD.out.last hi4 HBY.out h)
      have HTE := Lib.hid (fun h => HD.out.step hi4 HBY.out h)
      clear HBY
      generalize y[i].toNat = c at *
      obtain ⟨m', hm'⟩ : ∃ m', m + c % 128 * 128 ^ i = m' := ⟨_, rfl⟩
      rw [hm'] at HLA HTE ⊢
      clear hm'
      by_cases hb : c < 128
      ·have HN := Lib.hid (HLA.out hb)
       have hbd : decide ((c : Int) < 128) = true := by simp; omega
       by_cases hc : 0 < c
       ·have hcd : decide (0 < (c : Int)) = true := by simp; omega
        gi_wp2
        refine ⟨trivial, fun _ => by omega, (callsIn_wide.2 (must_ok 111 wr)).mono ?_⟩
        rintro e W1 ⟨rfl, hw⟩
        obtain rfl := hw.symm
        by_cases hm : m' ≤ 999999999
        ·have HDE := Lib.hid (show decN5 s.data.toList p = some (m', p + i + 1) from by rw [HN.out, if_neg (by omega)])
         have HNX := Lib.hid (show numNx s pre (m', p + i + 1) from by have h := HS.out.2.2.2.2.step HPL.out HDE.out; unfold numNx numInts at *; rw [List.map_append]; exact h)
         have hmd : decide ((m' : Int) ≤ 999999999) = true := by simp; omega
         gi_wp2
         refine ⟨trivial, fun _ => by omega, (callsIn_wide.2 (must_ok 111 wr)).mono ?_⟩
         rintro e W1 ⟨rfl, hw⟩
         obtain rfl := hw.symm
         clear hmd hm hw
         have z0 := HS.out.2.1.frozen 0
         have hsl : i + 1 ≤ y.size := hi
         gi_upto_region 10 with fail
         have hz : y.extract (i + 1) y.size = s.extract (p + i + 1) s.size := ext_ext HS.out.2.2.1 HS.out.2.2.2.1
         rw [hz]
         clear hz z0 hsl
         have hj2 := HJ.out pre wr (wr.setCell ⟨gs, 0, none⟩ (.string (s.extract (p + i + 1) s.size))) HS.out.1 (grown_setCell (grown_refl _ _) (.inl rfl) _)
         have HB2 := Lib.hid (show Blk (wr.setCell ⟨gs, 0, none⟩ (.string (s.extract (p + i + 1) s.size))) gs 9 #[.string (s.extract (p + i + 1) s.size)] from HS.out.2.1.set_ 0 _)
         generalize wr.setCell ⟨gs, 0, none⟩ (.string (s.extract (p + i + 1) s.size)) = W2 at *
         have hY := HY.out pre (m', p + i + 1) W2 hj2 HNX.out
         unfold numEnc at hY
         dsimp only at hY
         obtain ⟨fn, tmps, assign, body, hy, hR⟩ := hY
         have HRR := Lib.hid hR
         clear hR hj2
         have b0 := HB2.out.cell 0
         have bl := HB2.out.lt
         gi_wp2
         refine ⟨fun _ => by omega, HRR.out.mono ?_⟩
         rintro e W3 ⟨rfl, hj3, hk3⟩
         have HJ3 := Lib.hid hj3
         have HB3 := Lib.hid (hk3 _ HB2.out)
         clear hj3 hk3 hy b0 bl
         gi_wp2
         have hstep := HS.out.2.2.2.2.step HPL.out HDE.out
         refine ⟨⟨p + i + 1, _, pre ++ [(m', p + i + 1)], Lib.hid ⟨HJ3.out, HB3.out, rfl, by have := HY0.out; omega, by unfold numInts at hstep ⊢; rw [List.map_append]; exact hstep⟩⟩, ?_⟩
         rw [box_size HB3.out, box_size HS.out.2.1, ByteArray.size_extract]
         have := HY0.out
         omega
        ·have hmd : decide ((m' : Int) ≤ 999999999) = false := by simp; omega
         gi_wp2
         refine ⟨trivial, fun _ => by omega, (callsIn_wide.2 (must_no 111 wr)).mono ?_⟩
         rintro e W1 ⟨rfl, rfl⟩
         exact ⟨rfl, HNO.out (by rw [HN.out, if_pos (.inr (by omega))]) HPL.out⟩
       ·have hcd : decide (0 < (c : Int)) = false := by simp; omega
        by_cases hi0 : i = 0
        ·have hie : ((i : Int) + 1 == 1) = true := by simp; omega
         have HI0 := Lib.hid hi0
         clear hi0
         gi_wp2
         refine ⟨trivial, fun _ => by omega, (callsIn_wide.2 (must_ok 111 wr)).mono ?_⟩
         rintro e W1 ⟨rfl, hw⟩
         obtain rfl := hw.symm
         by_cases hm : m' ≤ 999999999
         ·have HDE := Lib.hid (show decN5 s.data.toList p = some (m', p + i + 1) from by rw [HN.out, if_neg (by have := HI0.out; omega)])
          have HNX := Lib.hid (show numNx s pre (m', p + i + 1) from by have h := HS.out.2.2.2.2.step HPL.out HDE.out; unfold numNx numInts at *; rw [List.map_append]; exact h)
          have hmd : decide ((m' : Int) ≤ 999999999) = true := by simp; omega
          gi_wp2
          refine ⟨trivial, fun _ => by omega, (callsIn_wide.2 (must_ok 111 wr)).mono ?_⟩
          rintro e W1 ⟨rfl, hw⟩
          obtain rfl := hw.symm
          clear hmd hm hw
          have z0 := HS.out.2.1.frozen 0
          have hsl : i + 1 ≤ y.size := hi
          gi_upto_region 10 with fail
          have hz : y.extract (i + 1) y.size = s.extract (p + i + 1) s.size := ext_ext HS.out.2.2.1 HS.out.2.2.2.1
          rw [hz]
          clear hz z0 hsl
          have hj2 := HJ.out pre wr (wr.setCell ⟨gs, 0, none⟩ (.string (s.extract (p + i + 1) s.size))) HS.out.1 (grown_setCell (grown_refl _ _) (.inl rfl) _)
          have HB2 := Lib.hid (show Blk (wr.setCell ⟨gs, 0, none⟩ (.string (s.extract (p + i + 1) s.size))) gs 9 #[.string (s.extract (p + i + 1) s.size)] from HS.out.2.1.set_ 0 _)
          generalize wr.setCell ⟨gs, 0, none⟩ (.string (s.extract (p + i + 1) s.size)) = W2 at *
          have hY := HY.out pre (m', p + i + 1) W2 hj2 HNX.out
          unfold numEnc at hY
          dsimp only at hY
          obtain ⟨fn, tmps, assign, body, hy, hR⟩ := hY
          have HRR := Lib.hid hR
          clear hR hj2
          have b0 := HB2.out.cell 0
          have bl := HB2.out.lt
          gi_wp2
          refine ⟨fun _ => by omega, HRR.out.mono ?_⟩
          rintro e W3 ⟨rfl, hj3, hk3⟩
          have HJ3 := Lib.hid hj3
          have HB3 := Lib.hid (hk3 _ HB2.out)
          clear hj3 hk3 hy b0 bl
          gi_wp2
          have hstep := HS.out.2.2.2.2.step HPL.out HDE.out
          refine ⟨⟨p + i + 1, _, pre ++ [(m', p + i + 1)], Lib.hid ⟨HJ3.out, HB3.out, rfl, by have := HY0.out; omega, by unfold numInts at hstep ⊢; rw [List.map_append]; exact hstep⟩⟩, ?_⟩
          rw [box_size HB3.out, box_size HS.out.2.1, ByteArray.size_extract]
          have := HY0.out
          omega
         ·have hmd : decide ((m' : Int) ≤ 999999999) = false := by simp; omega
          gi_wp2
          refine ⟨trivial, fun _ => by omega, (callsIn_wide.2 (must_no 111 wr)).mono ?_⟩
          rintro e W1 ⟨rfl, rfl⟩
          exact ⟨rfl, HNO.out (by rw [HN.out, if_pos (.inr (by omega))]) HPL.out⟩
        ·have hie : ((i : Int) + 1 == 1) = false := by simp; omega
         gi_wp2
         refine ⟨trivial, fun _ => by omega, (callsIn_wide.2 (must_no 111 wr)).mono ?_⟩
         rintro e W1 ⟨rfl, rfl⟩
         exact ⟨rfl, HNO.out (by rw [HN.out, if_pos (.inl ⟨by omega, by omega⟩)]) HPL.out⟩
      ·have hbd : decide ((c : Int) < 128) = false := by simp; omega
       gi_wp2
       go_roundw
       case rel => exact ⟨i + 1, m', rfl, by go_num, Lib.hid (HTE.out hb), trivial⟩
       case measure => simp [intOf]; omega
     ·gi_wp2
      rw [show decide ((i : Int) < 5) = false by simp; omega]
      refine ⟨trivial, fun _ => by omega, (callsIn_wide.2 (must_no 111 wr)).mono ?_⟩
      rintro e W1 ⟨rfl, rfl⟩
      obtain rfl : i = 5 := by omega
      exact ⟨rfl, HNO.out HD.out.long HPL.out⟩
    ·have hi' : decide ((i : Int) < (y.size : Int)) = false := by simp; omega
     gi_wp2
     refine ⟨trivial, fun _ => by omega, (callsIn_wide.2 (must_no 111 wr)).mono ?_⟩
     rintro e W1 ⟨rfl, rfl⟩
     exact ⟨rfl, HNO.out (HD.out.short (by rw [List.getElem?_eq_none]; have := HY0.out; have := len_bytes s; omega)) HPL.out⟩
  ·gi_wp2
   refine ⟨rfl, .tuple #[], by simp [results, Try.results37, go_sem], .inl ⟨_, rfl⟩, pre, .inl ⟨rfl, ?_⟩, HS.out.1⟩
   have h1 := HS.out.2.2.2.2
   have h2 := HY0.out
   have h3 := HS.out.2.2.2.1
   have e : s.data.toList.length = p := by have := len_bytes s; omega
   rw [e]
   exact h1
end Go.Proofs.Ytehgijdjnddfcaa
/- What a loop over a function turns by itself: an invariant on cells, and on what lay ahead of the loop, abides it. -/
namespace Go.Proofs.Ytehgijdjnddfcaa
open Go.RowKit Go.Shelf

theorem shut_of_grown {B : Nat} {W W' : World} {row : Option Nat} (hg : W.grownBy W' row) (hr : ∀ r, row = some r → B ≤ r ∧ ∃ o : Obj, W.heap[r]? = some o ∧ o.isCells = false) (hB : B ≤ W.heap.size) : Shut B W W' := by
 refine ⟨(Below.refl B W).grown hg hB (fun k e => (hr k e).1), fun b cs t fr h => ?_⟩
 have hlt := (Array.getElem?_eq_some_iff.1 h).1
 refine (hg.block b hlt ?_).trans h
 intro e
 obtain ⟨_, o, ho, hc⟩ := hr b e.symm
 rw [h] at ho
 cases ho
 simp [Obj.isCells] at hc
theorem ownFrom_shut {β : Type} {B : Nat} {I : β → World → Prop} (hB : ∀ s W, I s W → B ≤ W.heap.size) (h : ∀ s W W', I s W → Shut B W W' → I s W') : OwnFrom B I :=
 fun s W W' row hs hg hr => h s W W' hs (shut_of_grown hg hr (hB s W hs))
theorem Shut.mono {B B' : Nat} {W W' : World} (h : Shut B W W') (hB : B' ≤ B) : Shut B' W W' := ⟨h.below.mono hB, h.cells⟩
/-- The marks lie ahead of the loop. -/
theorem Marks.shut {B S : Nat} {W W' : World} {ds : List Deferred} (h : Marks B W ds) (hs : Shut S W W') (hlt : ∀ d ∈ ds, ∀ r, d.target = .collected r → r < S) : Marks B W' ds :=
 h.keep fun d hd r hr h0 => (hs.below.block r (hlt d hd r hr)).trans h0
theorem keepsFrom_below {B : Nat} {W W' : World} (h : Below W.heap.size W W') : KeepsFrom B W W' :=
 ⟨h.size, fun k o _ hk _ => (h.block k (Array.getElem?_eq_some_iff.1 hk).1).trans hk⟩
theorem keepsFrom_setCell (B : Nat) (W : World) (p : Addr) (v : Value) : KeepsFrom B W (W.setCell p v) := (KeepsOthers.setCell W p v).from B
end Go.Proofs.Ytehgijdjnddfcaa
/- append inside a fence, whatever its source; the marks of a function shut: maps lie as they lay. -/
namespace Go.Proofs.Ytehgijdjnddfcaa
open Go.RowKit

theorem wpListIn_append_any {F : Fence} {nn : Nat} {P : Program} {w : World} {ops : Array Oper} {rest : List Oper} {o : Oper} {a : Act} {Q : Exit → Act → World → Prop} (hgd : o.guard = none) (s x : Operand) {t e : TypeId}
  (ho : o.op = .call { callee := .builtin .append, args := #[s, x], argTypes := #[t, t] })
  {z : Value} {size bytes : Nat} (EE : ElemAt P t e z size bytes) {base : Nat} {A : Option Addr} {n cap : Nat} {xs : List Value} (hs : a.eval s = .slice A n cap) (hown : Own w base e size A n cap xs)
  {A2 : Option Addr} {m c B : Nat} {news : List Value} (hx : a.eval x = .slice A2 m c) (hR : Reads w B size A2 m news) (h1 : ∀ u ∈ news, u.oneCell' = true) (h63 : n + m ≤ maxLen) (hbytes : (n + m) * bytes ≤ 140737488355328) (hbase : base ≤ w.heap.size)
  (h : ∀ A' cap' w', Own w' base e size A' (n + m) cap' (xs ++ news) → w.grownBy w' (A.map (·.block)) → (A' = A ∨ A' = some ⟨w.heap.size, 0, none⟩) → wpListIn F nn P ops Q rest (a.put o.dst (.slice A' (n + m) cap')) w') :
  wpListIn F nn P ops Q (o :: rest) a w := by
 refine wpListIn_plain hgd fun K hK => ?_
 obtain ⟨A', cap', w', hr, h2, h3, h4⟩ := run_append_any (P := P) w o.type EE hown hR (c := c) h1 h63 hbytes hbase
 unfold Oper.wpIn
 refine ⟨?_, ?_⟩
 ·simp [Oper.about, ho, resolve, Target.leads, Sem.run_pure]
 ·rw [Oper.semAt_plain F _ _ (by rw [ho]; intro c hc'; cases hc')]
  unfold execOp
  simp only [ho, resolve, invoke, builtin, Sem.run_bind, Sem.run_pure, Result.andThen_ok, List.map_toArray, List.map_cons, List.map_nil, hs, hx, hr]
  exact hK _ _ (h A' cap' w' h2 h3 h4)

/-- What shutting the marks leaves: all that is no block of deferred calls. -/
structure ShutD (B : Nat) (w w' : World) : Prop where
 below : Below B w w'
 others : ∀ (b : Nat) o, w.heap[b]? = some o → (∀ x, o ≠ .deferred x) → w'.heap[b]? = some o
theorem ShutD.refl (B : Nat) (w : World) : ShutD B w w := ⟨Below.refl _ _, fun _ _ h _ => h⟩
theorem ShutD.trans {B : Nat} {w w' w'' : World} (h : ShutD B w w') (k : ShutD B w' w'') : ShutD B w w'' := ⟨h.below.trans k.below, fun b o e hn => k.others b o (h.others b o e hn) hn⟩
theorem ShutD.blk {B g : Nat} {w w' : World} {t : TypeId} {cs : Array Value} (h : ShutD B w w') (b : Blk w g t cs) : Blk w' g t cs := h.others _ _ b (fun x e => by cases e)
theorem ShutD.own {B base n cap size : Nat} {w w' : World} {e : TypeId} {A : Option Addr} {xs : List Value} (h : ShutD B w w') (o : Own w base e size A n cap xs) : Own w' base e size A n cap xs := by
 refine ⟨o.1, ?_⟩
 rcases o.2 with h' | ⟨g, cap', cur, hv, hb, hg, hr⟩
 ·exact .inl h'
 ·exact .inr ⟨g, cap', cur, hv, hb, h.others g _ hg (fun x e => by cases e), hr⟩
theorem ShutD.reads {B B' size n : Nat} {w w' : World} {A : Option Addr} {xs : List Value} (h : ShutD B w w') (r : Reads w B' size A n xs) : Reads w' B' size A n xs := by
 rcases Nat.eq_zero_or_pos size with h0 | h0
 ·refine ⟨r.1, fun hn => ?_⟩
  obtain ⟨ad, e, hb, hc⟩ := r.2 hn
  refine ⟨ad, e, hb, fun j u hu => ?_⟩
  have := (List.getElem?_eq_some_iff.1 hu).1
  rw [r.1, h0] at this
  omega
 ·refine ⟨r.1, fun hn => ?_⟩
  obtain ⟨ad, e, hb, hc⟩ := r.2 hn
  refine ⟨ad, e, hb, fun j u hu => ?_⟩
  have h1 := hc j u hu
  obtain ⟨o, ho, hcell⟩ := cells_of_cell h1
  rw [← h1]
  refine World.cell?_of_block ?_
  rw [ho]
  exact h.others _ _ ho (fun x e => by subst e; simp [Obj.isCells] at hcell)

theorem shutD_put {B r : Nat} {w : World} (hB : B ≤ r) (h : w.heap[r]? = some (.deferred (some []))) : ShutD B w (w.putObj r (.deferred none)) := by
 have hlt := (Array.getElem?_eq_some_iff.1 h).1
 refine ⟨(Below.refl B w).grown (grownBy_putObj' w r (.deferred none)) (by omega) (fun k e => by cases e; exact hB), fun b o e hn => ?_⟩
 have hne : b ≠ r := by
  intro e'
  subst e'
  rw [h] at e
  cases e
  exact hn _ rfl
 exact (World.putObj_heap_other hne).trans e

theorem leaves_marksD {F : Fence} {n : Nat} {P : Program} {fn : Func} {tmps : Array Value} {R : Ending → World → Prop} {B : Nat} : ∀ (ds : List Deferred) (w : World), Marks B w ds →
  (∀ w', ShutD B w w' → LeavesIn F n P fn tmps R [] .returning w') → LeavesInM F n P fn tmps R ds .returning w
 | [], w, _, h => h w (ShutD.refl _ _)
 | d :: ds, w, ⟨⟨r, h1, h2, h3, h4⟩, h5⟩, h => by
  refine ⟨by simp, .inl ⟨r, _, h2, run_takeDeferred h3, ?_⟩⟩
  refine leaves_marksD ds _ (h5.keep fun d' hd r' hr h0 => ?_) (fun w' hs => h w' ((shutD_put h1 h3).trans hs))
  have hne : r' ≠ r := by
   intro e
   subst e
   exact h4 d' hd hr
  exact (World.putObj_heap_other hne).trans h0
end Go.Proofs.Ytehgijdjnddfcaa
/- book.Numbers: the closure that reads all numbers, and Numbers. -/
namespace Go.Proofs.Ytehgijdjnddfcaa
open Go.RowKit
attribute [local go_sem] Oper.semAt_some

theorem keepsFrom_grown {B : Nat} {W W' : World} {row : Option Nat} (hg : W.grownBy W' row) (hr : ∀ r, row = some r → ∃ t cs, Blk W r t cs) : KeepsFrom B W W' :=
 ⟨hg.size, fun k o _ hk hc => (hg.block k (Array.getElem?_eq_some_iff.1 hk).1 (fun e => by
  obtain ⟨t, cs, hb⟩ := hr k e.symm
  unfold Blk at hb
  rw [hb] at hk
  cases hk
  cases hc)).trans hk⟩
theorem own_setCell {w : World} {base n cap size : Nat} {e : TypeId} {A : Option Addr} {xs : List Value} (h : Own w base e size A n cap xs) {p : Addr} (hp : p.block < base) (u : Value) : Own (w.setCell p u) base e size A n cap xs := by
 refine ⟨h.1, ?_⟩
 rcases h.2 with h' | ⟨g, cap', cur, hv, hb, hg, hr⟩
 ·exact .inl h'
 ·exact .inr ⟨g, cap', cur, hv, hb, (Below.heap_setCell w p u g (by omega)).trans hg, hr⟩
theorem own_blk {w : World} {base n cap size : Nat} {e : TypeId} {A : Option Addr} {xs : List Value} (h : Own w base e size A n cap xs) : ∀ r, A.map (·.block) = some r → ∃ t cs, Blk w r t cs := by
 intro r hr
 rcases h.form with ⟨rfl, _⟩ | ⟨g, cur, rfl, _, hb, _⟩
 ·cases hr
 ·cases hr; exact ⟨_, _, hb⟩
theorem own_rowS {w : World} {base n cap size k : Nat} {e : TypeId} {A : Option Addr} {xs : List Value} (h : Own w base e size A n cap xs) (hk : A.map (·.block) = some k) : base ≤ k := by
 cases A with
 | none => cases hk
 | some a => cases hk; exact (h.lt rfl).1
def intsV (xs : List NumX) : List Value := (numInts xs).map (Value.int .i64)
/-- What the loop knows: the list's box, and the numbers so far. -/
structure NumsI (w w0 : World) (gr : Nat) (pre : List NumX) (W : World) : Prop where
 ex : ∃ B q, Blk W gr 36 #[.slice B pre.length q] ∧ Own W (w.heap.size + 1) 3 1 B pre.length q (intsV pre)
 gr : w.grownBy W (some gr)
 le : w0.heap.size ≤ W.heap.size
theorem keepS_trans {gs : Nat} {A B C : World} (h : keepS gs A B) (k : keepS gs B C) : keepS gs A C := fun cs hb => k cs (h cs hb)
theorem grown_two {w A B : World} {r1 r2 : Option Nat} (h : w.grownBy A r1) (k : A.grownBy B r2) (hr : ∀ j, r2 = some j → w.heap.size ≤ j) : w.grownBy B r1 :=
 ⟨k.os.trans h.os, k.tape.trans h.tape, k.output.trans h.output, Nat.le_trans h.size k.size, fun j hj hne => (k.block j (Nat.lt_of_lt_of_le hj h.size) (fun e => absurd (hr j e.symm) (by omega))).trans (h.block j hj hne)⟩
theorem grown_belowB {w A B : World} {r1 : Option Nat} {n : Nat} (h : w.grownBy A r1) (k : Below n A B) (hn : w.heap.size ≤ n) : w.grownBy B r1 :=
 ⟨k.os.trans h.os, k.tape.trans h.tape, k.output.trans h.output, Nat.le_trans h.size k.size, fun j hj hne => (k.block j (by omega)).trans (h.block j hj hne)⟩
section
variable {w w0 : World} {gr : Nat} {pre : List NumX}
theorem NumsI.shut {W W' : World} (hw : w0.heap.size = w.heap.size + 1) (hg : gr < w.heap.size) (h : NumsI w w0 gr pre W) (hs : Shut w0.heap.size W W') : NumsI w w0 gr pre W' := by
 obtain ⟨B, q, h1, h2⟩ := h.ex
 refine ⟨⟨B, q, hs.blk h1, h2.1, ?_⟩, grown_belowB h.gr hs.below (by omega), Nat.le_trans h.le hs.below.size⟩
 rcases h2.2 with h' | ⟨g, cap', cur, hv, hb, hgg, hr⟩
 ·exact .inl h'
 ·exact .inr ⟨g, cap', cur, hv, hb, hs.cells _ _ _ _ hgg, hr⟩
theorem NumsI.own (hw : w0.heap.size = w.heap.size + 1) (hg : gr < w.heap.size) : OwnFrom w0.heap.size (NumsI w w0 gr) :=
 ownFrom_shut (fun s W h => h.le) (fun s W W' h hs => h.shut hw hg hs)
theorem NumsI.box {A B : World} (hg : gr < w.heap.size) (h : NumsI w w0 gr pre A) (k : A.grownBy B (some w.heap.size)) : NumsI w w0 gr pre B := by
 obtain ⟨B', q, h1, h2⟩ := h.ex
 refine ⟨⟨B', q, h1.grown k (fun e => by cases e; omega), h2.grown k (fun a ha e => ?_)⟩, grown_two h.gr k (fun j e => by cases e; exact Nat.le_refl _), Nat.le_trans h.le k.size⟩
 have h3 := (h2.lt ha).1
 have h4 : a.block = w.heap.size := Option.some.inj e
 omega
end
theorem one_int {W : World} {g : Nat} {x : Int} {B : Nat} (hB : g < B) (h : W.cell? ⟨g, 0, none⟩ = some (.int .i64 x)) : Reads W B 1 (some ⟨g, 0, none⟩) 1 ([x].map (Value.int .i64)) :=
 ⟨rfl, fun _ => ⟨_, rfl, hB, fun j u hu => by
  match j, hu with
  | 0, hu => simp at hu; rw [← hu]; simpa [Addr.add] using h⟩⟩
/-- All numbers in the list's box, or the panic. -/
def NumsOut (s : ByteArray) (w : World) (gr : Nat) (e : Ending) (W : World) : Prop :=
 ((e = .returned (.tuple #[]) ∧ ∃ B q l, Blk W gr 36 #[.slice B l.length q] ∧ Own W (w.heap.size + 1) 3 1 B l.length q (l.map (Value.int .i64)) ∧ NumAt s.data.toList s.data.toList.length l) ∨
  (e = .panicked (noP 111) ∧ ∃ p l, NumAt s.data.toList p l ∧ p < s.data.toList.length ∧ decN5 s.data.toList p = none)) ∧ w.grownBy W (some gr)
inductive FrN (v0 v1 v2 v4 : Value) : Act → Prop
 | mk (u3 u5 u6 u7 u8 u9 u10 : Value) : FrN v0 v1 v2 v4 { tmps := #[v0, v1, v2, u3, v4, u5, u6, u7, u8, u9, u10], defers := [] }
set_option maxRecDepth 100000 in
set_option maxHeartbeats 4000000 in
theorem nums1_in (n : Nat) (hn : 4 ≤ n) (s : ByteArray) (hs : s.size ≤ 2000) (gs gr : Nat) (w : World) (hS : Blk w gs 9 #[.string s]) (hL : Blk w gr 36 #[.slice none 0 0]) :
  CallsIn Fence.wide n Try.prog 27 #[.pointer (some ⟨gs, 0, none⟩), .pointer (some ⟨gr, 0, none⟩)] w (NumsOut s w gr) := by
 have hmf : ∀ (fn : Fn) (first cap : Array Value) (w : World), (Instr.makeFunc fn first cap).run Try.prog w = .ok (.func fn first cap) w := fun _ _ _ _ => rfl
 have hEn : ∀ args W, (callFunc 37 args).run Try.prog W = .ok (.enter 37 args) W := fun args W => by simp [go_sem]
 refine callsIn_of_wp_marks Try.func27 rfl trivial ?_ rfl
 simp only [Try.ntmps27, List.size_toArray, List.length_cons, List.length_nil, Nat.reduceAdd, Nat.reduceSub, Array.replicate_succ, Array.replicate_zero, List.push_toArray, List.append_toArray, List.nil_append, List.cons_append]
 have c0 := hS.cell 0
 have c1 := hS.lt
 have l1 := hL.lt
 gi_wp2
 refine ⟨trivial, fun _ => by omega, (callsIn_wide.2 (numbers_any s w)).mono ?_⟩
 rintro e w0 ⟨rfl, hw0⟩
 have HS0 := Lib.hid (Blk.new w 9 #[.string s])
 have HL0 := Lib.hid (hL.alloc (.cells #[.string s] 9))
 have z0 : w0.heap.size = w.heap.size + 1 := by rw [hw0]; simp
 rw [← hw0] at HS0 HL0
 have HG0 := Lib.hid (show w.grownBy w0 (some gr) from by rw [hw0]; exact grown_alloc (grown_refl _ _) _)
 have Z0 := Lib.hid z0
 clear hw0 z0 c0 hL hS
 gi_wp2
 refine wpIn_rangeFall rfl (by omega) (gf := 37) (lb := #[.pointer (some ⟨w.heap.size, 0, none⟩)]) rfl trivial hEn (row := some w.heap.size) (fun k e => by cases e; have := Z0.out; omega)
  (numbers1_fall (n - 1) (by omega) s (by unfold maxLen; omega) w.heap.size w0 HS0.out) keepS_trans
  (fun W l o o' hl ho hc hw cs hb => (World.putObj_heap_other (by have := Z0.out; omega)).trans hb) (fun _ => rfl)
  (NumsI w w0 gr) (NumsI.own Z0.out l1) (fun s A B h k => h.box l1 k) ⟨⟨none, 0, HL0.out, Own.none_ _ _ _ _⟩, HG0.out, Nat.le_refl _⟩
  (fun y a' Wr => FrN (.pointer (some ⟨gs, 0, none⟩)) (.pointer (some ⟨gr, 0, none⟩)) (.int .i64 (y.1 : Int)) (.func (.func 37) #[] #[.pointer (some ⟨w.heap.size, 0, none⟩)]) a')
  (fun y a' => ownFrom_pure _ _) ?assign ?body ?fall ?done
 case assign =>
  intro l' pre x W K hI hN hK
  unfold numEnc
  gi_wp2
  exact hK _ _ (KeepsFrom.refl _ _) (fun _ h => h) hI (by constructor)
 case body =>
  rintro l' pre ⟨x, to'⟩ a' W hI hN ha'
  cases ha'
  obtain ⟨B, q, h1, h2⟩ := hI.ex
  have HI := Lib.hid hI
  have HLN : Hid (pre.length + 1 ≤ 2000) := Lib.hid (by
   have h3 := hN.small
   have h4 := len_bytes s
   unfold numInts at h3
   rw [List.length_map, List.length_append] at h3
   simp only [List.length_cons, List.length_nil] at h3
   omega)
  dsimp only at *
  have c0 := h1.cell 0
  have c1 := h1.frozen 0
  have H1 := Lib.hid h1
  have HOW := Lib.hid (h2.alloc (.cells #[.int .i64 (x : Int)] 3))
  have HOB : Hid (Blk (W.alloc (.cells #[.int .i64 (x : Int)] 3)) W.heap.size 3 #[.int .i64 (x : Int)]) := Lib.hid (Blk.new _ _ _)
  have hs1 := h1.lt
  have HN := Lib.hid hN
  have HW := Lib.hid (show w.heap.size + 1 ≤ W.heap.size from by have := hI.le; have := Z0.out; omega)
  clear h1 h2 hI hN
  gi_wp2_with (first | (gi_at_builtin; refine wpListIn_append_any rfl (.tmp 7) (.tmp 9) (by rfl) elem_int rfl HOW.out rfl (one_int (x := (x : Int)) HOB.out.lt (HOB.out.cell 0)) (ints_one _) (by have := HLN.out; unfold maxLen; omega) (by have := HLN.out; omega) (by have := HW.out; simp; omega) ?_) | fail)
  rintro A8 c8 W8 hown hgr hA8
  have hal : Below W.heap.size W (W.alloc (.cells #[.int .i64 (x : Int)] 3)) := (Below.refl _ _).alloc (Nat.le_refl _) _
  have hrow : ∀ j, B.map (·.block) = some j → w.heap.size + 1 ≤ j := fun j e => own_rowS HOW.out e
  have HROW := Lib.hid hrow
  have HB8 := Lib.hid ((H1.out.alloc (.cells #[.int .i64 (x : Int)] 3)).grown hgr (fun e => by have := hrow _ e.symm; omega))
  have HO8 := Lib.hid hown
  have HK8 := Lib.hid (show KeepsFrom w0.heap.size W W8 from (keepsFrom_below hal).trans (keepsFrom_grown hgr (own_blk HOW.out)))
  have HG8 := Lib.hid (show w.grownBy W8 (some gr) from grown_two (grown_alloc HI.out.gr _) hgr (fun j e => by have := hrow j e; omega))
  have HS8 := Lib.hid (show keepS w.heap.size W W8 from fun cs h => (h.alloc _).grown hgr (fun e => by have := hrow _ e.symm; omega))
  have HLE := Lib.hid (show w0.heap.size ≤ W8.heap.size from Nat.le_trans HI.out.le (Nat.le_trans hal.size hgr.size))
  have d0 := HB8.out.cell 0
  have d1 := HB8.out.frozen 0
  clear hown hgr hA8 hal hrow c0 c1 hs1
  gi_wp2
  refine ⟨HK8.out.trans (keepsFrom_setCell w0.heap.size W8 ⟨gr, 0, none⟩ (.slice A8 (pre.length + 1) c8)), fun cs h => (HS8.out cs h).far (p := ⟨gr, 0, none⟩) (by dsimp only; omega) _, ⟨A8, c8, ?_, ?_⟩, grown_setCell HG8.out (.inl rfl) _, by have := HLE.out; simpa [World.setCell] using this⟩
  ·rw [List.length_append]
   exact HB8.out.set_ 0 (.slice A8 (pre.length + 1) c8)
  ·rw [List.length_append]
   unfold intsV numInts at *
   rw [List.map_append, List.map_append]
   exact own_setCell HO8.out (by dsimp only; omega) _
 case fall =>
  rintro D ch xs W hD hS hI hK
  have hmk : Marks w.heap.size W [{ target := .collected D, args := #[] }] := ⟨⟨D, by have := Z0.out; omega, rfl, hK, by simp⟩, trivial⟩
  rcases hS with ⟨h, _⟩ | ⟨h, p, h1, h2, h3⟩
  ·cases h
  ·cases h
   refine leaves_marksU (by simp) _ _ hmk fun w' hs => ?_
   exact ⟨.inr ⟨rfl, p, _, h1, h2, h3⟩, grown_belowB hI.gr hs.below (Nat.le_refl _)⟩
 case done =>
  rintro D v xs W hD hS hI hK
  have hmk : Marks w.heap.size W [{ target := .collected D, args := #[] }] := ⟨⟨D, by have := Z0.out; omega, rfl, hK, by simp⟩, trivial⟩
  rcases hS with ⟨h, h1⟩ | ⟨h, _⟩
  ·cases h
   have H1 := Lib.hid h1
   have HI := Lib.hid hI
   clear h1 hI hK
   gi_wp2
   refine leaves_marksD _ _ hmk ?_
   intro w' hs
   obtain ⟨B, q, h2, h3⟩ := HI.out.ex
   refine ⟨.tuple #[], by simp [results, Try.results27, go_sem], .inl ⟨rfl, B, q, numInts xs, ?_, ?_, H1.out⟩, grown_belowB HI.out.gr hs.below (Nat.le_refl _)⟩
   ·have := hs.blk h2
    unfold numInts
    rw [List.length_map]
    exact this
   ·have := hs.own h3
    unfold numInts
    rw [List.length_map]
    exact this
  ·cases h
def NumOk (s : ByteArray) (b gr : Nat) (V : World) : Prop := ∃ B q l, Blk V gr 36 #[.slice B l.length q] ∧ Own V b 3 1 B l.length q (l.map (Value.int .i64)) ∧ NumAt s.data.toList s.data.toList.length l
def NumNo (s : ByteArray) (x : Int) (V : World) : Prop := x = 111 ∧ ∃ p l, NumAt s.data.toList p l ∧ p < s.data.toList.length ∧ decN5 s.data.toList p = none
theorem NumOk.keep {s : ByteArray} {b gr k : Nat} {A B : World} (h : NumOk s b gr A) (hg : A.grownBy B (some k)) (h1 : gr ≠ k) (h2 : k < b) : NumOk s b gr B := by
 obtain ⟨C, q, l, h3, h4, h5⟩ := h
 refine ⟨C, q, l, h3.grown hg (fun e => h1 (Option.some.inj e)), h4.grown hg (fun a ha e => ?_), h5⟩
 have h6 := (h4.lt ha).1
 have h7 : a.block = k := Option.some.inj e
 omega
/-- What Numbers answers. -/
def NumbersOut (s : ByteArray) (w : World) (e : Ending) (W : World) : Prop :=
 ∃ B q l ee, e = .returned (.tuple #[.slice B (List.length l) q, .int .i64 ee]) ∧ NumsIs s.data.toList l ee ∧ IntsAt W W.heap.size B l.length l ∧ Below w.heap.size w W
set_option maxRecDepth 100000 in
set_option maxHeartbeats 4000000 in
theorem numbers_in (s : ByteArray) (hs : s.size ≤ 2000) (w : World) : CallsIn Fence.wide 9 Try.prog 12 #[.string s] w (NumbersOut s w) := by
 have hmf : ∀ (fn : Fn) (first cap : Array Value) (w : World), (Instr.makeFunc fn first cap).run Try.prog w = .ok (.func fn first cap) w := fun _ _ _ _ => rfl
 have hEn : ∀ args W, (callFunc 27 args).run Try.prog W = .ok (.enter 27 args) W := fun args W => by simp [go_sem]
 refine callsIn_of_wp Try.func12 rfl trivial ?_ rfl
 simp only [Try.ntmps12, List.size_toArray, List.length_cons, List.length_nil, Nat.reduceAdd, Nat.reduceSub, Array.replicate_succ, Array.replicate_zero, List.push_toArray, List.append_toArray, List.nil_append, List.cons_append]
 have HX := Lib.hid (Lay.two w 9 #[.string s] 36 #[.slice none 0 0])
 gi_upto_region 2 with fail
 have HZ := Lib.hid (show ((w.alloc (.cells #[.string s] 9)).alloc (.cells #[.slice none 0 0] 36)).heap.size = w.heap.size + 2 from by simp)
 generalize (w.alloc (.cells #[.string s] 9)).alloc (.cells #[.slice none 0 0] 36) = W at *
 gi_wp2
 refine ⟨trivial, (tried_in 7 27 _ (some (w.heap.size + 1)) W (fun k e => by cases e; have := HZ.out; omega) (NumOk s (W.heap.size + 2) (w.heap.size + 1)) (NumNo s) hEn ?hdo
  (fun A B h k => h.keep k (by have := HZ.out; omega) (by omega)) (fun x A B h k => h)).mono ?_⟩
 case hdo =>
  refine (nums1_in 7 (by omega) s hs w.heap.size (w.heap.size + 1) (W.alloc (.cells #[.int .i64 0] 24)) ((HX.out.blk 0 rfl).alloc _) ((HX.out.blk 1 rfl).alloc _)).mono ?_
  rintro e V ⟨⟨rfl, B, q, l, h1, h2, h3⟩ | ⟨rfl, h1⟩, h4⟩
  ·exact ⟨.inl ⟨rfl, B, q, l, h1, by simpa using h2, h3⟩, h4⟩
  ·exact ⟨.inr ⟨111, rfl, rfl, h1⟩, h4⟩
 rintro e V ⟨⟨rfl, B, q, l, h1, h2, h3⟩ | ⟨x, rfl, rfl, h1⟩, h4⟩
 ·have c0 := h1.cell 0
  have cl := h1.lt
  have HO := Lib.hid (show IntsAt V V.heap.size B l.length l from h2.reads (Nat.le_refl _))
  have HN := Lib.hid h3
  have HB := Lib.hid (HX.out.1.trans (below_of_grown (B := w.heap.size) h4 (fun k e => by cases e; omega) (by have := HZ.out; omega)))
  clear h1 h2 h3 h4
  gi_wp2
  exact bodyPost_ret (v := .tuple #[.slice B l.length q, .int .i64 0]) (by simp [results, Try.results12, go_sem]) rfl ⟨B, q, l, 0, rfl, .inl ⟨rfl, HN.out⟩, HO.out, HB.out⟩
 ·have HB := Lib.hid (HX.out.1.trans (below_of_grown (B := w.heap.size) h4 (fun k e => by cases e; omega) (by have := HZ.out; omega)))
  have HN := Lib.hid h1
  clear h1 h4
  gi_wp2
  exact bodyPost_ret (v := .tuple #[.slice none 0 0, .int .i64 111]) (by simp [results, Try.results12, go_sem]) rfl ⟨none, 0, [], 111, rfl, .inr ⟨rfl, rfl, HN.out⟩, Reads.none_, HB.out⟩
end Go.Proofs.Ytehgijdjnddfcaa
/- slices.IndexFunc and slices.ContainsFunc at ints. -/
namespace Go.Proofs.Ytehgijdjnddfcaa
open Go.RowKit

set_option maxHeartbeats 1000000 in
theorem indexFunc_int (F : FuncId) (C : Array Value) (p : Int → Bool) (A : Option Addr) (n c : Nat) (l : List Int) (w : World) (hr : IntsAt w w.heap.size A n l) (hn : n ≤ maxLen)
  (hE : ∀ args W, (callFunc F args).run Try.prog W = .ok (.enter F args) W)
  (hF : ∀ x ∈ l, ∀ W, Below w.heap.size w W → Calls Try.prog F (#[.int .i64 x] ++ C) W fun e w' => e = .returned (.bool (p x)) ∧ Below W.heap.size W w') :
  Calls Try.prog 41 #[.slice A n c, .func (.func F) #[] C] w fun e w' => e = .returned (.int .i64 (idx p l)) ∧ Below w.heap.size w w' := by
 unfold maxLen at hn
 have HF := Lib.hid hF
 clear hF
 go_enter Try.func41, Try.ntmps41
 go_wp2_with fail
 go_loopw [8, 5] (fun i j wr => ∃ k : Nat, k ≤ n ∧ i = .int .i64 k ∧ (∀ y ∈ l.take k, p y = false) ∧ Below w.heap.size w wr)
  (fun i _ _ => n - (intOf i).toNat)
 case atStart => exact ⟨0, by omega, rfl, by simp, Below.refl _ _⟩
 case round =>
  obtain ⟨k, hk, rfl, hno, hb⟩ := hrel
  have HN := Lib.hid hno
  clear hno
  by_cases hlt : k < n
  ·obtain ⟨b, off, x, rfl, hbB, hx, hc⟩ := (hr.below hb).cell hlt
   have HX := Lib.hid hx
   clear hx
   go_wp2_with fail
   refine (HF.out x (mem_of_at HX.out) _ hb).mono ?_
   rintro e w' ⟨rfl, hb'⟩
   cases hp : p x with
   | true =>
    have HP := Lib.hid hp
    clear hp
    go_wp2_with fail
    go_ret
    exact ⟨ret_int (idx_some HX.out HP.out HN.out).symm, hb.trans (hb'.mono hb.size)⟩
   | false =>
    have HP := Lib.hid hp
    clear hp
    go_wp2_with fail
    go_roundw
    case rel => exact ⟨k + 1, by omega, by go_num, take_snoc_all HX.out HP.out HN.out, hb.trans (hb'.mono hb.size)⟩
    case measure => simp [intOf]; omega
  ·go_wp2_with fail
   go_ret
   exact ⟨ret_int (idx_none (by
    have := HN.out
    rwa [List.take_of_length_le (by have := hr.len; omega)] at this)).symm, hb⟩

set_option maxHeartbeats 1000000 in
theorem containsFunc_int (F : FuncId) (C : Array Value) (p : Int → Bool) (A : Option Addr) (n c : Nat) (l : List Int) (w : World) (hr : IntsAt w w.heap.size A n l) (hn : n ≤ maxLen)
  (hE : ∀ args W, (callFunc F args).run Try.prog W = .ok (.enter F args) W)
  (hF : ∀ x ∈ l, ∀ W, Below w.heap.size w W → Calls Try.prog F (#[.int .i64 x] ++ C) W fun e w' => e = .returned (.bool (p x)) ∧ Below W.heap.size W w') :
  Calls Try.prog 34 #[.slice A n c, .func (.func F) #[] C] w fun e w' => e = .returned (.bool (l.any p)) ∧ Below w.heap.size w w' := by
 have H := Lib.hid (indexFunc_int F C p A n c l w hr hn hE hF)
 clear hE hF
 go_enter Try.func34, Try.ntmps34
 go_wp2_with fail
 refine H.out.mono ?_
 rintro e w' ⟨rfl, hb⟩
 go_wp2_with fail
 go_ret
 exact ⟨ret_bool idx_ge, hb⟩
end Go.Proofs.Ytehgijdjnddfcaa
/- The walks of book.in. -/
namespace Go.Proofs.Ytehgijdjnddfcaa
open Go.RowKit

theorem out1_any (x lo hi : Int) (b1 b2 : Nat) (w : World) (h1 : w.cell? ⟨b1, 0, none⟩ = some (.int .i64 lo)) (h2 : w.cell? ⟨b2, 0, none⟩ = some (.int .i64 hi)) :
  Calls Try.prog 35 (#[.int .i64 x] ++ #[.pointer (some ⟨b1, 0, none⟩), .pointer (some ⟨b2, 0, none⟩)]) w fun e w' => e = .returned (.bool (decide (x < lo) || decide (hi < x))) ∧ Below w.heap.size w w' := by
 by_cases h : x < lo
 all_goals
  go_enter Try.func35, Try.ntmps35
  go_wp2
  go_ret
  refine ⟨ret_bool ?_, Below.refl _ _⟩
  by_cases q : x < lo <;> simp [q] <;> omega

theorem enters_in1 (args : Array Value) (W : World) : (callFunc 35 args).run Try.prog W = .ok (.enter 35 args) W := by
 simp [go_sem]

/-- Whether all numbers are from lo to hi. -/
def inB (lo hi : Int) (l : List Int) : Bool := !l.any fun n => decide (n < lo) || decide (hi < n)

theorem in_any (lo hi : Int) (A : Option Addr) (n c : Nat) (l : List Int) (w : World) (hr : IntsAt w w.heap.size A n l) (hn : n ≤ maxLen) :
  Calls Try.prog 23 #[.int .i64 lo, .int .i64 hi, .slice A n c] w fun e w' => e = .returned (.bool (inB lo hi l)) ∧ Below w.heap.size w w' := by
 have hmf : ∀ (fn : Fn) (first cap : Array Value) (w : World), (Instr.makeFunc fn first cap).run Try.prog w = .ok (.func fn first cap) w := fun _ _ _ _ => rfl
 go_enter Try.func23, Try.ntmps23
 go_wp2_with fail
 have hb : Below w.heap.size w ((w.alloc (.cells #[.int .i64 lo] 3)).alloc (.cells #[.int .i64 hi] 3)) := ((Below.refl _ _).alloc (Nat.le_refl _) _).alloc (by simp) _
 refine (containsFunc_int 35 _ (fun n => decide (n < lo) || decide (hi < n)) A n c l _ ((hr.below hb).more (by simp; omega)) hn enters_in1 ?_).mono ?_
 ·intro x _ W hW
  exact out1_any x lo hi _ _ W ((hW.cell (p := ⟨w.heap.size, 0, none⟩) (by simp; omega)).trans (by simp [go_sem])) ((hW.cell (p := ⟨w.heap.size + 1, 0, none⟩) (by simp)).trans (by simp [go_sem]))
 ·rintro e w' ⟨rfl, hb'⟩
  go_wp2_with fail
  go_ret
  exact ⟨rfl, hb.trans (hb'.mono (by simp; omega))⟩
theorem in1_any (lo hi x : Int) (g : Nat) (w : World) (hg : g < w.heap.size) (hc : w.cell? ⟨g, 0, none⟩ = some (.int .i64 x)) :
  Calls Try.prog 23 #[.int .i64 lo, .int .i64 hi, .slice (some ⟨g, 0, none⟩) 1 1] w fun e w' => e = .returned (.bool (inB lo hi [x])) ∧ Below w.heap.size w w' :=
 in_any lo hi _ 1 1 [x] w ⟨rfl, fun _ => ⟨_, rfl, hg, fun j u hu => by
  cases j with
  | zero => simp at hu; rw [← hu]; simpa [Addr.add] using hc
  | succ j => simp at hu⟩⟩ (by decide)
end Go.Proofs.Ytehgijdjnddfcaa
/- book.Number. -/
namespace Go.Proofs.Ytehgijdjnddfcaa
open Go.RowKit

theorem info_u8 : (Try.prog.info? 5).map (fun i => (i.zero, i.size, i.bytes)) = some (some (.int .u8 0), 1, 1) := by kernel_rfl
theorem elem_row : ElemAt Try.prog 57 5 (.int .u8 0) 1 1 := by
 obtain ⟨i0, hi, hz0, hz1, hz2⟩ := info_parts info_u8
 exact ⟨i0, Try.underlying57, hi, hz0, hz1, hz2, rfl, by decide⟩
def bytesV (l : List UInt8) : List Value := l.map fun b => .int .u8 (b.toNat : Int)
theorem or128 (x : Nat) (hx : x < 128) : Go.bits BinOp.or IntKind.u8 (x : Int) 128 = (((UInt8.ofNat (128 + x)).toNat : Nat) : Int) := by
 have h : ∀ x ∈ List.range 128, Go.bits BinOp.or IntKind.u8 (x : Int) 128 = (((UInt8.ofNat (128 + x)).toNat : Nat) : Int) := by decide +kernel
 exact h x (List.mem_range.2 hx)
theorem one_u8 {W : World} {g : Nat} {x : Int} {B : Nat} (hB : g < B) (h : W.cell? ⟨g, 0, none⟩ = some (.int .u8 x)) : Reads W B 1 (some ⟨g, 0, none⟩) 1 [.int .u8 x] :=
 ⟨rfl, fun _ => ⟨_, rfl, hB, fun j u hu => by
  match j, hu with
  | 0, hu => simp at hu; rw [← hu]; simpa [Addr.add] using h⟩⟩
/-- Some of a number's bytes are in the row. -/
structure AddI (w : World) (gr n m : Nat) (W : World) : Prop where
 ex : ∃ B q pre, pre ++ encN m = encN n ∧ Blk W gr 57 #[.slice B (List.length pre) q] ∧ Own W w.heap.size 5 1 B pre.length q (bytesV pre)
 gr : w.grownBy W (some gr)
/-- All are. -/
structure AddO (w : World) (gr n : Nat) (W : World) : Prop where
 ex : ∃ B q, Blk W gr 57 #[.slice B (encN n).length q] ∧ Own W w.heap.size 5 1 B (encN n).length q (bytesV (encN n))
 gr : w.grownBy W (some gr)
theorem add_more {w W8 : World} {gr n m c8 : Nat} {A8 : Option Addr} {pre : List UInt8} (hg : gr < w.heap.size) (hm : 128 ≤ m) (he : pre ++ encN m = encN n) {B : Option Addr} {q : Nat} (hB : Blk W8 gr 57 #[.slice B pre.length q])
  (hO : Own W8 w.heap.size 5 1 A8 (pre.length + 1) c8 (bytesV pre ++ [.int .u8 (Go.bits BinOp.or IntKind.u8 ((m : Int) % 128) 128)])) (hG : w.grownBy W8 (some gr)) : AddI w gr n (m / 128) (W8.setCell ⟨gr, 0, none⟩ (.slice A8 (pre.length + 1) c8)) := by
 refine ⟨⟨A8, c8, pre ++ [UInt8.ofNat (128 + m % 128)], ?_, ?_, ?_⟩, grown_setCell hG (.inl rfl) _⟩
 ·rw [← he, encN_more (show ¬ m < 128 by omega), List.append_assoc]
  rfl
 ·rw [List.length_append]
  exact hB.set_ 0 (.slice A8 (pre.length + 1) c8)
 ·rw [List.length_append]
  have e : (m : Int) % 128 = ((m % 128 : Nat) : Int) := by omega
  rw [e, or128 _ (by omega)] at hO
  unfold bytesV at *
  rw [List.map_append]
  exact own_setCell hO (by dsimp only; omega) _
theorem add_last {w W8 : World} {gr n m c8 : Nat} {A8 : Option Addr} {pre : List UInt8} (hg : gr < w.heap.size) (hm : m < 128) (he : pre ++ encN m = encN n) {B : Option Addr} {q : Nat} (hB : Blk W8 gr 57 #[.slice B pre.length q])
  (hO : Own W8 w.heap.size 5 1 A8 (pre.length + 1) c8 (bytesV pre ++ [.int .u8 (m : Int)])) (hG : w.grownBy W8 (some gr)) : AddO w gr n (W8.setCell ⟨gr, 0, none⟩ (.slice A8 (pre.length + 1) c8)) := by
 rw [encN_small hm] at he
 refine ⟨⟨A8, c8, ?_, ?_⟩, grown_setCell hG (.inl rfl) _⟩
 ·rw [← he, List.length_append]
  exact hB.set_ 0 (.slice A8 (pre.length + 1) c8)
 ·rw [← he, List.length_append]
  have e : (((UInt8.ofNat m).toNat : Nat) : Int) = (m : Int) := by
   rw [UInt8.toNat_ofNat']
   omega
  unfold bytesV at *
  rw [List.map_append, List.map_cons, List.map_nil, e]
  exact own_setCell hO (by dsimp only; omega) _
set_option maxRecDepth 100000 in
set_option maxHeartbeats 4000000 in
theorem add_any (n : Nat) (hn : n ≤ 999999999) (gr ga c : Nat) (w : World) (hr : Blk w gr 57 #[.slice none 0 0]) (ha : w.cell? ⟨ga, 0, none⟩ = some (.int .i64 (n : Int))) (hg : ga < w.heap.size) :
  Calls Try.prog 24 #[.pointer (some ⟨gr, 0, none⟩), .slice (some ⟨ga, 0, none⟩) 1 c] w fun e w' => e = .returned (.tuple #[]) ∧ AddO w gr n w' := by
 have HR := Lib.hid hr
 have hrl := hr.lt
 clear hr
 go_enter Try.func24, Try.ntmps24
 go_wp2_with fail
 go_loopw [8] (fun v8 wr => (v8 = .int .i64 0 ∧ Hid (wr = w)) ∨ (v8 = .int .i64 1 ∧ Hid (AddO w gr n wr)))
  (fun v8 _ => 1 - (intOf v8).toNat)
 case atStart => exact .inl ⟨rfl, Lib.hid rfl⟩
 case round =>
  rcases hrel with ⟨rfl, hw⟩ | ⟨rfl, hO⟩
  ·obtain rfl := hw.out.symm
   clear hw
   go_wp2_with fail
   go_loopw [5] (fun v5 wq => ∃ m : Nat, v5 = .int .i64 (m : Int) ∧ Hid (m ≤ n ∧ AddI w gr n m wq)) (fun v5 _ => (intOf v5).toNat)
   case atStart => exact ⟨n, rfl, Lib.hid ⟨Nat.le_refl _, ⟨none, 0, [], rfl, HR.out, Own.none_ _ _ _ _⟩, grown_refl _ _⟩⟩
   case round =>
    obtain ⟨m, rfl, HI⟩ := hrel
    obtain ⟨B, q, pre, hpe, h1, h2⟩ := HI.out.2.ex
    have HPE := Lib.hid hpe
    have H1 := Lib.hid h1
    have H2 := Lib.hid h2
    have c0 := h1.cell 0
    have z0 := h1.frozen 0
    have l0 := h1.lt
    clear hpe h1 h2
    have hmn := HI.out.1
    by_cases hm : 128 ≤ m
    ·have hmd : decide ((128 : Int) ≤ (m : Int)) = true := by simp; omega
     have HO := Lib.hid (H2.out.alloc (.cells #[.int .u8 (Go.bits BinOp.or IntKind.u8 ((m : Int) % 128) 128)] 5))
     have HOB : Hid (Blk (wr.alloc (.cells #[.int .u8 (Go.bits BinOp.or IntKind.u8 ((m : Int) % 128) 128)] 5)) wr.heap.size 5 #[.int .u8 (Go.bits BinOp.or IntKind.u8 ((m : Int) % 128) 128)]) := Lib.hid (Blk.new _ _ _)
     have HLE := Lib.hid HI.out.2.gr.size
     have HPL := Lib.hid (show pre.length ≤ 1000000000 from by have h := congrArg List.length HPE.out; rw [List.length_append] at h; have := encN_len n; omega)
     go_wp2_with (first | (at_builtin; refine wpList_append_any _ rfl _ _ rfl elem_row rfl HO.out rfl (one_u8 (x := Go.bits BinOp.or IntKind.u8 ((m : Int) % 128) 128) HOB.out.lt (HOB.out.cell 0)) (by intro u hu; simp at hu; rw [hu]; rfl) (by have := HPL.out; unfold maxLen; omega) (by have := HPL.out; omega) (by have := HLE.out; simp; omega) ?_) | fail)
     rintro A8 c8 W8 hown hgr hA8
     have hrow : ∀ j, B.map (·.block) = some j → w.heap.size ≤ j := fun j e => own_rowS HO.out e
     have HB8 := Lib.hid ((H1.out.alloc (.cells #[.int .u8 (Go.bits BinOp.or IntKind.u8 ((m : Int) % 128) 128)] 5)).grown hgr (fun e => by have := hrow _ e.symm; omega))
     have HO8 := Lib.hid hown
     have HG8 := Lib.hid (show w.grownBy W8 (some gr) from grown_two (grown_alloc HI.out.2.gr _) hgr hrow)
     have d0 := HB8.out.cell 0
     have d1 := HB8.out.frozen 0
     have d2 := HB8.out.lt
     clear hown hgr hA8 hrow c0 z0 l0
     have HQ := Lib.hid (show (m : Int) / 128 = ((m / 128 : Nat) : Int) from by omega)
     go_wp2_with fail
     go_roundw
     case rel => exact ⟨m / 128, by rw [HQ.out], Lib.hid ⟨by omega, add_more hrl hm HPE.out HB8.out HO8.out HG8.out⟩⟩
     case measure => rw [HQ.out]; show ((m / 128 : Nat) : Int).toNat < (m : Int).toNat; omega
    ·have hmd : decide ((128 : Int) ≤ (m : Int)) = false := by simp; omega
     have HO := Lib.hid (H2.out.alloc (.cells #[.int .u8 ((m : Int))] 5))
     have HOB : Hid (Blk (wr.alloc (.cells #[.int .u8 ((m : Int))] 5)) wr.heap.size 5 #[.int .u8 ((m : Int))]) := Lib.hid (Blk.new _ _ _)
     have HLE := Lib.hid HI.out.2.gr.size
     have HPL := Lib.hid (show pre.length ≤ 1000000000 from by have h := congrArg List.length HPE.out; rw [List.length_append] at h; have := encN_len n; omega)
     go_wp2_with (first | (at_builtin; refine wpList_append_any _ rfl _ _ rfl elem_row rfl HO.out rfl (one_u8 (x := (m : Int)) HOB.out.lt (HOB.out.cell 0)) (by intro u hu; simp at hu; rw [hu]; rfl) (by have := HPL.out; unfold maxLen; omega) (by have := HPL.out; omega) (by have := HLE.out; simp; omega) ?_) | fail)
     rintro A8 c8 W8 hown hgr hA8
     have hrow : ∀ j, B.map (·.block) = some j → w.heap.size ≤ j := fun j e => own_rowS HO.out e
     have HB8 := Lib.hid ((H1.out.alloc (.cells #[.int .u8 ((m : Int))] 5)).grown hgr (fun e => by have := hrow _ e.symm; omega))
     have HO8 := Lib.hid hown
     have HG8 := Lib.hid (show w.grownBy W8 (some gr) from grown_two (grown_alloc HI.out.2.gr _) hgr hrow)
     have d0 := HB8.out.cell 0
     have d1 := HB8.out.frozen 0
     have d2 := HB8.out.lt
     clear hown hgr hA8 hrow c0 z0 l0
     go_wp2_with fail
     exact ⟨.inr ⟨rfl, Lib.hid (add_last hrl (by omega) HPE.out HB8.out HO8.out HG8.out)⟩, by simp [intOf]⟩
  ·go_wp2_with fail
   exact ⟨rfl, .tuple #[], by simp [results, Try.results24, go_sem], rfl, hO.out⟩
theorem cv_row (W : World) (B : Option Addr) (q n : Nat) {base : Nat} (h : Own W base 5 1 B (encN n).length q (bytesV (encN n))) :
  (convert 57 9 (.slice B (encN n).length q)).run Try.prog W = .ok (.string (encS n)) W := by
 have hne : (encN n).length ≠ 0 := by
  by_cases e : n < 128
  ·rw [encN_small e]; simp
  ·rw [encN_more e]; simp
 obtain ⟨a, rfl, hc⟩ : ∃ a, B = some a ∧ ∀ j (hj : j < (encN n).length), W.cell? (a.add j) = some (.int .u8 ((encN n)[j].toNat : Int)) := by
  obtain ⟨ad, hA, _, hc⟩ := (h.reads (Nat.le_refl _)).2 (by omega)
  refine ⟨ad, hA, fun j hj => hc j _ ?_⟩
  unfold bytesV
  rw [List.getElem?_map, List.getElem?_eq_getElem hj]
  rfl
 exact run_convert_bytes_back W _ _ _ a q (encN n) Try.underlying57 Try.underlying5 Try.underlying9 hc
set_option maxRecDepth 100000 in
set_option maxHeartbeats 4000000 in
theorem number_any (n : Int) (w : World) : Calls Try.prog 10 #[.int .i64 n] w fun e w' => e = .returned (if 0 ≤ n ∧ n ≤ 999999999 then .tuple #[.string (encS n.toNat), .int .i64 0] else .tuple #[.string ⟨#[]⟩, .int .i64 110]) ∧ Below w.heap.size w w' := by
 by_cases h : 0 ≤ n ∧ n ≤ 999999999
 ·obtain ⟨k, rfl⟩ : ∃ k : Nat, n = k := ⟨n.toNat, by omega⟩
  have hk : k ≤ 999999999 := by omega
  simp only [if_pos h, Int.toNat_natCast]
  have HI : Hid (inB 0 999999999 [(k : Int)] = true) := Lib.hid (by unfold inB; simp; omega)
  clear h
  go_enter Try.func10, Try.ntmps10
  go_wp2_with fail
  have hb : Below w.heap.size w (w.alloc (.cells #[.int .i64 (k : Int)] 3)) := (Below.refl _ _).alloc (Nat.le_refl _) _
  refine (in1_any 0 999999999 (k : Int) w.heap.size _ (by simp) (by simp [go_sem])).mono ?_
  rw [HI.out]
  rintro e w1 ⟨rfl, hb1⟩
  have HB1 := Lib.hid (show Below w.heap.size w w1 from hb.trans (hb1.mono (by simp)))
  clear hb hb1
  have HX := Lib.hid (Lay.two w1 57 #[.slice none 0 0] 3 #[.int .i64 (k : Int)])
  go_wp2_with fail
  have HZ := Lib.hid (show ((w1.alloc (.cells #[.slice none 0 0] 57)).alloc (.cells #[.int .i64 (k : Int)] 3)).heap.size = w1.heap.size + 2 from by simp)
  generalize (w1.alloc (.cells #[.slice none 0 0] 57)).alloc (.cells #[.int .i64 (k : Int)] 3) = W2 at *
  refine (add_any k hk w1.heap.size (w1.heap.size + 1) 1 W2 (HX.out.blk 0 rfl) ((HX.out.blk 1 rfl).cell 0) (HX.out.lt 1 rfl)).mono ?_
  rintro e W3 ⟨rfl, hO⟩
  obtain ⟨B, q, h1, h2⟩ := hO.ex
  have HB3 := Lib.hid (show Below w.heap.size w W3 from HB1.out.trans (Below.trans (HX.out.1.mono HB1.out.size) (below_of_grown (B := w.heap.size) hO.gr (fun j e => by cases e; exact HB1.out.size) (by have := HB1.out.size; have := HZ.out; omega))))
  have hcv := cv_row W3 B q k h2
  have c0 := h1.cell 0
  have l0 := h1.lt
  clear h1 h2 hO
  go_wp2_with fail
  go_ret2
  exact ⟨rfl, HB3.out⟩
 ·simp only [if_neg h]
  have HI : Hid (inB 0 999999999 [n] = false) := Lib.hid (by unfold inB; simp; omega)
  clear h
  go_enter Try.func10, Try.ntmps10
  go_wp2_with fail
  have hb : Below w.heap.size w (w.alloc (.cells #[.int .i64 n] 3)) := (Below.refl _ _).alloc (Nat.le_refl _) _
  refine (in1_any 0 999999999 n w.heap.size _ (by simp) (by simp [go_sem])).mono ?_
  rw [HI.out]
  rintro e w1 ⟨rfl, hb1⟩
  have HB1 := Lib.hid (show Below w.heap.size w w1 from hb.trans (hb1.mono (by simp)))
  clear hb hb1
  go_wp2_with fail
  go_ret2
  exact ⟨rfl, HB1.out⟩
end Go.Proofs.Ytehgijdjnddfcaa
/- The answer's next and Numbers. -/
namespace Go.Proofs.Ytehgijdjnddfcaa
open Go.RowKit

def nextV (s : ByteArray) (p : Nat) : Value := match decN5 s.data.toList p with
 | none => .tuple #[.int .i64 0, .int .i64 (-1)]
 | some (n, to') => .tuple #[.int .i64 (n : Int), .int .i64 (to' : Int)]
theorem nextV_none {s : ByteArray} {p : Nat} (h : decN5 s.data.toList p = none) : nextV s p = .tuple #[.int .i64 0, .int .i64 (-1)] := by unfold nextV; rw [h]
theorem nextV_some {s : ByteArray} {p n to' : Nat} (h : decN5 s.data.toList p = some (n, to')) : nextV s p = .tuple #[.int .i64 (n : Int), .int .i64 (to' : Int)] := by unfold nextV; rw [h]
theorem byte_at' (a : ByteArray) (k : Nat) (h : k < a.size) : a.data.toList[k]? = some a[k] := by
 rw [List.getElem?_eq_getElem (by simpa using h)]; rfl
theorem mul_byte (b : UInt8) {i : Nat} (hi : i < 5) : wrap64 ((b.toNat : Int).tmod 128 * 128 ^ i) = ((b.toNat % 128 * 128 ^ i : Nat) : Int) := by
 have h := sh_byte b hi
 have h2 : ((2 : Int) ^ (7 * i)) = (128 : Int) ^ i := by rw [Int.pow_mul]; rfl
 rwa [h2] at h
theorem pow_small {i : Nat} (hi : i < 5) : 128 ^ i ≤ 268435456 := Nat.pow_le_pow_right (n := 128) (by decide) (show i ≤ 4 by omega)
theorem add_byte {m c i : Nat} (hi : i < 5) (hm : m < 128 ^ i) (hc : c < 128) : wrap64 ((m : Int) + ((c * 128 ^ i : Nat) : Int)) = ((m + c * 128 ^ i : Nat) : Int) := by
 have h3 := pow_small hi
 have h4 : c * 128 ^ i ≤ 127 * 268435456 := Nat.mul_le_mul (by omega) h3
 unfold wrap64
 omega
theorem place_up {i : Nat} (hi : i < 5) : wrap64 ((128 : Int) ^ i * 128) = ((128 ^ (i + 1) : Nat) : Int) := by
 have h3 := pow_small hi
 have h2 : (128 : Int) ^ i = ((128 ^ i : Nat) : Int) := by simp
 rw [h2, Nat.pow_succ]
 unfold wrap64
 omega
set_option maxRecDepth 100000 in
set_option maxHeartbeats 4000000 in
theorem rnext_any (s : ByteArray) (hs : s.size ≤ 2000) (p : Nat) (hp : p ≤ 2000) (w : World) :
  Calls Try.prog 29 #[.string s, .int .i64 (p : Int)] w fun e w' => e = .returned (nextV s p) ∧ w' = w := by
 go_enter Try.func29, Try.ntmps29
 go_wp2_with fail
 go_loopw [6, 7, 8] (fun v6 v7 v8 wr => ∃ i m : Nat, v6 = .int .i64 (m : Int) ∧ v7 = .int .i64 ((128 ^ i : Nat) : Int) ∧ v8 = .int .i64 ((p + i : Nat) : Int) ∧ Hid (DecSt s.data.toList p i m) ∧ w = wr)
  (fun _ _ v8 _ => p + 6 - (intOf v8).toNat)
 case atStart => exact ⟨0, 0, rfl, rfl, rfl, Lib.hid (DecSt.zero _ _), rfl⟩
 case round =>
  obtain ⟨i, m, rfl, rfl, rfl, HD, hw⟩ := hrel
  obtain rfl := hw
  have hi5 := HD.out.i5
  by_cases hl : p + i < s.size
  ·by_cases h5 : i < 5
   ·have HBY := Lib.hid (byte_at' s (p + i) hl)
    have d1 : decide (((p + i : Nat) : Int) < (s.size : Int)) = true := by simp; omega
    have d2 : decide (((p + i : Nat) : Int) < (p : Int) + 5) = true := by simp; omega
    go_upto_region 7 with fail
    rw [wrap_byte s[p + i], mul_byte s[p + i] h5, add_byte h5 HD.out.lt (by omega), place_up h5]
    have HLA := Lib.hid (fun h => HD.out.last h5 HBY.out h)
    have HTE := Lib.hid (fun h => HD.out.step h5 HBY.out h)
    clear HBY d1 d2
    obtain ⟨m', hm'⟩ : ∃ m', m + s[p + i].toNat % 128 * 128 ^ i = m' := ⟨_, rfl⟩
    rw [hm'] at HLA HTE ⊢
    clear hm'
    by_cases hb : s[p + i].toNat < 128
    ·have HN := Lib.hid (HLA.out hb)
     have hbd : decide ((s[p + i].toNat : Int) < 128) = true := by simp; omega
     by_cases hm : 999999999 < m'
     ·have hmd : decide ((999999999 : Int) < (m' : Int)) = true := by simp; omega
      have HR := Lib.hid (show nextV s p = _ from nextV_none (by rw [HN.out, if_pos (.inr hm)]))
      by_cases hz : s[p + i].toNat = 0
      ·by_cases h0 : 0 < i
       ·have d3 : decide ((p : Int) < (p : Int) + (i : Int)) = true := by simp; omega
        go_wp2_with fail
        exact bodyPost_ret (v := nextV s p) (by rw [HR.out]; simp [results, Try.results29, go_sem]) rfl ⟨rfl, rfl⟩
       ·have d3 : decide ((p : Int) < (p : Int) + (i : Int)) = false := by simp; omega
        go_wp2_with fail
        exact bodyPost_ret (v := nextV s p) (by rw [HR.out]; simp [results, Try.results29, go_sem]) rfl ⟨rfl, rfl⟩
      ·have hzd : ((s[p + i].toNat : Int) == 0) = false := by simp; omega
       go_wp2_with fail
       exact bodyPost_ret (v := nextV s p) (by rw [HR.out]; simp [results, Try.results29, go_sem]) rfl ⟨rfl, rfl⟩
     ·have hmd : decide ((999999999 : Int) < (m' : Int)) = false := by simp; omega
      by_cases hz : s[p + i].toNat = 0
      ·by_cases h0 : 0 < i
       ·have d3 : decide ((p : Int) < (p : Int) + (i : Int)) = true := by simp; omega
        have HR := Lib.hid (show nextV s p = _ from nextV_none (by rw [HN.out, if_pos (.inl ⟨hz, h0⟩)]))
        go_wp2_with fail
        exact bodyPost_ret (v := nextV s p) (by rw [HR.out]; simp [results, Try.results29, go_sem]) rfl ⟨rfl, rfl⟩
       ·have d3 : decide ((p : Int) < (p : Int) + (i : Int)) = false := by simp; omega
        have HR := Lib.hid (show nextV s p = _ from nextV_some (by rw [HN.out, if_neg (by omega)]))
        go_wp2_with fail
        exact bodyPost_ret (v := nextV s p) (by rw [HR.out]; simp [results, Try.results29, go_sem]) rfl ⟨rfl, rfl⟩
      ·have hzd : ((s[p + i].toNat : Int) == 0) = false := by simp; omega
       have HR := Lib.hid (show nextV s p = _ from nextV_some (by rw [HN.out, if_neg (by omega)]))
       go_wp2_with fail
       exact bodyPost_ret (v := nextV s p) (by rw [HR.out]; simp [results, Try.results29, go_sem]) rfl ⟨rfl, rfl⟩
    ·have hbd : decide ((s[p + i].toNat : Int) < 128) = false := by simp; omega
     go_wp2_with fail
     go_roundw
     case rel => exact ⟨i + 1, m', rfl, rfl, by go_num, Lib.hid (HTE.out hb), trivial⟩
     case measure => simp [intOf]; omega
   ·obtain rfl : i = 5 := by omega
    have d1 : decide (((p + 5 : Nat) : Int) < (s.size : Int)) = true := by simp; omega
    have d2 : decide (((p + 5 : Nat) : Int) < (p : Int) + 5) = false := by simp
    have HR := Lib.hid (show nextV s p = _ from nextV_none HD.out.long)
    go_wp2_with fail
    exact bodyPost_ret (v := nextV s p) (by rw [HR.out]; simp [results, Try.results29, go_sem]) rfl ⟨rfl, rfl⟩
  ·have d1 : decide (((p + i : Nat) : Int) < (s.size : Int)) = false := by simp; omega
   have HR := Lib.hid (show nextV s p = _ from nextV_none (HD.out.short (by rw [List.getElem?_eq_none]; have := len_bytes s; omega)))
   go_wp2_with fail
   exact bodyPost_ret (v := nextV s p) (by rw [HR.out]; simp [results, Try.results29, go_sem]) rfl ⟨rfl, rfl⟩
end Go.Proofs.Ytehgijdjnddfcaa
/- The answer's Numbers. -/
namespace Go.Proofs.Ytehgijdjnddfcaa
open Go.RowKit

set_option maxRecDepth 100000 in
set_option maxHeartbeats 4000000 in
theorem rnumbers_any (s : ByteArray) (hs : s.size ≤ 2000) (w : World) : Calls Try.prog 13 #[.string s] w (NumbersOut s w) := by
 go_enter Try.func13, Try.ntmps13
 go_wp2_with fail
 go_loopw [4, 5] (fun v4 v5 wr => ∃ (p : Nat) (B : Option Addr) (q : Nat) (l : List Int), v4 = .slice B l.length q ∧ v5 = .int .i64 (p : Int) ∧ Hid (NumAt s.data.toList p l ∧ Own wr w.heap.size 3 1 B l.length q (l.map (Value.int .i64)) ∧ Below w.heap.size w wr))
  (fun _ v5 _ => s.size - (intOf v5).toNat)
 case atStart => exact ⟨0, none, 0, [], rfl, rfl, Lib.hid ⟨NumAt.zero _, Own.none_ _ _ _ _, Below.refl _ _⟩⟩
 case round =>
  obtain ⟨p, B, q, l, rfl, rfl, HS⟩ := hrel
  have HP := Lib.hid (show p ≤ s.size ∧ l.length ≤ p from by have := HS.out.1.small; have := len_bytes s; omega)
  by_cases hl : p < s.size
  ·have hp2 : p ≤ 2000 := by omega
   go_wp2_with fail
   refine (rnext_any s hs p (by omega) wr).mono ?_
   rintro e W1 ⟨rfl, hw⟩
   obtain rfl := hw.symm
   cases hd : decN5 s.data.toList p with
   | none =>
    rw [nextV_none hd]
    have HD := Lib.hid hd
    clear hd
    go_wp2_with fail
    exact bodyPost_ret (v := .tuple #[.slice none 0 0, .int .i64 111]) (by simp [results, Try.results13, go_sem]) rfl ⟨none, 0, [], 111, rfl, .inr ⟨rfl, rfl, p, l, HS.out.1, by have := len_bytes s; omega, HD.out⟩, Reads.none_, HS.out.2.2⟩
   | some x =>
    obtain ⟨m, to'⟩ := x
    rw [nextV_some hd]
    have HT := Lib.hid (dec_to hd)
    have HN := Lib.hid (HS.out.1.step (by have := len_bytes s; omega) hd)
    have HO := Lib.hid (HS.out.2.1.alloc (.cells #[.int .i64 (m : Int)] 3))
    have HOB : Hid (Blk (wr.alloc (.cells #[.int .i64 (m : Int)] 3)) wr.heap.size 3 #[.int .i64 (m : Int)]) := Lib.hid (Blk.new _ _ _)
    have HLE := Lib.hid HS.out.2.2.size
    clear hd
    have hto : ¬ ((to' : Int) < 0) := by omega
    go_wp2_with (first | (at_builtin; refine wpList_append_any _ rfl _ _ rfl elem_int rfl HO.out rfl (one_int (x := (m : Int)) HOB.out.lt (HOB.out.cell 0)) (ints_one _) (by have := HP.out; unfold maxLen; omega) (by have := HP.out; omega) (by have := HLE.out; simp; omega) ?_) | fail)
    rintro A8 c8 W8 hown hgr hA8
    have HB8 := Lib.hid (show Below w.heap.size w W8 from (HS.out.2.2.alloc HLE.out (.cells #[.int .i64 (m : Int)] 3)).grown hgr (by have := HLE.out; simp; omega) (fun j hj => own_rowS HO.out hj))
    have HO8 := Lib.hid hown
    clear hown hgr hA8
    go_wp2_with fail
    go_roundw
    case rel => exact ⟨to', A8, c8, l ++ [(m : Int)], by rw [List.length_append]; rfl, rfl, Lib.hid ⟨HN.out, by rw [List.length_append, List.map_append]; exact HO8.out, HB8.out⟩⟩
    case measure => have := HT.out; simp [intOf]; have := len_bytes s; omega
  ·go_wp2_with fail
   have hp : p = s.size := by have := HP.out; omega
   exact bodyPost_ret (v := .tuple #[.slice B l.length q, .int .i64 0]) (by simp [results, Try.results13, go_sem]) rfl ⟨B, q, l, 0, rfl, .inl ⟨rfl, by rw [len_bytes, ← hp]; exact HS.out.1⟩, HS.out.2.1.reads (Nat.le_refl _), HS.out.2.2⟩
end Go.Proofs.Ytehgijdjnddfcaa
