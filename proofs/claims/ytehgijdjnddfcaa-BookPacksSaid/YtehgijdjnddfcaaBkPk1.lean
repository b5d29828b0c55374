/- Part 1 of the texts of this claim, joined. -/
import Derived.Test.YtehgijdjnddfcaaRows
import Derived.WalkKit
import Derived.ProofKit
import Derived.Below
import Derived.Laws.OwnMore
import Derived.Deep.AppendLies
import Derived.Deep.Draws
import Derived.Laws.Rows
import Derived.Deep.QuietTactic
import Derived.BigQuiet
import Derived.Lib.Hide
import Derived.Outline
import Derived.WalkLawsBesides
import Derived.WalkSpells
import Derived.RangeFuncNested
import Derived.RangeFuncBound
import Derived.RangeFuncCalls
import Derived.RangeFuncLeaves
import Derived.Shelf.Abstract
import Derived.Shelf.RegionOpen
import Derived.OwnWalkIn
import Derived.TacticsInMore
import Derived.LoopNIn
import Derived.LoopIn
import Derived.Maps.AppendAt
import Derived.Lib.SliceRun
import Derived.Laws.IdiomCopy
import Derived.RecoverIn
import Derived.Sort.BigQuietIn
import Derived.StillTail
import Derived.Lib.AppendZeros
import Derived.Shelf.Spec.SlicesInsert
import Derived.Lib.Overlaps
import Derived.Sort.CutIn
import Derived.Shelf.Lay
import Derived.Shelf.Strings.OnBuilder
import Derived.Ground.NamesProg
import Derived.Deep.Cut
import Derived.Deep.RegionWith
import Derived.Laws.BytesArg
import Derived.Laws.IdiomStrings
set_option linter.unusedVariables false
/- Words for memory: a slice that reads as a list, nil let in; frames behind draws. -/
namespace Go.Proofs.Ytehgijdjnddfcaa
open Go.RowKit

theorem ret_int {k : IntKind} {a b : Int} (h : a = b) : Ending.returned (.int k a) = .returned (.int k b) := by rw [h]
theorem ret_bool {a b : Bool} (h : a = b) : Ending.returned (.bool a) = .returned (.bool b) := by rw [h]

theorem block_of_add (a : Addr) (n : Nat) : (a.add n).block = a.block := by unfold Addr.add; split <;> rfl
theorem below_drewN {B : Nat} {a w : World} (h : Below B a w) (n : Nat) : Below B a (w.drewN n) := ⟨h.os, h.tape, h.output, h.size, h.block⟩

/-- The slice value '.slice A n c' holds the cells xs ('size' cells an element), below block B. -/
def Reads (w : World) (B size : Nat) (A : Option Addr) (n : Nat) (xs : List Value) : Prop :=
 xs.length = n * size ∧ (0 < n → ∃ ad, A = some ad ∧ ad.block < B ∧ ∀ j u, xs[j]? = some u → w.cell? (ad.add j) = some u)

section
variable {w w' : World} {B B' size n : Nat} {A : Option Addr} {xs : List Value}
theorem Reads.none_ : Reads w B size A 0 [] := ⟨by simp, fun h => absurd h (by omega)⟩
/-- Where there is a cell the address is plain. -/
theorem Reads.plain (h : Reads w B size A n xs) (hx : 0 < xs.length) : ∃ b off, A = some ⟨b, off, none⟩ ∧ b < B ∧ ∀ j u, xs[j]? = some u → w.cell? ⟨b, off + j, none⟩ = some u := by
 have hn : 0 < n := by
  rcases Nat.eq_zero_or_pos n with h0 | h0
  ·have := h.1; rw [h0] at this; omega
  ·exact h0
 obtain ⟨ad, e, hb, hc⟩ := h.2 hn
 obtain ⟨b, off, spot⟩ := ad
 have h0 := hc 0 _ (List.getElem?_eq_getElem hx)
 have hs : spot = none := by
  cases spot with
  | none => rfl
  | some s => simp [Addr.add, World.cell?] at h0; split at h0 <;> simp at h0
 subst hs
 refine ⟨b, off, e, hb, fun j u hu => ?_⟩
 have := hc j u hu
 unfold Addr.add at this
 by_cases hj : j = 0
 ·subst hj; simpa using this
 ·simpa [hj] using this
theorem Reads.keep (h : Reads w B size A n xs) (hk : ∀ p : Addr, p.block < B → w'.cell? p = w.cell? p) : Reads w' B size A n xs :=
 ⟨h.1, fun hn => by
  obtain ⟨ad, e, hb, hc⟩ := h.2 hn
  exact ⟨ad, e, hb, fun j u hu => (hk _ (by rw [block_of_add]; exact hb)).trans (hc j u hu)⟩⟩
theorem Reads.more (h : Reads w B size A n xs) (hB : B ≤ B') : Reads w B' size A n xs :=
 ⟨h.1, fun hn => by
  obtain ⟨ad, e, hb, hc⟩ := h.2 hn
  exact ⟨ad, e, by omega, hc⟩⟩
theorem Reads.below (h : Reads w B size A n xs) (hb : Below B w w') : Reads w' B size A n xs := h.keep fun _ hp => hb.cell hp
theorem Reads.drewN (h : Reads w B size A n xs) (k : Nat) : Reads (w.drewN k) B size A n xs := h
theorem Reads.alloc (h : Reads w B size A n xs) (hB : B ≤ w.heap.size) (o : Obj) : Reads (w.alloc o) B size A n xs := h.keep fun p hp => World.cell?_alloc_lt w o p (by omega)
theorem Reads.setCell (h : Reads w B size A n xs) {p : Addr} (hB : B ≤ p.block) (u : Value) : Reads (w.setCell p u) B size A n xs :=
 h.keep fun q hq => World.cell?_setCell_other w p q u (fun e => by subst e; omega)
end

/-- Block g is just the cells cs of element type t, none frozen. -/
def Blk (w : World) (g : Nat) (t : TypeId) (cs : Array Value) : Prop := w.heap[g]? = some (.cells cs t (0, 0))

section
variable {w w' : World} {g : Nat} {t : TypeId} {cs : Array Value}
theorem Blk.lt (h : Blk w g t cs) : g < w.heap.size := by
 rcases Nat.lt_or_ge g w.heap.size with hlt | hge
 ·exact hlt
 ·unfold Blk at h; rw [Array.getElem?_eq_none hge] at h; cases h
theorem Blk.cell (h : Blk w g t cs) (i : Nat) : w.cell? ⟨g, i, none⟩ = cs[i]? := cell_of_row w g i cs t (0, 0) h
theorem Blk.frozen (h : Blk w g t cs) (i : Nat) : w.frozen? ⟨g, i, none⟩ = false := by
 unfold Blk at h
 simp [World.frozen?, h]
theorem Blk.new (w : World) (t : TypeId) (cs : Array Value) : Blk (w.alloc (.cells cs t)) w.heap.size t cs := heap_alloc_new w _
theorem Blk.drewN (h : Blk w g t cs) (n : Nat) : Blk (w.drewN n) g t cs := h
theorem Blk.alloc (h : Blk w g t cs) (o : Obj) : Blk (w.alloc o) g t cs := (Below.heap_alloc w o g h.lt).trans h
theorem Blk.set_ (h : Blk w g t cs) (i : Nat) (u : Value) : Blk (w.setCell ⟨g, i, none⟩ u) g t (cs.setIfInBounds i u) := by
 unfold Blk at h ⊢
 simp [World.setCell, Array.getElem?_modify, h]
theorem Blk.far (h : Blk w g t cs) {p : Addr} (hp : g ≠ p.block) (u : Value) : Blk (w.setCell p u) g t cs := (Below.heap_setCell w p u g hp).trans h
theorem Blk.below {B : Nat} (h : Blk w g t cs) (hb : Below B w w') (hg : g < B) : Blk w' g t cs := (hb.block g hg).trans h
theorem Blk.grown {row : Option Nat} (h : Blk w g t cs) (hb : w.grownBy w' row) (hg : some g ≠ row) : Blk w' g t cs := (hb.block g h.lt hg).trans h
end

/-- A slice of ints. -/
def IntsAt (w : World) (B : Nat) (A : Option Addr) (n : Nat) (l : List Int) : Prop := Reads w B 1 A n (l.map (Value.int .i64))

section
variable {w w' : World} {B B' n : Nat} {A : Option Addr} {l : List Int}
theorem IntsAt.len (h : IntsAt w B A n l) : l.length = n := by have := h.1; simpa using this
theorem IntsAt.cell (h : IntsAt w B A n l) {k : Nat} (hk : k < n) : ∃ b off x, A = some ⟨b, off, none⟩ ∧ b < B ∧ l[k]? = some x ∧ w.cell? ⟨b, off + k, none⟩ = some (.int .i64 x) := by
 have hl := h.len
 obtain ⟨b, off, e, hb, hc⟩ := Reads.plain h (by simp; omega)
 have hx : l[k]? = some l[k] := List.getElem?_eq_getElem (by omega)
 exact ⟨b, off, _, e, hb, hx, hc k _ (by rw [List.getElem?_map, hx]; rfl)⟩
theorem IntsAt.below (h : IntsAt w B A n l) (hb : Below B w w') : IntsAt w' B A n l := Reads.below h hb
theorem IntsAt.more (h : IntsAt w B A n l) (hB : B ≤ B') : IntsAt w B' A n l := Reads.more h hB
end

/-- A new block that holds ints. -/
theorem IntsAt.new (w : World) (t : TypeId) (l : List Int) (B : Nat) (hB : w.heap.size < B) : IntsAt (w.alloc (.cells (l.map (Value.int .i64)).toArray t)) B (some ⟨w.heap.size, 0, none⟩) l.length l := by
 refine ⟨by simp, fun _ => ⟨_, rfl, hB, fun j u hu => ?_⟩⟩
 have ha : ((⟨w.heap.size, 0, none⟩ : Addr).add j) = ⟨w.heap.size, j, none⟩ := by
  unfold Addr.add
  by_cases hj : j = 0
  ·simp [hj]
  ·simp [hj]
 rw [ha, cell_of_row _ _ _ _ _ _ (heap_alloc_new w _)]
 simpa using hu

/-- The first place at which something is so; -1 if there is none. -/
def idx (p : Int → Bool) (l : List Int) : Int := if l.any p then (l.findIdx p : Int) else -1

theorem idx_none {p : Int → Bool} {l : List Int} (h : ∀ y ∈ l, p y = false) : idx p l = -1 := by
 unfold idx
 rw [if_neg]
 simp only [List.any_eq_true, not_exists, not_and, Bool.not_eq_true]
 exact h
theorem idx_some {p : Int → Bool} {l : List Int} {k : Nat} {x : Int} (hx : l[k]? = some x) (hp : p x = true) (h : ∀ y ∈ l.take k, p y = false) : idx p l = k := by
 obtain ⟨hk, rfl⟩ := List.getElem?_eq_some_iff.1 hx
 have hf : l.findIdx p = k := by
  rw [List.findIdx_eq hk]
  refine ⟨hp, fun j hj => ?_⟩
  have := h (l[j]'(by omega)) (by
   rw [List.mem_take_iff_getElem]
   exact ⟨j, by omega, rfl⟩)
  simp [this]
 unfold idx
 rw [if_pos (List.any_eq_true.2 ⟨_, List.getElem_mem hk, hp⟩), hf]
theorem idx_ge {p : Int → Bool} {l : List Int} : decide (0 ≤ idx p l) = l.any p := by
 unfold idx
 cases h : l.any p <;> simp
theorem take_snoc_all {α : Type} {p : α → Bool} {l : List α} {k : Nat} {x : α} (hx : l[k]? = some x) (hp : p x = false) (h : ∀ y ∈ l.take k, p y = false) : ∀ y ∈ l.take (k + 1), p y = false := by
 intro y hy
 obtain ⟨hk, rfl⟩ := List.getElem?_eq_some_iff.1 hx
 rw [List.take_succ_eq_append_getElem hk, List.mem_append] at hy
 rcases hy with hy | hy
 ·exact h y hy
 ·simp at hy; rw [hy]; exact hp
theorem mem_of_at {α : Type} {l : List α} {k : Nat} {x : α} (hx : l[k]? = some x) : x ∈ l := by
 obtain ⟨hk, rfl⟩ := List.getElem?_eq_some_iff.1 hx
 exact List.getElem_mem hk

end Go.Proofs.Ytehgijdjnddfcaa
/- A range over a function whose iterator lays what it yields: the contract tells the body what lies there; the body never leaves the loop. -/
namespace Go.Proofs.Ytehgijdjnddfcaa
open Go.RowKit

/-- The iterator g yields things x (encs x), each with 'At x'; a round keeps what Kp says; what has come in all is S. -/
def SeqAt {α : Type} (F : Fence) (n : Nat) (P : Program) (g : Nat) (lb : Array Value) (encs : α → Array Value) (At : α → World → Prop) (Kp : World → World → Prop) (S : List α → Prop) (w : World) : Prop :=
 ∀ (l : Nat) (J : List α → World → Prop) (W : World), Below w.heap.size w W → (∀ s A B, J s A → Below A.heap.size A B → J s B) →
  (∀ pre x W1, J pre W1 → At x W1 → YieldAt F (n - 1) P l (encs x) W1 fun e W' => e = .returned (.bool true) ∧ J (pre ++ [x]) W' ∧ Kp W1 W') →
  J [] W → CallsIn F n P g (#[.func (.yield l) #[] #[]] ++ lb) W fun e W' => (∃ v, e = .returned v) ∧ ∃ xs, S xs ∧ J xs W'

end Go.Proofs.Ytehgijdjnddfcaa
/- A region that draws its order, by an invariant: whatever has been carried out, each operation that may come up keeps it. -/
namespace Go.Proofs.Ytehgijdjnddfcaa
open Go.RowKit

section
variable {F : Fence} {n : Nat} {P : Program} {ops : Array Oper} {Q : Exit → Act → World → Prop}

theorem openCount_set {listed : Array Bool} {i : Nat} (hi : listed.getD i true = false) : ((listed.setIfInBounds i true).toList.count false) + 1 ≤ listed.toList.count false := by
 have hlt : i < listed.size := by
  rcases Nat.lt_or_ge i listed.size with h | h
  ·exact h
  ·rw [Array.getD_eq_getD_getElem?, Array.getElem?_eq_none h] at hi; cases hi
 have hv : listed.toList[i]'(by simpa using hlt) = false := by
  rw [Array.getD_eq_getD_getElem?, Array.getElem?_eq_getElem hlt] at hi
  simpa using hi
 have h1 : 0 < listed.toList.count false := List.count_pos_iff.2 (by rw [← hv]; exact List.getElem_mem _)
 have h2 := List.count_set (a := true) (b := false) (l := listed.toList) (i := i) (by simpa using hlt)
 rw [hv] at h2
 rw [Array.toList_setIfInBounds, h2]
 simp only [BEq.rfl, if_true]
 have h3 : (true == false) = false := rfl
 simp only [h3, Bool.false_eq_true, if_false]
 omega

theorem wpAnyIn_inv (St : Array Bool → Act → World → Prop)
  (hsize : ∀ listed a w, St listed a w → listed.size = ops.size)
  (hstep : ∀ listed a w i o, ops[i]? = some o → listed.getD i true = false → (∀ e ∈ o.after, Region.binds .any e = true → listed.getD e.on false = true) → St listed a w → wpListIn F n P ops (Exit.then (St (listed.setIfInBounds i true)) Q) [o] a w)
  (hend : ∀ listed a w, Region.ready .any ops listed = [] → St listed a w → Q .normal a w) :
  ∀ fuel listed a w, listed.toList.count false ≤ fuel → St listed a w → wpAnyIn F n P .any ops Q fuel listed a w := by
 have hop : ∀ listed a w i, i ∈ Region.ready .any ops listed → St listed a w → wpOpIn F n P ops Q i (St (listed.setIfInBounds i true)) a w := by
  intro listed a w i hi hs
  obtain ⟨h1, o, ho, h2⟩ := mem_ready.1 hi
  have h3 := hstep listed a w i o ho h1 h2 hs
  unfold wpOpIn
  simp only [ho]
  simp only [wpListIn] at h3
  split
  ·rename_i hw
   rw [if_pos hw] at h3
   unfold Oper.wpIn at h3 ⊢
   refine ⟨h3.1, ?_⟩
   have h4 := h3.2
   generalize (o.semAt F.round a.eval).run P w = r at h4 ⊢
   cases r with
   | ok x w' =>
    cases x <;> simp only [Oper.uponIn, Exit.then] at h4 ⊢ <;>
     first
      | exact h4
      | exact ⟨h4.1, CallsIn.mono h4.2 (fun e w'' he => by cases e <;> exact he)⟩
      | exact ⟨h4.1, RoundIn.mono h4.2 (fun e w'' he => by cases e <;> exact he)⟩
   | halt x w' => cases x <;> simp only [Oper.uponIn, Exit.then] at h4 ⊢ <;> exact h4
  ·rename_i hw
   rw [if_neg hw] at h3
   exact h3
 intro fuel
 induction fuel with
 | zero =>
  intro listed a w hf hs
  have hnil : Region.ready .any ops listed = [] := by
   cases hr : Region.ready .any ops listed with
   | nil => rfl
   | cons i rs =>
    have hi : i ∈ Region.ready .any ops listed := by rw [hr]; simp
    have := openCount_set (mem_ready.1 hi).1
    omega
  exact ⟨hnil, hend listed a w hnil hs⟩
 | succ fuel ih =>
  intro listed a w hf hs
  refine ⟨fun h0 => hend listed a w h0 hs, fun i hi => ?_⟩
  have hc := openCount_set (mem_ready.1 hi).1
  exact wpOpIn_mono (fun a' w' h' => ih _ a' w' (by omega) h') (hop listed a w i hi hs)

/-- What has been carried out is shut: with each operation those that it waits for. -/
def ShutL (ops : Array Oper) (listed : Array Bool) : Prop := ∀ k o, ops[k]? = some o → listed.getD k false = true → ∀ e ∈ o.after, Region.binds .any e = true → listed.getD e.on false = true
theorem getD_set_keep {listed : Array Bool} {i k : Nat} (h : listed.getD k false = true) : (listed.setIfInBounds i true).getD k false = true := by
 rw [Array.getD_eq_getD_getElem?] at h ⊢
 rw [Array.getElem?_setIfInBounds]
 split
 ·rename_i e
  subst e
  split
  ·rfl
  ·rename_i hn
   rw [Array.getElem?_eq_none (by omega)] at h
   cases h
 ·exact h
theorem getD_set_off {listed : Array Bool} {i k : Nat} (hne : k ≠ i) (h : (listed.setIfInBounds i true).getD k false = true) : listed.getD k false = true := by
 rw [Array.getD_eq_getD_getElem?] at h ⊢
 rw [Array.getElem?_setIfInBounds, if_neg (fun e => hne e.symm)] at h
 exact h
theorem ShutL.step {ops : Array Oper} {listed : Array Bool} {i : Nat} {o : Oper} (h : ShutL ops listed) (ho : ops[i]? = some o) (hw : ∀ e ∈ o.after, Region.binds .any e = true → listed.getD e.on false = true) : ShutL ops (listed.setIfInBounds i true) := by
 intro k o' ho' hk e he hb
 by_cases hki : k = i
 ·subst hki
  rw [ho] at ho'
  cases ho'
  exact getD_set_keep (hw e he hb)
 ·exact getD_set_keep (h k o' ho' (getD_set_off hki hk) e he hb)
theorem ShutL.none (ops : Array Oper) (n : Nat) : ShutL ops (Array.replicate n false) := by
 intro k o ho hk
 rw [Array.getD_eq_getD_getElem?, Array.getElem?_replicate] at hk
 split at hk <;> cases hk
/-- THE LAW. -/
theorem wpIn_region_inv {id : Nat} {a : Act} {w : World} (hm : P.follows .mixedOrders = true) (St : Array Bool → Act → World → Prop)
  (hsize : ∀ listed a w, St listed a w → listed.size = ops.size)
  (h0 : St (Array.replicate ops.size false) a w.drew)
  (hstep : ∀ listed a w i o, ops[i]? = some o → listed.getD i true = false → (∀ e ∈ o.after, Region.binds .any e = true → listed.getD e.on false = true) → St listed a w → wpListIn F n P ops (Exit.then (St (listed.setIfInBounds i true)) Q) [o] a w)
  (hend : ∀ listed a w, Region.ready .any ops listed = [] → St listed a w → Q .normal a w) : (Code.region id ops true).wpIn F n P Q a w :=
 wpIn_region_any hm (wpAnyIn_inv St hsize hstep hend _ _ _ _ (by rw [Array.toList_replicate, List.count_replicate]; simp) h0)

/-- What has been carried out, one operation more. -/
def done (L : Nat → Bool) (i : Nat) : Nat → Bool := fun k => if k = i then true else L k

/-- THE LAW, over the set of operations that have been carried out; 'act s': the frame, its slots s. -/
theorem wpIn_region_L {σ : Type} {id : Nat} {a : Act} {w : World} (hm : P.follows .mixedOrders = true) (act : σ → Act) (inv : (Nat → Bool) → σ → World → Prop)
  (h0 : ∃ s, a = act s ∧ inv (fun _ => false) s w.drew)
  (hstep : ∀ L i o s W, ops[i]? = some o → L i = false → (∀ e ∈ o.after, Region.binds .any e = true → L e.on = true) → inv L s W → wpListIn F n P ops (Exit.then (fun a' W' => ∃ s', a' = act s' ∧ inv (done L i) s' W') Q) [o] (act s) W)
  (hend : ∀ L s W, (∀ k, k < ops.size → L k = true) → inv L s W → Q .normal (act s) W) (hdag : ∀ L : Nat → Bool, (∀ i o, ops[i]? = some o → L i = false → ∃ e ∈ o.after, Region.binds .any e = true ∧ L e.on = false) → ∀ k, k < ops.size → L k = true) : (Code.region id ops true).wpIn F n P Q a w := by
 refine wpIn_region_inv hm (fun listed a W => listed.size = ops.size ∧ ∃ s, a = act s ∧ inv (fun k => listed.getD k false) s W) (fun _ _ _ h => h.1) ?_ ?_ ?_
 ·obtain ⟨s, h1, h2⟩ := h0
  refine ⟨by simp, s, h1, ?_⟩
  have : (fun k => (Array.replicate ops.size false).getD k false) = fun _ => false := by
   funext k
   rw [Array.getD_eq_getD_getElem?, Array.getElem?_replicate]
   split <;> rfl
  rw [this]; exact h2
 ·rintro listed a W i o ho hu hd ⟨hsz, s, rfl, hi⟩
  have hlt : i < listed.size := by rw [hsz]; exact (Array.getElem?_eq_some_iff.1 ho).1
  have hu' : listed.getD i false = false := by
   rw [Array.getD_eq_getD_getElem?, Array.getElem?_eq_getElem hlt] at hu ⊢
   simpa using hu
  have h := hstep (fun k => listed.getD k false) i o s W ho hu' hd hi
  have e : (fun k => (listed.setIfInBounds i true).getD k false) = done (fun k => listed.getD k false) i := by
   funext k
   unfold done
   by_cases hk : k = i
   ·subst hk
    rw [if_pos rfl, Array.getD_eq_getD_getElem?, Array.getElem?_setIfInBounds]
    simp [hlt]
   ·rw [if_neg hk, Array.getD_eq_getD_getElem?, Array.getElem?_setIfInBounds_ne (Ne.symm hk), ← Array.getD_eq_getD_getElem?]
  have hsz' : (listed.setIfInBounds i true).size = ops.size := by simpa using hsz
  simp only [e, hsz', true_and]
  exact h
 ·rintro listed a W hr ⟨hsz, s, rfl, hi⟩
  refine hend _ s W (hdag _ ?_) hi
  intro i o ho hu
  have hlt : i < listed.size := by rw [hsz]; exact (Array.getElem?_eq_some_iff.1 ho).1
  have hu' : listed.getD i true = false := by
   rw [Array.getD_eq_getD_getElem?, Array.getElem?_eq_getElem hlt] at hu ⊢
   simpa using hu
  have hno : ¬ i ∈ Region.ready .any ops listed := by rw [hr]; simp
  rw [mem_ready] at hno
  have h2 : ¬ ∀ e ∈ o.after, Region.binds .any e = true → listed.getD e.on false = true := fun h => hno ⟨hu', o, ho, h⟩
  have h3 : ∃ e, ¬ (e ∈ o.after → Region.binds .any e = true → listed.getD e.on false = true) := by
   refine Classical.byContradiction fun hc => h2 fun e => ?_
   exact Classical.byContradiction fun hc' => hc ⟨e, hc'⟩
  obtain ⟨e, he⟩ := h3
  have he1 : e ∈ o.after := Classical.byContradiction fun h => he fun h' => absurd h' h
  have he2 : Region.binds .any e = true := Classical.byContradiction fun h => he fun _ h' => absurd h' h
  have he3 : listed.getD e.on false = false := by
   cases hc : listed.getD e.on false with
   | false => rfl
   | true => exact absurd (fun _ _ => hc) he
  exact ⟨e, he1, he2, he3⟩

/-- The operations wait for earlier ones alone (where an edge binds at all). -/
def backB (ops : Array Oper) : Bool := (List.range ops.size).all fun i => ((ops[i]?).map fun o => o.after.all fun e => !Region.binds .any e || decide (e.on < i)).getD true
theorem dag_of_back (h : backB ops = true) (L : Nat → Bool) (hL : ∀ i o, ops[i]? = some o → L i = false → ∃ e ∈ o.after, Region.binds .any e = true ∧ L e.on = false) : ∀ k, k < ops.size → L k = true := by
 intro k
 induction k using Nat.strongRecOn with
 | _ k ih =>
  intro hk
  cases hc : L k with
  | true => rfl
  | false =>
   exfalso
   obtain ⟨e, he, hbnd, hf⟩ := hL k _ (Array.getElem?_eq_getElem hk) hc
   have hb := List.all_eq_true.1 h k (by simpa using hk)
   rw [Array.getElem?_eq_getElem hk] at hb
   simp only [Option.map_some, Option.getD_some] at hb
   rw [Array.all_eq_true_iff_forall_mem] at hb
   have hlt : e.on < k := by simpa [hbnd] using hb e he
   have := ih e.on hlt (by omega)
   rw [this] at hf
   cases hf

/-- One slot turned. -/
def upd (s : Nat → Value) (k : Nat) (v : Value) : Nat → Value := fun j => if j = k then v else s j

/-- What an operation waits for has been carried out. -/
def Waited (L : Nat → Bool) : List Edge → Prop
 | [] => True
 | e :: es => (Region.binds .any e = true → L e.on = true) ∧ Waited L es
theorem Waited.of {L : Nat → Bool} : ∀ {l : List Edge}, (∀ e ∈ l, Region.binds .any e = true → L e.on = true) → Waited L l
 | [], _ => trivial
 | e :: es, h => ⟨h e (by simp), Waited.of fun e' he => h e' (by simp [he])⟩

theorem Waited.at_ {L : Nat → Bool} : ∀ {l : List Edge}, Waited L l → ∀ (j : Nat), (l.any fun e => e.on == j && Region.binds .any e) = true → L j = true
 | [], _, j, h => by simp at h
 | e :: es, hw, j, h => by
  rw [List.any_cons, Bool.or_eq_true] at h
  rcases h with h | h
  ·simp only [Bool.and_eq_true, beq_iff_eq] at h
   rw [← h.1]; exact hw.1 h.2
  ·exact Waited.at_ hw.2 j h

/-- One obligation an operation. -/
def Steps {σ : Type} (F : Fence) (n : Nat) (P : Program) (ops : Array Oper) (act : σ → Act) (inv : (Nat → Bool) → σ → World → Prop) : Nat → List Oper → Prop
 | _, [] => True
 | i, o :: rest => (∀ L s W, L i = false → Waited L o.after.toList → inv L s W → ∀ (K : Act → World → Prop) (Q : Exit → Act → World → Prop), (∀ s' W', inv (done L i) s' W' → K (act s') W') → wpListIn F n P ops (Exit.then K Q) [o] (act s) W) ∧ Steps F n P ops act inv (i + 1) rest
theorem Steps.at_ {σ : Type} {act : σ → Act} {inv : (Nat → Bool) → σ → World → Prop} : ∀ {l : List Oper} {k i : Nat} {o : Oper}, Steps F n P ops act inv k l → l[i]? = some o →
  ∀ L s W, L (k + i) = false → Waited L o.after.toList → inv L s W → ∀ (K : Act → World → Prop) (Q : Exit → Act → World → Prop), (∀ s' W', inv (done L (k + i)) s' W' → K (act s') W') → wpListIn F n P ops (Exit.then K Q) [o] (act s) W
 | [], _, _, _, _, h => by simp at h
 | o' :: l, k, 0, o, hs, h => by simp at h; subst h; exact hs.1
 | o' :: l, k, i + 1, o, hs, h => by
  have := Steps.at_ (i := i) hs.2 (by simpa using h)
  rwa [show k + 1 + i = k + (i + 1) by omega] at this

end
end Go.Proofs.Ytehgijdjnddfcaa
/- A region that draws its order, by an invariant, outside a fence. -/
namespace Go.Proofs.Ytehgijdjnddfcaa
open Go.RowKit

section
variable {P : Program} {ops : Array Oper} {Q : Exit → Act → World → Prop}

/-- What is done has what it waits for. -/
def Down (l : List Oper) (L : Nat → Bool) : Prop := ∀ (j : Nat) o, l[j]? = some o → L j = true → Waited L o.after.toList
def afterB (l : List Oper) (j k : Nat) : Bool := match l[j]? with
 | some o => o.after.toList.any fun e => e.on == k && Region.binds .any e
 | none => false
theorem Down.at_ {l : List Oper} {L : Nat → Bool} (h : Down l L) (j k : Nat) (hj : L j = true) (hk : afterB l j k = true) : L k = true := by
 unfold afterB at hk
 split at hk
 ·rename_i o ho; exact (h j o ho hj).at_ k hk
 ·cases hk
theorem Down.no {l : List Oper} {L : Nat → Bool} (h : Down l L) (j k : Nat) (hj : L j = true) (hk : afterB l j k = true) (hf : L k = false) {p : Prop} : p := absurd ((h.at_ j k hj hk).symm.trans hf) (by decide)
theorem Waited.mono {L L' : Nat → Bool} (hL : ∀ k, L k = true → L' k = true) : ∀ {l : List Edge}, Waited L l → Waited L' l
 | [], _ => trivial
 | e :: es, h => ⟨fun hb => hL _ (h.1 hb), Waited.mono hL h.2⟩
theorem done_mono (L : Nat → Bool) (i k : Nat) (h : L k = true) : done L i k = true := by unfold done; split <;> simp_all
theorem Down.step {l : List Oper} {L : Nat → Bool} (h : Down l L) {i : Nat} {o : Oper} (ho : l[i]? = some o) (hw : Waited L o.after.toList) : Down l (done L i) := by
 intro j o' hj ht
 by_cases e : j = i
 ·subst e
  rw [ho] at hj
  cases hj
  exact hw.mono (done_mono L j)
 ·unfold done at ht
  rw [if_neg e] at ht
  exact (h j o' hj ht).mono (done_mono L i)

/-- One obligation an operation. -/
def StepsW {σ : Type} (P : Program) (ops : Array Oper) (D : (Nat → Bool) → Prop) (act : σ → Act) (inv : (Nat → Bool) → σ → World → Prop) : Nat → List Oper → Prop
 | _, [] => True
 | i, o :: rest => (∀ L s W, L i = false → Waited L o.after.toList → D L → inv L s W → ∀ (K : Act → World → Prop) (Q : Exit → Act → World → Prop), (∀ s' W', inv (done L i) s' W' → K (act s') W') → wpList P ops (Exit.then K Q) [o] (act s) W) ∧ StepsW P ops D act inv (i + 1) rest
theorem StepsW.at_ {σ : Type} {D : (Nat → Bool) → Prop} {act : σ → Act} {inv : (Nat → Bool) → σ → World → Prop} : ∀ {l : List Oper} {k i : Nat} {o : Oper}, StepsW P ops D act inv k l → l[i]? = some o →
  ∀ L s W, L (k + i) = false → Waited L o.after.toList → D L → inv L s W → ∀ (K : Act → World → Prop) (Q : Exit → Act → World → Prop), (∀ s' W', inv (done L (k + i)) s' W' → K (act s') W') → wpList P ops (Exit.then K Q) [o] (act s) W
 | [], _, _, _, _, h => by simp at h
 | o' :: l, k, 0, o, hs, h => by simp at h; subst h; exact hs.1
 | o' :: l, k, i + 1, o, hs, h => by
  have := StepsW.at_ (i := i) hs.2 (by simpa using h)
  rwa [show k + 1 + i = k + (i + 1) by omega] at this

end
end Go.Proofs.Ytehgijdjnddfcaa
/- A region that draws its order, inside a fence, by an invariant: what has been carried out has what it waits for. -/
namespace Go.Proofs.Ytehgijdjnddfcaa
open Go.RowKit

section
variable {F : Fence} {n : Nat} {P : Program} {Q : Exit → Act → World → Prop}
/-- One obligation an operation. -/
def StepsD {σ : Type} (F : Fence) (n : Nat) (P : Program) (ops : Array Oper) (D : (Nat → Bool) → Prop) (act : σ → Act) (inv : (Nat → Bool) → σ → World → Prop) : Nat → List Oper → Prop
 | _, [] => True
 | i, o :: rest => (∀ L s W, L i = false → Waited L o.after.toList → D L → inv L s W → ∀ (K : Act → World → Prop) (Q : Exit → Act → World → Prop), (∀ s' W', inv (done L i) s' W' → K (act s') W') → wpListIn F n P ops (Exit.then K Q) [o] (act s) W) ∧ StepsD F n P ops D act inv (i + 1) rest
theorem StepsD.at_ {σ : Type} {ops : Array Oper} {D : (Nat → Bool) → Prop} {act : σ → Act} {inv : (Nat → Bool) → σ → World → Prop} : ∀ {l : List Oper} {k i : Nat} {o : Oper}, StepsD F n P ops D act inv k l → l[i]? = some o →
  ∀ L s W, L (k + i) = false → Waited L o.after.toList → D L → inv L s W → ∀ (K : Act → World → Prop) (Q : Exit → Act → World → Prop), (∀ s' W', inv (done L (k + i)) s' W' → K (act s') W') → wpListIn F n P ops (Exit.then K Q) [o] (act s) W
 | [], _, _, _, _, h => by simp at h
 | o' :: l, k, 0, o, hs, h => by simp at h; subst h; exact hs.1
 | o' :: l, k, i + 1, o, hs, h => by
  have := StepsD.at_ (i := i) hs.2 (by simpa using h)
  rwa [show k + 1 + i = k + (i + 1) by omega] at this

/-- THE LAW. -/
theorem wpIn_region_stepsD {σ : Type} {id : Nat} {a : Act} {w : World} {l : List Oper} (hm : P.follows .mixedOrders = true) (hb : backB l.toArray = true) (act : σ → Act) (inv : (Nat → Bool) → σ → World → Prop) (s0 : σ)
  (ha : a = act s0) (h0 : inv (fun _ => false) s0 w.drew)
  (hstep : StepsD F n P l.toArray (Down l) act inv 0 l)
  (hend : ∀ L s W, (∀ k, k < l.length → L k = true) → inv L s W → Q .normal (act s) W) : (Code.region id l.toArray true).wpIn F n P Q a w := by
 refine wpIn_region_L hm act (fun L s W => Down l L ∧ inv L s W) ⟨s0, ha, (fun j o _ h => by cases h), h0⟩ ?_ ?_ (dag_of_back hb)
 ·rintro L i o s W ho hu hd ⟨hdn, hi⟩
  have hw : Waited L o.after.toList := Waited.of fun e he => hd e (by simpa using he)
  have := hstep.at_ (i := i) (o := o) (by simpa using ho) L s W (by simpa using hu) hw hdn hi
  simp only [Nat.zero_add] at this
  exact this _ Q fun s' W' h => ⟨s', rfl, hdn.step (by simpa using ho) hw, h⟩
 ·rintro L s W hall ⟨_, hi⟩
  exact hend L s W (fun k hk => hall k (by simpa using hk)) hi
end
end Go.Proofs.Ytehgijdjnddfcaa
/- A function that holds loops over functions, one behind another or in a loop, leaves with many marks among its deferred calls: each is shut, no call is made. -/
namespace Go.Proofs.Ytehgijdjnddfcaa
open Go.RowKit

/-- The marks: blocks of deferred calls without a call, at or above B, each but once. -/
def Marks (B : Nat) (w : World) : List Deferred → Prop
 | [] => True
 | d :: ds => (∃ r, B ≤ r ∧ d.target = .collected r ∧ w.heap[r]? = some (.deferred (some [])) ∧ ∀ d' ∈ ds, d'.target ≠ .collected r) ∧ Marks B w ds

theorem Marks.keep {B : Nat} {w w' : World} : ∀ {ds : List Deferred}, Marks B w ds → (∀ d ∈ ds, ∀ r, d.target = .collected r → w.heap[r]? = some (.deferred (some [])) → w'.heap[r]? = some (.deferred (some []))) → Marks B w' ds
 | [], _, _ => trivial
 | d :: ds, ⟨⟨r, h1, h2, h3, h4⟩, h5⟩, hk => ⟨⟨r, h1, h2, hk d (by simp) r h2 h3, h4⟩, Marks.keep h5 fun d' hd => hk d' (by simp [hd])⟩
theorem Marks.lt {B : Nat} {w : World} : ∀ {ds : List Deferred}, Marks B w ds → ∀ d ∈ ds, ∀ r, d.target = .collected r → r < w.heap.size
 | d :: ds, ⟨⟨r', h1, h2, h3, h4⟩, h5⟩, x, hx, r, hr => by
  rcases List.mem_cons.1 hx with rfl | hx
  ·rw [h2] at hr
   cases hr
   exact (Array.getElem?_eq_some_iff.1 h3).1
  ·exact Marks.lt h5 x hx r hr
theorem Marks.below {B : Nat} {w w' : World} {ds : List Deferred} (h : Marks B w ds) (hb : Below w.heap.size w w') : Marks B w' ds :=
 h.keep fun d hd r hr h0 => (hb.block r (h.lt d hd r hr)).trans h0
theorem Marks.more {B : Nat} {w : World} {ds : List Deferred} {D : Nat} (h : Marks B w ds) (hD : B ≤ D) (hd : w.heap[D]? = some (.deferred (some []))) (hn : ∀ d ∈ ds, ∀ r, d.target = .collected r → r < D) (a : Array Value) : Marks B w ({ target := .collected D, args := a } :: ds) :=
 ⟨⟨D, hD, rfl, hd, fun d' hd' e => absurd (hn d' hd' D e) (by omega)⟩, h⟩

/-- What shutting the marks leaves. -/
structure Shut (B : Nat) (w w' : World) : Prop where
 below : Below B w w'
 cells : ∀ (b : Nat) cs t fr, w.heap[b]? = some (.cells cs t fr) → w'.heap[b]? = some (.cells cs t fr)
theorem Shut.refl (B : Nat) (w : World) : Shut B w w := ⟨Below.refl _ _, fun _ _ _ _ h => h⟩
theorem Shut.trans {B : Nat} {w w' w'' : World} (h : Shut B w w') (k : Shut B w' w'') : Shut B w w'' := ⟨h.below.trans k.below, fun b cs t fr e => k.cells b cs t fr (h.cells b cs t fr e)⟩
theorem Shut.blk {B g : Nat} {w w' : World} {t : TypeId} {cs : Array Value} (h : Shut B w w') (b : Blk w g t cs) : Blk w' g t cs := h.cells _ _ _ _ b

theorem shut_put {B r : Nat} {w : World} (hB : B ≤ r) (h : w.heap[r]? = some (.deferred (some []))) : Shut B w (w.putObj r (.deferred none)) := by
 have hlt := (Array.getElem?_eq_some_iff.1 h).1
 refine ⟨(Below.refl B w).grown (grownBy_putObj' w r (.deferred none)) (by omega) (fun k e => by cases e; exact hB), fun b cs t fr e => ?_⟩
 have hne : b ≠ r := by
  intro e'
  subst e'
  rw [h] at e
  cases e
 exact (World.putObj_heap_other hne).trans e

end Go.Proofs.Ytehgijdjnddfcaa
/- One law on append, whatever its source; slices that a call owns. -/
namespace Go.Proofs.Ytehgijdjnddfcaa
open Go.RowKit

/-- The slice type t over elements e: zero value z, 'size' cells, 'bytes' bytes. -/
structure ElemI (P : Program) (t e : TypeId) (i : TypeInfo) (z : Value) (size bytes : Nat) : Prop where
 und : P.underlying t = some (.slice e)
 info : P.info? e = some i
 zero : i.zero = some z
 isize : i.size = size
 ibytes : i.bytes = bytes
 zcells : z.cells.size = size
 pos : 0 < size

def ElemAt (P : Program) (t e : TypeId) (z : Value) (size bytes : Nat) : Prop := ∃ i, ElemI P t e i z size bytes

/-- The call owns the slice (A, n, cap), which holds the cells xs. -/
def Own (w : World) (base : Nat) (e : TypeId) (size : Nat) (A : Option Addr) (n cap : Nat) (xs : List Value) : Prop := w.ownsRow base e size (.slice A n cap) n xs

section
variable {w w' : World} {base n cap size : Nat} {e : TypeId} {A : Option Addr} {xs : List Value}
theorem Own.none_ (w : World) (base : Nat) (e : TypeId) (size : Nat) : Own w base e size none 0 0 [] := World.ownsRow_nil w base e size
theorem Own.form (h : Own w base e size A n cap xs) : (A = none ∧ n = 0 ∧ cap = 0 ∧ xs = []) ∨ ∃ g cur, A = some ⟨g, 0, none⟩ ∧ base ≤ g ∧ Blk w g e cur ∧ n ≤ cap ∧ cap ≤ maxLen ∧ cur.size = cap * size ∧ cur.toList.take (n * size) = xs ∧ xs.length = n * size := by
 rcases h.2 with ⟨hv, h0⟩ | ⟨g, cap', cur, hv, hb, hg, h1, h2, h3, h4⟩
 ·simp at hv
  obtain ⟨rfl, rfl, rfl⟩ := hv
  exact .inl ⟨rfl, rfl, rfl, List.eq_nil_of_length_eq_zero (by simpa using h.1)⟩
 ·simp at hv
  obtain ⟨rfl, rfl⟩ := hv
  exact .inr ⟨g, cur, rfl, hb, hg, h1, h2, h3, h4, h.1⟩
theorem Own.len (h : Own w base e size A n cap xs) : xs.length = n * size := h.1
theorem Own.cap_le (h : Own w base e size A n cap xs) : n ≤ cap ∧ cap ≤ maxLen := by
 rcases h.form with ⟨_, rfl, rfl, _⟩ | ⟨_, _, _, _, _, h1, h2, _⟩
 ·exact ⟨Nat.le_refl _, by unfold maxLen; omega⟩
 ·exact ⟨h1, h2⟩
theorem Own.reads (h : Own w base e size A n cap xs) {B : Nat} (hB : w.heap.size ≤ B) : Reads w B size A n xs := by
 rcases h.form with ⟨rfl, rfl, rfl, rfl⟩ | ⟨g, cur, rfl, hb, hg, h1, h2, h3, h4, h5⟩
 ·exact Reads.none_
 ·refine ⟨h5, fun _ => ⟨_, rfl, Nat.lt_of_lt_of_le hg.lt hB, fun j u hu => ?_⟩⟩
  have ha : ((⟨g, 0, none⟩ : Addr).add j) = ⟨g, j, none⟩ := by
   unfold Addr.add
   by_cases hj : j = 0
   ·simp [hj]
   ·simp [hj]
  have hj : j < n * size := by
   rw [← h5]
   exact (List.getElem?_eq_some_iff.1 hu).1
  rw [ha, hg.cell, ← Array.getElem?_toList, ← hu, ← h4, List.getElem?_take, if_pos hj]
theorem Own.mono (h : Own w base e size A n cap xs) {b' : Nat} (hb : b' ≤ base) : Own w b' e size A n cap xs := by
 refine ⟨h.1, ?_⟩
 rcases h.2 with h' | ⟨g, cap', cur, hv, hb', hr⟩
 ·exact .inl h'
 ·exact .inr ⟨g, cap', cur, hv, Nat.le_trans hb hb', hr⟩
theorem Own.alloc (h : Own w base e size A n cap xs) (o : Obj) : Own (w.alloc o) base e size A n cap xs := World.ownsRow.alloc h o
theorem Own.drewN (h : Own w base e size A n cap xs) (k : Nat) : Own (w.drewN k) base e size A n cap xs := h
theorem Own.below {B : Nat} (h : Own w base e size A n cap xs) (hb : Below B w w') (hB : w.heap.size ≤ B) : Own w' base e size A n cap xs := by
 refine ⟨h.1, ?_⟩
 rcases h.2 with h' | ⟨g, cap', cur, hv, hb', hg, hr⟩
 ·exact .inl h'
 ·have hl : g < w.heap.size := by
   rcases Nat.lt_or_ge g w.heap.size with hlt | hge
   ·exact hlt
   ·rw [Array.getElem?_eq_none hge] at hg; cases hg
  exact .inr ⟨g, cap', cur, hv, hb', (hb.block g (by omega)).trans hg, hr⟩
/-- The own block, if there is one. -/
theorem Own.lt (h : Own w base e size A n cap xs) {a : Addr} (ha : A = some a) : base ≤ a.block ∧ a.block < w.heap.size := by
 rcases h.form with ⟨rfl, _⟩ | ⟨g, cur, rfl, hb, hg, _⟩
 ·cases ha
 ·cases ha; exact ⟨hb, hg.lt⟩
theorem Own.nil (h : Own w base e size none n cap xs) : n = 0 ∧ cap = 0 ∧ xs = [] := by
 rcases h.form with ⟨_, h1, h2, h3⟩ | ⟨g, cur, h', _⟩
 ·exact ⟨h1, h2, h3⟩
 ·cases h'
end

theorem ownBlock_slice (A : Option Addr) (n cap : Nat) : (Value.slice A n cap).ownBlock = A.map (·.block) := by
 cases A <;> rfl

section
variable {P : Program} (w : World)
/-- THE LAW ON append: the source may be nil, empty, or hold cells. -/
theorem run_append_any {t e : TypeId} (ty : TypeId) {z : Value} {size bytes : Nat} (EE : ElemAt P t e z size bytes) {base : Nat} {A : Option Addr} {n cap : Nat} {xs : List Value} (hown : Own w base e size A n cap xs)
  {A2 : Option Addr} {m c B : Nat} {news : List Value} (hR : Reads w B size A2 m news) (h1 : ∀ u ∈ news, u.oneCell' = true) (h63 : n + m ≤ maxLen) (hbytes : (n + m) * bytes ≤ 140737488355328) (hbase : base ≤ w.heap.size) :
  ∃ A' cap' w', (Builtin.append_ #[t, t] ty #[.slice A n cap, .slice A2 m c]).run P w = .ok (.slice A' (n + m) cap') w' ∧ Own w' base e size A' (n + m) cap' (xs ++ news) ∧ w.grownBy w' (A.map (·.block)) ∧ (A' = A ∨ A' = some ⟨w.heap.size, 0, none⟩) := by
 obtain ⟨i, E⟩ := EE
 have main : ∀ (ad : Addr), (∀ j u, news[j]? = some u → w.cell? (ad.add j) = some u) → ∃ A' cap' w', (Builtin.append_ #[t, t] ty #[.slice A n cap, .slice (some ad) m c]).run P w = .ok (.slice A' (n + m) cap') w' ∧ Own w' base e size A' (n + m) cap' (xs ++ news) ∧ w.grownBy w' (A.map (·.block)) ∧ (A' = A ∨ A' = some ⟨w.heap.size, 0, none⟩) := by
  intro ad hc
  obtain ⟨v', w', hr, h2, h3, h4, h5⟩ := run_append_own_at (P := P) w base t ty e i z size bytes E.und E.info E.zero E.isize E.ibytes E.zcells E.pos _ n xs hown ad m c news hR.1 hc h1 h63 hbytes hbase
  rw [ownBlock_slice] at h3
  rcases h2.2 with ⟨hv, h0⟩ | ⟨g, cap', cur, hv, hb, hg, _⟩
  ·subst hv
   have hn : n = 0 := by omega
   have hm : m = 0 := by omega
   have hA := (h4.1 rfl).1
   simp at hA
   obtain ⟨rfl, rfl, rfl⟩ := hA
   subst hm
   exact ⟨none, 0, w', hr, h2, h3, .inl rfl⟩
  ·subst hv
   refine ⟨_, cap', w', hr, h2, h3, ?_⟩
   rcases hown.form with ⟨rfl, rfl, rfl, _⟩ | ⟨g', cur', rfl, _⟩
   ·right
    rcases h5 with h5 | h5
    ·simp [Value.ownBlock] at h5
    ·simp [Value.ownBlock] at h5; rw [h5]
   ·rcases h5 with h5 | h5
    ·left; simp [Value.ownBlock] at h5; rw [h5]
    ·right; simp [Value.ownBlock] at h5; rw [h5]
 cases A2 with
 | some ad =>
  refine main ad ?_
  rcases Nat.eq_zero_or_pos m with h0 | h0
  ·have : news = [] := List.eq_nil_of_length_eq_zero (by rw [hR.1, h0]; simp)
   intro j u hu
   rw [this] at hu; simp at hu
  ·obtain ⟨ad', hA, _, hc⟩ := hR.2 h0
   cases hA
   exact hc
 | none =>
  rcases Nat.eq_zero_or_pos m with h0 | h0
  ·subst h0
   have hne : news = [] := List.eq_nil_of_length_eq_zero (by rw [hR.1]; simp)
   subst hne
   have hn : n ≤ cap := (Own.cap_le hown).1
   refine ⟨A, cap, w, ?_, by simpa using hown, ⟨rfl, rfl, rfl, Nat.le_refl _, fun _ _ _ => rfl⟩, .inl rfl⟩
   rcases hown.form with ⟨rfl, rfl, rfl, _⟩ | ⟨g, cur, rfl, _⟩
   ·simp [Builtin.append_, run_underlying E.und, sizeOf, typeInfo, E.info, Builtin.lenOf, Builtin.firstCells]
   ·simp [Builtin.append_, run_underlying E.und, sizeOf, typeInfo, E.info, Builtin.lenOf, Builtin.firstCells, hn, storeCells]
  ·obtain ⟨ad', hA, _⟩ := hR.2 h0
   cases hA

/-- At the operation, for the walk. -/
theorem wpList_append_any {ops : Array Oper} {rest : List Oper} {o : Oper} {a : Act} {Q : Exit → Act → World → Prop} (hgd : o.guard = none) (s x : Operand) {t e : TypeId}
  (ho : o.op = .call { callee := .builtin .append, args := #[s, x], argTypes := #[t, t] })
  {z : Value} {size bytes : Nat} (EE : ElemAt P t e z size bytes) {base : Nat} {A : Option Addr} {n cap : Nat} {xs : List Value} (hs : a.eval s = .slice A n cap) (hown : Own w base e size A n cap xs)
  {A2 : Option Addr} {m c B : Nat} {news : List Value} (hx : a.eval x = .slice A2 m c) (hR : Reads w B size A2 m news) (h1 : ∀ u ∈ news, u.oneCell' = true) (h63 : n + m ≤ maxLen) (hbytes : (n + m) * bytes ≤ 140737488355328) (hbase : base ≤ w.heap.size)
  (h : ∀ A' cap' w', Own w' base e size A' (n + m) cap' (xs ++ news) → w.grownBy w' (A.map (·.block)) → (A' = A ∨ A' = some ⟨w.heap.size, 0, none⟩) → wpList P ops Q rest (a.put o.dst (.slice A' (n + m) cap')) w') :
  wpList P ops Q (o :: rest) a w := by
 refine wpList_plain hgd fun K hK => ?_
 obtain ⟨A', cap', w', hr, h2, h3, h4⟩ := run_append_any (P := P) w o.type EE hown hR (c := c) h1 h63 hbytes hbase
 unfold Oper.wp execOp
 simp only [ho, resolve, invoke, builtin, Sem.run_bind, Sem.run_pure, Result.andThen_ok, List.map_toArray, List.map_cons, List.map_nil, hs, hx, hr]
 exact hK _ _ (h A' cap' w' h2 h3 h4)
end

theorem info_int : (Try.prog.info? 3).map (fun i => (i.zero, i.size, i.bytes)) = some (some (.int .i64 0), 1, 8) := by kernel_rfl
theorem elem_int : ElemAt Try.prog 36 3 (.int .i64 0) 1 8 := by
 obtain ⟨i0, hi, hz0, hz1, hz2⟩ := info_parts info_int
 exact ⟨i0, Try.underlying36, hi, hz0, hz1, hz2, rfl, by decide⟩
theorem ints_one (l : List Int) : ∀ u ∈ l.map (Value.int .i64), u.oneCell' = true := by
 intro u hu; simp at hu; obtain ⟨x, _, rfl⟩ := hu; rfl
end Go.Proofs.Ytehgijdjnddfcaa
/- Writing many cells of a block; what else lies as it lay. -/
namespace Go.Proofs.Ytehgijdjnddfcaa
open Go.RowKit

section
variable {w w' w2 : World} {g : Nat} {t : TypeId} {cs : Array Value}
theorem Blk.drew (h : Blk w g t cs) : Blk w.drew g t cs := h
theorem grown_refl (w : World) (row : Option Nat) : w.grownBy w row := ⟨rfl, rfl, rfl, Nat.le_refl _, fun _ _ _ => rfl⟩
theorem grown_trans {row : Option Nat} (h : w.grownBy w' row) (k : w'.grownBy w2 row) : w.grownBy w2 row :=
 ⟨k.os.trans h.os, k.tape.trans h.tape, k.output.trans h.output, Nat.le_trans h.size k.size, fun i hi hr => (k.block i (Nat.lt_of_lt_of_le hi h.size) hr).trans (h.block i hi hr)⟩
theorem grown_below {row : Option Nat} (h : w.grownBy w' row) (k : Below w'.heap.size w' w2) : w.grownBy w2 row :=
 ⟨k.os.trans h.os, k.tape.trans h.tape, k.output.trans h.output, Nat.le_trans h.size k.size, fun i hi hr => (k.block i (Nat.lt_of_lt_of_le hi h.size)).trans (h.block i hi hr)⟩
theorem grown_of_below (h : Below w.heap.size w w') (row : Option Nat) : w.grownBy w' row := ⟨h.os, h.tape, h.output, h.size, fun k hk _ => h.block k hk⟩
theorem grown_alloc {row : Option Nat} (h : w.grownBy w' row) (o : Obj) : w.grownBy (w'.alloc o) row := grown_below h ((Below.refl _ _).alloc (Nat.le_refl _) _)
theorem grown_drew {row : Option Nat} (h : w.grownBy w' row) (n : Nat) : w.grownBy (w'.drewN n) row := ⟨h.os, h.tape, h.output, h.size, h.block⟩
theorem grown_setCell {row : Option Nat} (h : w.grownBy w' row) {p : Addr} (hp : some p.block = row ∨ w.heap.size ≤ p.block) (u : Value) : w.grownBy (w'.setCell p u) row :=
 ⟨h.os, h.tape, h.output, by have := h.size; simpa [World.setCell] using this, fun i hi hr => (Below.heap_setCell w' p u i (by
  intro e
  subst e
  rcases hp with hp | hp
  ·exact hr hp
  ·omega)).trans (h.block i hi hr)⟩
theorem below_of_grown {B : Nat} {row : Option Nat} (h : w.grownBy w' row) (hr : ∀ k, row = some k → B ≤ k) (hB : B ≤ w.heap.size) : Below B w w' :=
 (Below.refl B w).grown h hB hr
theorem Reads.grown {B size n : Nat} {A : Option Addr} {xs : List Value} {row : Option Nat} (h : Reads w B size A n xs) (hg : w.grownBy w' row) (hB : B ≤ w.heap.size) (hr : ∀ a, A = some a → some a.block ≠ row) : Reads w' B size A n xs :=
 ⟨h.1, fun hn => by
  obtain ⟨ad, e, hb, hc⟩ := h.2 hn
  exact ⟨ad, e, hb, fun j u hu => by
   rw [← hc j u hu]
   exact World.cell?_of_block (hg.block _ (by rw [block_of_add]; omega) (by rw [block_of_add]; exact hr ad e))⟩⟩
theorem Own.grown {base n cap size : Nat} {e : TypeId} {A : Option Addr} {xs : List Value} {row : Option Nat} (h : Own w base e size A n cap xs) (hg : w.grownBy w' row) (hr : ∀ a, A = some a → some a.block ≠ row) : Own w' base e size A n cap xs := by
 refine ⟨h.1, ?_⟩
 rcases h.2 with h' | ⟨g, cap', cur, hv, hb, hgb, hrest⟩
 ·exact .inl h'
 ·have hl : g < w.heap.size := (Array.getElem?_eq_some_iff.1 hgb).1
  simp at hv
  exact .inr ⟨g, cap', cur, by simp [hv], hb, (hg.block g hl (by have := hr _ hv.1; simpa using this)).trans hgb, hrest⟩
end

end Go.Proofs.Ytehgijdjnddfcaa
/- A range over a function whose iterator may panic between its rounds: the loop is left by that panic. The body never leaves the loop by itself. -/
namespace Go.Proofs.Ytehgijdjnddfcaa
open Go.RowKit

/-- As SeqAt; Nx tells what comes next behind what came; S tells of the ending too: a return, or a panic. The iterator may write a box of its own (row). -/
def SeqFall {α : Type} (F : Fence) (n : Nat) (P : Program) (g : Nat) (lb : Array Value) (encs : α → Array Value) (Nx : List α → α → Prop) (Kp : World → World → Prop) (S : Ending → List α → Prop) (row : Option Nat) (w : World) : Prop :=
 ∀ (l : Nat) (J : List α → World → Prop) (W : World), Below w.heap.size w W → (∀ s A B, J s A → A.grownBy B row → J s B) →
  (∀ pre x W1, J pre W1 → Nx pre x → YieldAt F (n - 1) P l (encs x) W1 fun e W' => e = .returned (.bool true) ∧ J (pre ++ [x]) W' ∧ Kp W1 W') →
  J [] W → CallsIn F n P g (#[.func (.yield l) #[] #[]] ++ lb) W fun e W' => ((∃ v, e = .returned v) ∨ ∃ ch, e = .panicked ch) ∧ ∃ xs, S e xs ∧ J xs W'

/-- Marks are shut likewise where the function leaves by a panic. -/
theorem leaves_marksU {F : Fence} {n : Nat} {P : Program} {fn : Func} {tmps : Array Value} {R : Ending → World → Prop} {B : Nat} {u : FrameMode} (hu : u ≠ .run) : ∀ (ds : List Deferred) (w : World), Marks B w ds →
  (∀ w', Shut B w w' → LeavesIn F n P fn tmps R [] u w') → LeavesInM F n P fn tmps R ds u w
 | [], w, _, h => h w (Shut.refl _ _)
 | d :: ds, w, ⟨⟨r, h1, h2, h3, h4⟩, h5⟩, h => by
  refine ⟨hu, .inl ⟨r, _, h2, run_takeDeferred h3, ?_⟩⟩
  refine leaves_marksU hu ds _ (h5.keep fun d' hd r' hr h0 => ?_) (fun w' hs => h w' ((shut_put h1 h3).trans hs))
  have hne : r' ≠ r := by
   intro e
   subst e
   exact h4 d' hd hr
  exact (World.putObj_heap_other hne).trans h0
end Go.Proofs.Ytehgijdjnddfcaa
/- book.must: nothing, or the panic that tells the error. -/
namespace Go.Proofs.Ytehgijdjnddfcaa
open Go.RowKit

/-- The panic that tells an error. -/
abbrev noP (e : Int) : List PanicEntry := [{ v := .iface 72 (.agg #[.int .i64 e]), recovered := false }]
theorem as_no (v : Value) (w : World) : (Instr.typeAssert (.iface 72 v) 20 72 true).run Try.prog w = .ok (.tuple #[v, .bool true]) w := by kernel_rfl
theorem catch_idle (n : Nat) (p : Addr) (w : World) :
  CallsDIn Fence.wide n Try.prog 36 #[.pointer (some p)] .returning w fun e u' w' => e = .returned (.tuple #[]) ∧ u' = .returning ∧ w' = w := by
 refine callsDIn_of_wpSIn Try.func36 rfl trivial fun c₀ cs hu => ?_
 simp only [Try.ntmps36, List.size_toArray, List.length_cons, List.length_nil, Nat.reduceAdd, Nat.reduceSub, Array.replicate_succ, Array.replicate_zero, List.push_toArray, List.append_toArray, List.nil_append, List.cons_append]
 apply wpSIn_seq
 apply wpSIn_region
 simp [wpOpsSIn, go_sem, recoverD, hu, Exit.thenS]
 refine wpSIn_of_wpIn rfl ?_
 gi_wp2
 cases c₀
 simp_all [bodyPostS, results, Try.results36]
theorem catch_no (n : Nat) (g : Nat) (x e : Int) (w : World) (hc : w.cell? ⟨g, 0, none⟩ = some (.int .i64 x)) (hz : w.frozen? ⟨g, 0, none⟩ = false) (hp : g < w.heap.size) :
  CallsDIn Fence.wide n Try.prog 36 #[.pointer (some ⟨g, 0, none⟩)] (.panicking (noP e)) w fun e' u' w' => e' = .returned (.tuple #[]) ∧ u' = .panicking [{ v := .iface 72 (.agg #[.int .i64 e]), recovered := true }] ∧
   w' = (w.setCell ⟨g, 0, none⟩ (.int .i64 e)).alloc (.cells #[.int .i64 e] 72) := by
 have has := as_no
 refine callsDIn_of_wpSIn Try.func36 rfl trivial fun c₀ cs hu => ?_
 simp only [Try.ntmps36, List.size_toArray, List.length_cons, List.length_nil, Nat.reduceAdd, Nat.reduceSub, Array.replicate_succ, Array.replicate_zero, List.push_toArray, List.append_toArray, List.nil_append, List.cons_append]
 apply wpSIn_seq
 apply wpSIn_region
 simp [wpOpsSIn, go_sem, recoverD, hu, Exit.thenS]
 refine wpSIn_of_wpIn rfl ?_
 gi_wp2
 exact ⟨rfl, _, rfl, .tuple #[], by simp [results, Try.results36, go_sem], rfl, rfl, rfl⟩
set_option maxHeartbeats 1000000 in
theorem tried_in (n : Nat) (fd : Nat) (lb : Array Value) (row : Option Nat) (w : World) (hrow : ∀ k, row = some k → k < w.heap.size) (Ok : World → Prop) (No : Int → World → Prop) (he : ∀ args W, (callFunc fd args).run Try.prog W = .ok (.enter fd args) W)
  (hdo : CallsIn Fence.wide n Try.prog fd lb (w.alloc (.cells #[.int .i64 0] 24)) fun e W' => ((e = .returned (.tuple #[]) ∧ Ok W') ∨ ∃ x, e = .panicked (noP x) ∧ No x W') ∧ (w.alloc (.cells #[.int .i64 0] 24)).grownBy W' row)
  (hOk : ∀ A B, Ok A → A.grownBy B (some w.heap.size) → Ok B) (hNo : ∀ x A B, No x A → A.grownBy B (some w.heap.size) → No x B) :
  CallsIn Fence.wide (n + 1) Try.prog 26 #[.func (.func fd) #[] lb] w fun e W' => ((e = .returned (.int .i64 0) ∧ Ok W') ∨ ∃ x, e = .returned (.int .i64 x) ∧ No x W') ∧ w.grownBy W' row := by
 have hmf : ∀ (fn : Fn) (first cap : Array Value) (w : World), (Instr.makeFunc fn first cap).run Try.prog w = .ok (.func fn first cap) w := fun _ _ _ _ => rfl
 have HD := Lib.hid hdo
 have HO := Lib.hid hOk
 have HN := Lib.hid hNo
 have HR := Lib.hid hrow
 clear hdo hOk hNo hrow
 refine callsIn_of_wp_defers Try.func26 rfl trivial ?_
 simp only [Try.ntmps26, List.size_toArray, List.length_cons, List.length_nil, Nat.reduceAdd, Nat.reduceSub, Array.replicate_succ, Array.replicate_zero, List.push_toArray, List.append_toArray, List.nil_append, List.cons_append]
 gi_wp2
 refine ⟨trivial, HD.out.mono ?_⟩
 rintro e W1 ⟨⟨rfl, hok⟩ | ⟨x, rfl, hno⟩, hg⟩
 ·have HK := Lib.hid hok
  have HG := Lib.hid hg
  have hb := (Blk.new w 24 #[.int .i64 0]).grown hg (fun e => absurd (HR.out _ e.symm) (by omega))
  have b0 := hb.cell 0
  have bz := hb.frozen 0
  have bl := hb.lt
  clear hok hg hb
  gi_wp2
  refine leavesIn_cons (f := 36) (args := #[.pointer (some ⟨w.heap.size, 0, none⟩)]) (by simp) (by simp [Fence.wide]) (by simp [go_sem]) (by intro g hg; trivial) ?_
  refine (catch_idle _ _ _).mono ?_
  rintro e u' w2 ⟨rfl, rfl, rfl⟩
  refine ⟨.int .i64 0, by simp [results, Try.results26, go_sem, b0], .inl ⟨rfl, ?_⟩, ?_⟩
  ·exact HO.out _ _ HK.out (grown_setCell (grown_refl _ _) (.inl rfl) _)
  ·exact grown_setCell (grown_trans (grown_alloc (grown_refl _ _) _) HG.out) (.inr (Nat.le_refl _)) _
 ·have HK := Lib.hid hno
  have HG := Lib.hid hg
  have hb := (Blk.new w 24 #[.int .i64 0]).grown hg (fun e => absurd (HR.out _ e.symm) (by omega))
  have b0 := hb.cell 0
  have bz := hb.frozen 0
  have bl := hb.lt
  clear hno hg hb
  gi_wp2
  refine leavesIn_cons (f := 36) (args := #[.pointer (some ⟨w.heap.size, 0, none⟩)]) (by simp) (by simp [Fence.wide]) (by simp [go_sem]) (by intro g hg; trivial) ?_
  refine (catch_no _ _ _ _ _ b0 bz bl).mono ?_
  rintro e u' w2 ⟨rfl, rfl, rfl⟩
  refine ⟨.int .i64 x, by simp [results, Try.results26, go_sem, bl, World.cell?_setCell_same' _ _ _ (by rw [b0]; rfl)], .inr ⟨x, rfl, ?_⟩, ?_⟩
  ·exact HN.out _ _ _ HK.out (grown_alloc (grown_setCell (grown_refl _ _) (.inl rfl) _) _)
  ·exact grown_alloc (grown_setCell (grown_trans (grown_alloc (grown_refl _ _) _) HG.out) (.inr (Nat.le_refl _)) _) _
end Go.Proofs.Ytehgijdjnddfcaa
/- Numbers and their bytes, plain Lean. -/
namespace Go.Proofs.Ytehgijdjnddfcaa

/-- The number at an index of bytes, read on from the i-th of its bytes, and the index behind it. -/
def decG (l : List UInt8) (p : Nat) : Nat → Nat → Nat → Option (Nat × Nat)
 | 0, _, _ => none
 | f + 1, i, n => match l[p + i]? with
  | none => none
  | some b => if b.toNat < 128 then (if (b.toNat = 0 ∧ 0 < i) ∨ 999999999 < n + b.toNat % 128 * 128 ^ i then none else some (n + b.toNat % 128 * 128 ^ i, p + i + 1)) else decG l p f (i + 1) (n + b.toNat % 128 * 128 ^ i)
def decN5 (l : List UInt8) (p : Nat) : Option (Nat × Nat) := decG l p 5 0 0
/-- What the loop over a number's bytes knows. -/
structure DecSt (l : List UInt8) (p i n : Nat) : Prop where
 i5 : i ≤ 5
 lt : n < 128 ^ i
 eq : decN5 l p = decG l p (5 - i) i n
theorem DecSt.zero (l : List UInt8) (p : Nat) : DecSt l p 0 0 := ⟨by omega, by decide, rfl⟩
section
variable {l : List UInt8} {p i n : Nat} {b : UInt8}
theorem dec_lt (h : n < 128 ^ i) (b : Nat) : n + b % 128 * 128 ^ i < 128 ^ (i + 1) := by
 have h1 : b % 128 ≤ 127 := by omega
 have h2 : b % 128 * 128 ^ i ≤ 127 * 128 ^ i := Nat.mul_le_mul_right _ h1
 rw [Nat.pow_succ]
 omega
theorem DecSt.step (h : DecSt l p i n) (hi : i < 5) (hb : l[p + i]? = some b) (h128 : ¬ b.toNat < 128) : DecSt l p (i + 1) (n + b.toNat % 128 * 128 ^ i) := by
 refine ⟨by omega, dec_lt h.lt _, ?_⟩
 rw [h.eq, show 5 - i = (5 - (i + 1)) + 1 by omega, decG, hb]
 simp only [if_neg h128]
theorem DecSt.last (h : DecSt l p i n) (hi : i < 5) (hb : l[p + i]? = some b) (h128 : b.toNat < 128) :
  decN5 l p = if (b.toNat = 0 ∧ 0 < i) ∨ 999999999 < n + b.toNat % 128 * 128 ^ i then none else some (n + b.toNat % 128 * 128 ^ i, p + i + 1) := by
 rw [h.eq, show 5 - i = (5 - (i + 1)) + 1 by omega, decG, hb]
 simp only [if_pos h128]
theorem DecSt.short (h : DecSt l p i n) (hb : l[p + i]? = none) : decN5 l p = none := by
 rw [h.eq]
 cases e : 5 - i with
 | zero => rfl
 | succ f => rw [decG, hb]
theorem DecSt.long (h : DecSt l p 5 n) : decN5 l p = none := by
 rw [h.eq]
 rfl
end
theorem decG_to {l : List UInt8} {p : Nat} : ∀ {f i n r to : Nat}, decG l p f i n = some (r, to) → p < to ∧ to ≤ l.length ∧ r ≤ 999999999
 | 0, i, n, r, to, h => by cases h
 | f + 1, i, n, r, to, h => by
  rw [decG] at h
  cases hb : l[p + i]? with
  | none => rw [hb] at h; cases h
  | some b =>
   rw [hb] at h
   have hl := (List.getElem?_eq_some_iff.1 hb).1
   dsimp only at h
   split at h
   ·split at h
    ·cases h
    ·rename_i h1 h2
     cases h
     omega
   ·exact decG_to h
theorem dec_to {l : List UInt8} {p r to : Nat} (h : decN5 l p = some (r, to)) : p < to ∧ to ≤ l.length ∧ r ≤ 999999999 := decG_to h
/-- After so many numbers: where one stands, and what they are. -/
def runN (l : List UInt8) : Nat → Option (Nat × List Int)
 | 0 => some (0, [])
 | k + 1 => match runN l k with
  | none => none
  | some (p, xs) => if p < l.length then (match decN5 l p with | none => none | some (n, to) => some (to, xs ++ [(n : Int)])) else none
def NumAt (l : List UInt8) (p : Nat) (xs : List Int) : Prop := ∃ k, runN l k = some (p, xs)
theorem NumAt.zero (l : List UInt8) : NumAt l 0 [] := ⟨0, rfl⟩
theorem NumAt.step {l : List UInt8} {p n to : Nat} {xs : List Int} (h : NumAt l p xs) (hp : p < l.length) (hd : decN5 l p = some (n, to)) : NumAt l to (xs ++ [(n : Int)]) := by
 obtain ⟨k, hk⟩ := h
 exact ⟨k + 1, by rw [runN, hk]; simp only [if_pos hp, hd]⟩
theorem run_none {l : List UInt8} {k : Nat} (h : runN l k = none) : ∀ {j : Nat}, k ≤ j → runN l j = none
 | 0, hj => by
  obtain rfl : k = 0 := by omega
  exact h
 | j + 1, hj => by
  by_cases e : k = j + 1
  ·subst e; exact h
  ·rw [runN, run_none h (j := j) (by omega)]
theorem run_small {l : List UInt8} : ∀ {k p : Nat} {xs : List Int}, runN l k = some (p, xs) → p ≤ l.length ∧ xs.length ≤ p ∧ xs.length = k ∧ ∀ x ∈ xs, 0 ≤ x ∧ x ≤ 999999999
 | 0, p, xs, h => by cases h; exact ⟨by omega, Nat.le_refl _, rfl, by simp⟩
 | k + 1, p, xs, h => by
  rw [runN] at h
  cases hk : runN l k with
  | none => rw [hk] at h; cases h
  | some y =>
   obtain ⟨p0, ys⟩ := y
   rw [hk] at h
   dsimp only at h
   split at h
   ·rename_i hp
    cases hd : decN5 l p0 with
    | none => rw [hd] at h; cases h
    | some z =>
     obtain ⟨n, to⟩ := z
     rw [hd] at h
     cases h
     obtain ⟨h1, h2, h3, h4⟩ := run_small hk
     have h5 := dec_to hd
     refine ⟨h5.2.1, by rw [List.length_append]; simp only [List.length_cons, List.length_nil]; omega, by rw [List.length_append, h3]; rfl, fun x hx => ?_⟩
     rcases List.mem_append.1 hx with hx | hx
     ·exact h4 x hx
     ·rw [List.mem_singleton.1 hx]
      omega
   ·cases h
/-- All numbers of bytes; none if some are none. -/
def NumsIs (l : List UInt8) (xs : List Int) (e : Int) : Prop :=
 (e = 0 ∧ NumAt l l.length xs) ∨ (e = 111 ∧ xs = [] ∧ ∃ p ys, NumAt l p ys ∧ p < l.length ∧ decN5 l p = none)
theorem run_stop {l : List UInt8} {k p : Nat} {xs : List Int} (h : runN l k = some (p, xs)) (hs : p = l.length ∨ (p < l.length ∧ decN5 l p = none)) {j q : Nat} {ys : List Int} (hj : runN l j = some (q, ys)) : j ≤ k := by
 rcases Nat.lt_or_ge k j with hlt | hge
 ·have hn : runN l (k + 1) = none := by
   rw [runN, h]
   rcases hs with rfl | ⟨h1, h2⟩
   ·simp
   ·simp only [if_pos h1, h2]
  rw [run_none hn hlt] at hj
  cases hj
 ·exact hge
theorem NumsIs.same {l : List UInt8} {xs ys : List Int} {e f : Int} (h : NumsIs l xs e) (h' : NumsIs l ys f) : xs = ys ∧ e = f := by
 rcases h with ⟨rfl, k, hk⟩ | ⟨rfl, rfl, p, zs, ⟨k, hk⟩, hp, hd⟩ <;> rcases h' with ⟨rfl, j, hj⟩ | ⟨rfl, rfl, q, us, ⟨j, hj⟩, hq, hd'⟩
 ·have h1 := run_stop hk (.inl rfl) hj
  have h2 := run_stop hj (.inl rfl) hk
  obtain rfl : k = j := by omega
  rw [hk] at hj
  cases hj
  exact ⟨rfl, rfl⟩
 ·have h1 := run_stop hk (.inl rfl) hj
  have h2 := run_stop hj (.inr ⟨hq, hd'⟩) hk
  obtain rfl : k = j := by omega
  rw [hk] at hj
  cases hj
  omega
 ·have h1 := run_stop hk (.inr ⟨hp, hd⟩) hj
  have h2 := run_stop hj (.inl rfl) hk
  obtain rfl : k = j := by omega
  rw [hk] at hj
  cases hj
  omega
 ·exact ⟨rfl, rfl⟩
/-- The bytes of a number. -/
def encN (n : Nat) : List UInt8 := if n < 128 then [UInt8.ofNat n] else UInt8.ofNat (128 + n % 128) :: encN (n / 128)
theorem encN_small {n : Nat} (h : n < 128) : encN n = [UInt8.ofNat n] := by rw [encN, if_pos h]
theorem encN_more {n : Nat} (h : ¬ n < 128) : encN n = UInt8.ofNat (128 + n % 128) :: encN (n / 128) := by rw [encN, if_neg h]
/-- The higher bits, behind a byte's lower ones. -/
theorem or_add {n c i : Nat} (h : n < 2 ^ (7 * i)) : n ||| (c <<< (7 * i)) = n + c * 128 ^ i := by
 rw [Nat.or_comm, ← Nat.shiftLeft_add_eq_or_of_lt h, Nat.shiftLeft_eq, show (128 : Nat) = 2 ^ 7 from rfl, ← Nat.pow_mul, Nat.add_comm]
end Go.Proofs.Ytehgijdjnddfcaa
/- A region that draws its order, inside a fence, in a round or not: a head whose operations leave one value in every world of a class, and a tail that waits for the head: one walk of the lexical order serves. -/
namespace Go.Proofs.Ytehgijdjnddfcaa
open Go.RowKit

section
variable {F : Fence} {n : Nat} {P : Program} {ops : Array Oper} {md : Region.Mode} {C : World → Prop}

end

/-- Worlds of a class, as letters: what is known of each is a rule of the walk. -/
abbrev Cls {σ : Type} (of : σ → World) : World → Prop := fun W => ∃ z : σ, W = of z
end Go.Proofs.Ytehgijdjnddfcaa
/- A region that draws its order: a head whose operations are quiet but for one that lays a new block, and a tail that waits for the head. -/
namespace Go.Proofs.Ytehgijdjnddfcaa
open Go.RowKit

def dstAt (l : List Oper) (i : Nat) : Option Tmp := (l[i]?).bind (·.dst)
/-- The frame a0, the slots of the operations S set. -/
structure Desc (l : List Oper) (k : Nat) (val : Nat → Value) (a0 : Act) (S : Nat → Bool) (a : Act) : Prop where
 defers : a.defers = a0.defers
 size : a.tmps.size = a0.tmps.size
 set_ : ∀ i, i < k → S i = true → ∀ d, dstAt l i = some d → a.tmps.getD d undef = val i
 other : ∀ t, (∀ i, i < k → S i = true → dstAt l i ≠ some t) → a.tmps.getD t undef = a0.tmps.getD t undef

/-- Each operation of the head has a slot of its own. -/
def Own1 (l : List Oper) (k : Nat) : Prop := ∀ i, i < k → ∃ d, dstAt l i = some d ∧ ∀ i', i' < k → dstAt l i' = some d → i' = i

section
variable {l : List Oper} {k : Nat} {val : Nat → Value} {a0 a a' : Act} {S S' : Nat → Bool}
theorem getD_set_same (t : Array Value) (d : Nat) (v : Value) (h : d < t.size) : (t.setIfInBounds d v).getD d undef = v := by
 rw [Array.getD_eq_getD_getElem?, Array.getElem?_setIfInBounds_self_of_lt h]; rfl
theorem getD_set_other (t : Array Value) {d e : Nat} (v : Value) (h : d ≠ e) : (t.setIfInBounds d v).getD e undef = t.getD e undef := by
 rw [Array.getD_eq_getD_getElem?, Array.getElem?_setIfInBounds_ne h, ← Array.getD_eq_getD_getElem?]
theorem Desc.step (h : Desc l k val a0 S a) (ho : Own1 l k) {i : Nat} (hi : i < k) {d : Tmp} (hd : dstAt l i = some d) (hsz : d < a0.tmps.size) : Desc l k val a0 (done S i) (a.put (some d) (val i)) := by
 refine ⟨h.defers, by simp [Act.put, h.size], fun i' hi' hS d' hd' => ?_, fun t ht => ?_⟩
 ·by_cases e : i' = i
  ·subst e
   rw [hd] at hd'
   cases hd'
   exact getD_set_same _ _ _ (by rw [h.size]; exact hsz)
  ·have hne : d ≠ d' := by
    intro e'
    subst e'
    obtain ⟨d2, h1, h2⟩ := ho i hi
    rw [hd] at h1
    cases h1
    exact e (h2 i' hi' hd')
   rw [show (a.put (some d) (val i)).tmps = a.tmps.setIfInBounds d (val i) from rfl, getD_set_other _ _ hne]
   exact h.set_ i' hi' (by simpa [done, e] using hS) d' hd'
 ·have hne : d ≠ t := fun e => ht i hi (by simp [done]) (by rw [hd, e])
  rw [show (a.put (some d) (val i)).tmps = a.tmps.setIfInBounds d (val i) from rfl, getD_set_other _ _ hne]
  refine h.other t fun i' hi' hS => ht i' hi' ?_
  unfold done
  split
  ·rfl
  ·exact hS
theorem Desc.agree (h : Desc l k val a0 S a) (h' : Desc l k val a0 S' a') (ho : Own1 l k) (t : Tmp) (hS : ∀ i, i < k → dstAt l i = some t → S i = S' i) : a.tmps.getD t undef = a'.tmps.getD t undef := by
 by_cases hex : ∃ i, i < k ∧ dstAt l i = some t ∧ S i = true
 ·obtain ⟨i, hi, hd, hs⟩ := hex
  rw [h.set_ i hi hs t hd, h'.set_ i hi (by rw [← hS i hi hd]; exact hs) t hd]
 ·have hno : ∀ i, i < k → S i = true → dstAt l i ≠ some t := fun i hi hs hd => hex ⟨i, hi, hd, hs⟩
  rw [h.other t hno, h'.other t (fun i hi hs hd => hno i hi (by rw [hS i hi hd]; exact hs) hd)]
theorem Desc.eq (h : Desc l k val a0 S a) (h' : Desc l k val a0 S a') (ho : Own1 l k) : a = a' := by
 obtain ⟨t, d⟩ := a
 obtain ⟨t', d'⟩ := a'
 have e1 : d = d' := by have := h.defers; have := h'.defers; simp_all
 have e2 : t = t' := by
  have s1 : t.size = a0.tmps.size := h.size
  have s2 : t'.size = a0.tmps.size := h'.size
  apply Array.ext (by omega)
  intro i h1 h2
  have := h.agree h' ho i (fun _ _ _ => rfl)
  simpa [h1, h2] using this
 rw [e1, e2]
end

section
variable {F : Fence} {n : Nat} {P : Program} {ops : Array Oper} {o : Oper} {a a' : Act}
theorem eval_agree {x : Operand} (h : ∀ t, x = .tmp t → a.tmps.getD t undef = a'.tmps.getD t undef) : a.eval x = a'.eval x := by
 cases x with
 | tmp t => exact h t rfl
 | _ => rfl
theorem execOp_agree (hs : ∀ cs b, o.op ≠ .select cs b) (h : ∀ t ∈ o.looksAt ops, a.tmps.getD t undef = a'.tmps.getD t undef) : execOp a.eval o = execOp a'.eval o :=
 execOp_congr o hs fun x hx => eval_agree fun t e => h t (by
  subst e
  exact List.mem_append_left _ (List.mem_filterMap.2 ⟨.tmp t, by simpa using hx, rfl⟩))
theorem about_agree (w : World) (h : ∀ t ∈ o.looksAt ops, a.tmps.getD t undef = a'.tmps.getD t undef) : o.about P w a.eval = o.about P w a'.eval :=
 about_congr o w fun x hx => eval_agree fun t e => h t (by
  subst e
  exact List.mem_append_left _ (List.mem_filterMap.2 ⟨.tmp t, by simpa using hx, rfl⟩))
theorem wanted_agree (hz : a.tmps.size = a'.tmps.size) (h : ∀ t ∈ o.looksAt ops, a.tmps.getD t undef = a'.tmps.getD t undef) : Region.wanted o (yielded ops a.tmps) = Region.wanted o (yielded ops a'.tmps) := by
 unfold Region.wanted
 cases hg : o.guard with
 | none => rfl
 | some g =>
  obtain ⟨g, b⟩ := g
  have e : yielded ops a.tmps g = yielded ops a'.tmps g := by
   unfold yielded
   cases hd : (ops[g]?).bind (·.dst) with
   | none => rfl
   | some d =>
    have hm : d ∈ o.looksAt ops := by
     unfold Oper.looksAt
     rw [hg]
     exact List.mem_append_right _ (by simp [hd])
    have h1 := h d hm
    have h2 : a.tmps[d]? = a'.tmps[d]? := by
     rcases Nat.lt_or_ge d a.tmps.size with hlt | hge
     ·have hlt' : d < a'.tmps.size := by rw [← hz]; exact hlt
      simpa [hlt, hlt'] using h1
     ·have hge' : a'.tmps.size ≤ d := by rw [← hz]; exact hge
      rw [Array.getElem?_eq_none hge, Array.getElem?_eq_none hge']
    simp [h2]
  simp only [e]
end

section
variable {F : Fence} {n : Nat} {P : Program} {Q : Exit → Act → World → Prop} {l : List Oper} {k j : Nat}
end
end Go.Proofs.Ytehgijdjnddfcaa
/- A region that draws its order: quiet operations, one that lays a new block (or none), and effects one behind the other; quiet ones may come late. -/
namespace Go.Proofs.Ytehgijdjnddfcaa
open Go.RowKit

section
variable {F : Fence} {n : Nat} {P : Program} {l : List Oper} {qs es : List Nat} {j : Nat}
/-- The frame with the slots of the quiet operations S set. -/
structure DescM (l : List Oper) (qs : List Nat) (val : Nat → Value) (a0 : Act) (S : Nat → Bool) (a : Act) : Prop where
 defers : a.defers = a0.defers
 size : a.tmps.size = a0.tmps.size
 set_ : ∀ i ∈ qs, S i = true → ∀ d, dstAt l i = some d → a.tmps.getD d undef = val i
 other : ∀ t, (∀ i ∈ qs, S i = true → dstAt l i ≠ some t) → a.tmps.getD t undef = a0.tmps.getD t undef
def OwnQ (l : List Oper) (qs : List Nat) : Prop := ∀ i ∈ qs, ∃ d, dstAt l i = some d ∧ ∀ i' ∈ qs, dstAt l i' = some d → i' = i
section
variable {val : Nat → Value} {a0 a a' : Act} {S S' : Nat → Bool}
theorem DescM.step (h : DescM l qs val a0 S a) (ho : OwnQ l qs) {i : Nat} (hi : i ∈ qs) {d : Tmp} (hd : dstAt l i = some d) (hsz : d < a0.tmps.size) : DescM l qs val a0 (done S i) (a.put (some d) (val i)) := by
 refine ⟨h.defers, by simp [Act.put, h.size], fun i' hi' hS d' hd' => ?_, fun t ht => ?_⟩
 ·by_cases e : i' = i
  ·subst e
   rw [hd] at hd'
   cases hd'
   exact getD_set_same _ _ _ (by rw [h.size]; exact hsz)
  ·have hne : d ≠ d' := by
    intro e'
    subst e'
    obtain ⟨d2, h1, h2⟩ := ho i hi
    rw [hd] at h1
    cases h1
    exact e (h2 i' hi' hd')
   rw [show (a.put (some d) (val i)).tmps = a.tmps.setIfInBounds d (val i) from rfl, getD_set_other _ _ hne]
   exact h.set_ i' hi' (by simpa [done, e] using hS) d' hd'
 ·have hne : d ≠ t := fun e => ht i hi (by simp [done]) (by rw [hd, e])
  rw [show (a.put (some d) (val i)).tmps = a.tmps.setIfInBounds d (val i) from rfl, getD_set_other _ _ hne]
  refine h.other t fun i' hi' hS => ht i' hi' ?_
  unfold done
  split
  ·rfl
  ·exact hS
end

/-- By a mask. -/
def pickB : List Oper → List Bool → List Oper
 | o :: l, true :: bs => o :: pickB l bs
 | _ :: l, false :: bs => pickB l bs
 | _, _ => []
end
end Go.Proofs.Ytehgijdjnddfcaa
/- A region that draws its order: quiet operations, calls that make memory (a chain, each with what it hands back), one that lays a new block (or none), and effects at the end. One walk by stages serves. -/
namespace Go.Proofs.Ytehgijdjnddfcaa
open Go.RowKit

/-- A frame: S's slots as in A, the others as in 'base'. -/
structure Mixed (l : List Oper) (S : Nat → Prop) (A base a : Act) : Prop where
 defers : a.defers = base.defers
 size : a.tmps.size = base.tmps.size
 in_ : ∀ i, S i → ∀ t, dstAt l i = some t → a.tmps.getD t undef = A.tmps.getD t undef
 out : ∀ t, (∀ i, S i → dstAt l i ≠ some t) → a.tmps.getD t undef = base.tmps.getD t undef

section
variable {F : Fence} {n : Nat} {P : Program} {l : List Oper}
section
variable {S S' : Nat → Prop} {A A' base a : Act}
theorem Mixed.nil (h : ∀ i, ¬ S i) : Mixed l S A base base := ⟨rfl, rfl, fun i hi => absurd hi (h i), fun _ _ => rfl⟩
theorem Mixed.congr (h : Mixed l S A base a) (hS : ∀ i, S i ↔ S' i) : Mixed l S' A base a := ⟨h.defers, h.size, fun i hi => h.in_ i ((hS i).2 hi), fun t ht => h.out t fun i hi => ht i ((hS i).1 hi)⟩
/-- One more. -/
theorem Mixed.step (h : Mixed l S A base a) {i : Nat} {d : Tmp} (hd : dstAt l i = some d) (hu : ∀ i', S i' → dstAt l i' = some d → i' = i) (hsz : d < base.tmps.size) : Mixed l (fun k => S k ∨ k = i) A base (a.put (some d) (A.tmps.getD d undef)) := by
 have hp : (a.put (some d) (A.tmps.getD d undef)).tmps = a.tmps.setIfInBounds d (A.tmps.getD d undef) := rfl
 refine ⟨h.defers, by rw [hp]; simpa using h.size, fun k hk t ht => ?_, fun t ht => ?_⟩
 ·by_cases e : t = d
  ·subst e
   rw [hp, getD_set_same _ _ _ (by rw [h.size]; exact hsz)]
  ·rw [hp, getD_set_other _ _ (Ne.symm e)]
   rcases hk with hk | rfl
   ·exact h.in_ k hk t ht
   ·rw [hd] at ht; exact absurd (Option.some.inj ht).symm e
 ·have e : d ≠ t := fun e => ht i (.inr rfl) (by rw [hd, e])
  rw [hp, getD_set_other _ _ e]
  exact h.out t fun k hk => ht k (.inl hk)
/-- Two of them, one on the other. -/
theorem Mixed.trans (h : Mixed l S A' A a) (k : Mixed l S' A' base A) : Mixed l (fun i => S i ∨ S' i) A' base a := by
 refine ⟨h.defers.trans k.defers, h.size.trans k.size, fun i hi t ht => ?_, fun t ht => ?_⟩
 ·by_cases hex : ∃ i', S i' ∧ dstAt l i' = some t
  ·obtain ⟨i', h1, h2⟩ := hex
   exact h.in_ i' h1 t h2
  ·rw [h.out t (fun i' h1 h2 => hex ⟨i', h1, h2⟩)]
   rcases hi with hi | hi
   ·exact absurd ⟨i, hi, ht⟩ hex
   ·exact k.in_ i hi t ht
 ·rw [h.out t (fun i hi => ht i (.inl hi))]
  exact k.out t fun i hi => ht i (.inr hi)
end

/-- What asks nothing of the world yields its value in every world. -/
def YieldsAll (F : Fence) (P : Program) (ops : Array Oper) (o : Oper) (v : Value) (a : Act) : Prop :=
 (∀ W f, o.about P W a.eval = some f → F.fn f) ∧ ((Region.wanted o (yielded ops a.tmps) = true ∧ ∀ W, (execOp a.eval o).run P W = .ok (.value v) W) ∨ (Region.wanted o (yielded ops a.tmps) = false ∧ v = undef))
theorem YieldsAll.agree {ops : Array Oper} {o : Oper} {v : Value} {a a' : Act} (hy : YieldsAll F P ops o v a) (hs : ∀ cs b, o.op ≠ .select cs b) (hz : a.tmps.size = a'.tmps.size) (h : ∀ t ∈ o.looksAt ops, a.tmps.getD t undef = a'.tmps.getD t undef) : YieldsAll F P ops o v a' := by
 unfold YieldsAll at hy ⊢
 rw [← execOp_agree hs h, ← wanted_agree hz h]
 exact ⟨fun W f hf => hy.1 W f (by rw [about_agree W h]; exact hf), hy.2⟩
end
end Go.Proofs.Ytehgijdjnddfcaa
/- The law of a drawn region by stages. -/
namespace Go.Proofs.Ytehgijdjnddfcaa
open Go.RowKit

/-- A class of worlds above V that is shut under growth. -/
def Good (V : World) (C : World → Prop) : Prop := (∃ W, C W) ∧ (∀ W, C W → Below V.heap.size V W) ∧ ∀ W W', C W → Below W.heap.size W W' → C W'
theorem Good.above (V : World) : Good V fun W => Below V.heap.size V W := ⟨⟨V, Below.refl _ _⟩, fun _ h => h, fun _ _ h k => h.trans (k.mono h.size)⟩
section
variable {F : Fence} {n : Nat} {P : Program} {l : List Oper}
/-- Quiet operations, in whatever world above V. -/
def Quietly (F : Fence) (n : Nat) (P : Program) (l : List Oper) (V : World) (qs : List Oper) (a A : Act) : Prop :=
 ∀ (σ : Type) (_ : Nonempty σ) (of : σ → World), (∀ z, Below V.heap.size V (of z)) → (∀ z W', Below (of z).heap.size (of z) W' → Cls of W') → wpQuietIn F n P l.toArray (Cls of) (fun a2 => a2 = A) qs a
theorem Quietly.none {V : World} {a : Act} : Quietly F n P l V (pickB l []) a a := fun _ _ _ _ _ => by cases l <;> exact rfl

section
variable {xs ws es : List Nat} {j : Nat} {a0 : Act} {tail : List (Nat × Nat) → World → Act → Prop} {fin : List Bool}
end

end
end Go.Proofs.Ytehgijdjnddfcaa
/- What lies in memory, block by block. -/
namespace Go.Proofs.Ytehgijdjnddfcaa
open Go.RowKit

/-- Below w's end all is as in w; and these blocks lie behind it. -/
def Lay (w W : World) (bs : List (Nat × TypeId × Array Value)) : Prop := Below w.heap.size w W ∧ ∀ b ∈ bs, w.heap.size ≤ b.1 ∧ Blk W b.1 b.2.1 b.2.2
section
variable {w W W' : World} {bs : List (Nat × TypeId × Array Value)}
theorem Lay.nil (w : World) : Lay w w [] := ⟨Below.refl _ _, fun b hb => by simp at hb⟩
theorem Lay.bel (h : Lay w W bs) : Below w.heap.size w W := h.1
theorem Lay.below (h : Lay w W bs) (hb : Below W.heap.size W W') : Lay w W' bs := ⟨h.1.trans (hb.mono h.1.size), fun b k => ⟨(h.2 b k).1, (h.2 b k).2.below hb (h.2 b k).2.lt⟩⟩
theorem Lay.blk (h : Lay w W bs) (i : Nat) {g : Nat} {t : TypeId} {cs : Array Value} (hi : bs[i]? = some (g, t, cs)) : Blk W g t cs := (h.2 _ (List.mem_of_getElem? hi)).2
theorem Lay.lt (h : Lay w W bs) (i : Nat) {g : Nat} {t : TypeId} {cs : Array Value} (hi : bs[i]? = some (g, t, cs)) : g < W.heap.size := (h.blk i hi).lt
theorem Lay.alloc (h : Lay w W bs) (t : TypeId) (cs : Array Value) : Lay w (W.alloc (.cells cs t)) (bs ++ [(W.heap.size, t, cs)]) := by
 have hb : Below W.heap.size W (W.alloc (.cells cs t)) := (Below.refl _ _).alloc (Nat.le_refl _) _
 refine ⟨(h.below hb).1, fun b k => ?_⟩
 rcases List.mem_append.1 k with k | k
 ·exact (h.below hb).2 b k
 ·obtain rfl := List.mem_singleton.1 k
  exact ⟨h.1.size, Blk.new W t cs⟩
/-- One more block that is known. -/
theorem Lay.add (h : Lay w W bs) {g : Nat} {t : TypeId} {cs : Array Value} (hg : w.heap.size ≤ g) (hb : Blk W g t cs) : Lay w W (bs ++ [(g, t, cs)]) := ⟨h.1, fun b k => by
 rcases List.mem_append.1 k with k | k
 ·exact h.2 b k
 ·obtain rfl := List.mem_singleton.1 k
  exact ⟨hg, hb⟩⟩
end
theorem Lay.one (w : World) (t : TypeId) (X : Array Value) : Lay w (w.alloc (.cells X t)) [(w.heap.size, t, X)] := (Lay.nil w).alloc t X
theorem Lay.two (w : World) (t : TypeId) (X : Array Value) (t2 : TypeId) (X2 : Array Value) : Lay w ((w.alloc (.cells X t)).alloc (.cells X2 t2)) [(w.heap.size, t, X), (w.heap.size + 1, t2, X2)] := by
 have h := (Lay.one w t X).alloc t2 X2
 rwa [World.size_alloc] at h
theorem Lay.three (w : World) (t : TypeId) (X : Array Value) (t2 : TypeId) (X2 : Array Value) (t3 : TypeId) (X3 : Array Value) : Lay w (((w.alloc (.cells X t)).alloc (.cells X2 t2)).alloc (.cells X3 t3)) [(w.heap.size, t, X), (w.heap.size + 1, t2, X2), (w.heap.size + 1 + 1, t3, X3)] := by
 have h := (Lay.two w t X t2 X2).alloc t3 X3
 rwa [World.size_alloc, World.size_alloc] at h
theorem Lay.drewN {w W : World} {bs : List (Nat × TypeId × Array Value)} (h : Lay w W bs) (k : Nat) : Lay w (W.drewN k) bs := ⟨below_drewN h.1 k, h.2⟩

end Go.Proofs.Ytehgijdjnddfcaa
/- book.numbers: the iterator over numbers of bytes; it may panic between its rounds. -/
namespace Go.Proofs.Ytehgijdjnddfcaa
open Go.RowKit
attribute [local go_sem] Oper.semAt_some

theorem len_bytes (a : ByteArray) : a.data.toList.length = a.size := by simp
theorem sub_byte {s y : ByteArray} {p i : Nat} (hy : y = s.extract p s.size) (hi : i < y.size) : s.data.toList[p + i]? = some y[i] := by
 subst hy
 have h : p + i < s.size := by rw [ByteArray.size_extract] at hi; omega
 have e : (s.extract p s.size)[i] = s[p + i] := ByteArray.getElem_extract ..
 rw [e, List.getElem?_eq_getElem (by simpa using h)]
 rfl
theorem wrap_byte (b : UInt8) : wrap64 (b.toNat : Int) = (b.toNat : Int) := by
 have := b.toNat_lt
 unfold wrap64
 omega
theorem sh_byte (b : UInt8) {i : Nat} (hi : i < 5) : wrap64 ((b.toNat : Int).tmod 128 * 2 ^ (7 * i)) = ((b.toNat % 128 * 128 ^ i : Nat) : Int) := by
 have h1 : (b.toNat : Int).tmod 128 = ((b.toNat % 128 : Nat) : Int) := by rw [Int.tmod_eq_emod_of_nonneg (by omega)]; omega
 have h2 : ((2 : Int) ^ (7 * i)) = ((128 ^ i : Nat) : Int) := by rw [Int.pow_mul]; simp
 have h3 : 128 ^ i ≤ 128 ^ 4 := Nat.pow_le_pow_right (by decide) (by omega)
 have h4 : b.toNat % 128 * 128 ^ i ≤ 127 * 128 ^ 4 := Nat.mul_le_mul (by omega) h3
 rw [h1, h2, ← Int.natCast_mul]
 unfold wrap64
 omega
theorem or_byte {m c i : Nat} (hi : i < 5) (hm : m < 128 ^ i) (hc : c < 128) : Go.bits BinOp.or IntKind.i64 (m : Int) ((c * 128 ^ i : Nat) : Int) = ((m + c * 128 ^ i : Nat) : Int) := by
 have h3 : 128 ^ i ≤ 128 ^ 4 := Nat.pow_le_pow_right (by decide) (by omega)
 have h4 : c * 128 ^ i ≤ 127 * 128 ^ 4 := Nat.mul_le_mul (by omega) h3
 have h5 : m ||| c * 128 ^ i = m + c * 128 ^ i := by
  have := or_add (n := m) (c := c) (i := i) (by rw [Nat.pow_mul]; exact hm)
  rwa [Nat.shiftLeft_eq, Nat.pow_mul] at this
 have hb : IntKind.i64.bits = 64 := rfl
 unfold Go.bits
 rw [hb]
 have e0 : (BitVec.ofInt 64 (m : Int) ||| BitVec.ofInt 64 ((c * 128 ^ i : Nat) : Int)).toNat = m + c * 128 ^ i := by
  rw [BitVec.toNat_or, BitVec.toNat_ofInt, BitVec.toNat_ofInt]
  have e1 : ((m : Int) % ((2 ^ 64 : Nat) : Int)).toNat = m := by omega
  have e2 : (((c * 128 ^ i : Nat) : Int) % ((2 ^ 64 : Nat) : Int)).toNat = c * 128 ^ i := by omega
  rw [e1, e2, h5]
 dsimp only
 rw [e0, IntWalk.i64_in _ (by omega)]
theorem ext_ext {s y : ByteArray} {p i : Nat} (hy : y = s.extract p s.size) (hp : p ≤ s.size) : y.extract (i + 1) y.size = s.extract (p + i + 1) s.size := by
 subst hy
 rw [ByteArray.extract_extract, ByteArray.size_extract]
 congr 1 <;> omega
/-- What comes: a number, and where the bytes behind it begin. -/
abbrev NumX := Nat × Nat
def numEnc (s : ByteArray) (x : NumX) : Array Value := #[.int .i64 (x.1 : Int), .string (s.extract x.2 s.size)]
def numInts (xs : List NumX) : List Int := xs.map fun x => (x.1 : Int)
/-- How it ends: by a return behind the last number, or by the panic of bytes that are none. -/
def NumEnd (s : ByteArray) (e : Ending) (xs : List NumX) : Prop :=
 (e = .returned (.tuple #[]) ∧ NumAt s.data.toList s.data.toList.length (numInts xs)) ∨ (e = .panicked (noP 111) ∧ ∃ p, NumAt s.data.toList p (numInts xs) ∧ p < s.data.toList.length ∧ decN5 s.data.toList p = none)
/-- What comes next. -/
def numNx (s : ByteArray) (pre : List NumX) (x : NumX) : Prop := NumAt s.data.toList x.2 (numInts (pre ++ [x]))
def keepS (gs : Nat) (W W' : World) : Prop := ∀ cs, Blk W gs 9 cs → Blk W' gs 9 cs
def boxSize (gs : Nat) (W : World) : Nat := match W.cell? ⟨gs, 0, none⟩ with
 | some (.string b) => b.size
 | _ => 0

theorem box_size {gs : Nat} {W : World} {b : ByteArray} (h : Blk W gs 9 #[.string b]) : boxSize gs W = b.size := by
 unfold boxSize
 rw [h.cell 0]
 rfl
end Go.Proofs.Ytehgijdjnddfcaa
/- A range over a function whose iterator may panic between its rounds, and whose body may leave the loop or panic: within a fence of functions that are there. -/
namespace Go.Proofs.Ytehgijdjnddfcaa
open Go.RowKit

/-- The fence of the functions that are there. -/
def thereF (P : Program) : Fence := { fn := fun f => (P.funcs[f]?).isSome = true, depth := none, alive := false }
theorem thereF_round (P : Program) : (thereF P).round = none := rfl
theorem callsIn_there {n : Nat} {P : Program} {f : FuncId} {args : Array Value} {w : World} {R : Ending → World → Prop} (h : CallsIn (thereF P) n P f args w R) : CallsIn Fence.wide n P f args w R :=
 callsIn_wide.2 (h.calls (fun k d hd => by cases hd))
/-- As roundPost; the body may panic. -/
def roundPostP (P : Program) (l : Nat) (R : Ending → World → Prop) : Exit → Act → World → Prop
 | .panic ch, a, w => a.defers = [] ∧ R (.panicked ch) w
 | e, a, w => roundPost P l R e a w
theorem roundIn_of_wpInP {F : Fence} {n : Nat} {P : Program} {l : Nat} {f : FuncId} {tmps : Array Value} {assign body : Code} {w : World} {R : Ending → World → Prop} (hF : F.fn f) (hfn : ∃ fn, P.funcs[f]? = some fn)
  (h : assign.wpIn (F.inRound l) n P (Exit.then (fun a₁ w₁ => ∃ w₂, (Instr.beginRound l).run P w₁ = .ok () w₂ ∧ body.wpIn (F.inRound l) n P (roundPostP P l R) a₁ w₂) (fun _ _ _ => False))
   { tmps := tmps, defers := [] } w) :
  RoundIn F n P l f tmps assign body w R := by
 refine ⟨hF, fun c cs hr => ?_⟩
 let b : Frame := { (default : Frame) with fn := f, kind := .normal, roundOf := some l }
 have hb0 : Frame.round l f tmps assign body .normal = b.atR { tmps := tmps, defers := [] } [.code assign, .beginRound, .code body] := by
  simp [Frame.round, Frame.atR, b]
 have hr' : (F.inRound l).room ((c :: cs).length + 1 + n) := hr
 have hF' : (F.inRound l).fn b.fn := hF
 obtain ⟨e, a₁, w₁, hq, harr⟩ := h b [.beginRound, .code body] (c :: cs) rfl hF' hr'
 rw [← hb0] at harr
 cases e with
 | normal =>
  obtain ⟨w₂, hbr, hbody⟩ := hq
  have s1 : StepsIn (Machine.fenced P (F.inRound l)) P (lone (b.atR a₁ [.beginRound, .code body]) (c :: cs) w₁) (lone (b.atR a₁ [.code body]) (c :: cs) w₂) :=
   .one (fenced_calm (fr := b.atR a₁ [.beginRound, .code body]) hF' hr' rfl) (stepR_beginRound rfl hbr)
  obtain ⟨e₂, a₂, w₃, hq₂, harr₂⟩ := hbody b [] (c :: cs) rfl hF' hr'
  cases e₂ with
  | normal =>
   obtain ⟨v, w₄, hend, hR⟩ := hq₂
   exact ⟨.returned v, w₄, hR, (StepsIn.trans harr s1).trans (StepsIn.trans harr₂ (.one (fenced_calm (fr := b.atR a₂ []) hF' hr' rfl) (stepR_round_end rfl rfl hend)))⟩
  | ret =>
   obtain ⟨v, w₄, hend, hR⟩ := hq₂
   obtain ⟨k₁, hs⟩ := harr₂.2 rfl
   exact ⟨.returned v, w₄, hR, (StepsIn.trans harr s1).trans (StepsIn.trans hs (.one (fenced_calm (fr := b.atR a₂ (.code .ret :: k₁)) hF' hr' rfl) (stepR_round_ret rfl rfl hend)))⟩
  | exit id =>
   obtain ⟨v, w₄, hend, hR⟩ := hq₂
   obtain ⟨k₁, hk, hs⟩ := harr₂.2 rfl rfl
   exact ⟨.returned v, w₄, hR, (StepsIn.trans harr s1).trans (StepsIn.trans hs (.one (fenced_calm (fr := b.atR a₂ (.code (.exit id) :: k₁)) hF' hr' rfl) (stepR_round_exit rfl rfl hk hend)))⟩
  | goto t =>
   obtain ⟨v, w₄, hend, hR⟩ := hq₂
   obtain ⟨k₁, hk, hs⟩ := harr₂.2 rfl rfl
   exact ⟨.returned v, w₄, hR, (StepsIn.trans harr s1).trans (StepsIn.trans hs (.one (fenced_calm (fr := b.atR a₂ (.code (.goto t) :: k₁)) hF' hr' rfl) (stepR_round_goto rfl rfl hk hend)))⟩
  | panic chain =>
   obtain ⟨hd, hR⟩ := hq₂
   obtain ⟨todo, hs⟩ := harr₂
   have hl : ({ b.atR a₂ todo with mode := .panicking chain } : Frame).leaving P w₃ (.panicked chain) := ⟨rfl, hd, hfn⟩
   exact ⟨.panicked chain, w₃, hR, (StepsIn.trans harr s1).trans (StepsIn.trans hs (.one (fenced_leaving hF' hr' hl) (step_leave_panicked hl)))⟩
  | outgrown => exact hq₂.elim
 | exit id => exact hq.elim
 | goto t => exact hq.elim
 | ret => exact hq.elim
 | panic chain => exact hq.elim
 | outgrown => exact hq.elim
/-- As SeqFall; a round may say stop, or panic: then the iterator ends at once, as the round left it. -/
def SeqFull {α : Type} (F : Fence) (n : Nat) (P : Program) (g : Nat) (lb : Array Value) (encs : α → Array Value) (Nx : List α → α → Prop) (Kp : World → World → Prop) (S : Ending → List α → Prop) (row : Option Nat) (w : World) : Prop :=
 ∀ (l : Nat) (J Jx : List α → World → Prop) (Px : List α → List PanicEntry → World → Prop) (W : World), Below w.heap.size w W → (∀ s A B, J s A → A.grownBy B row → J s B) →
  (∀ pre x W1, J pre W1 → Nx pre x → YieldAt F (n - 1) P l (encs x) W1 fun e W' =>
   (e = .returned (.bool true) ∧ J (pre ++ [x]) W' ∧ Kp W1 W') ∨ (e = .returned (.bool false) ∧ Jx (pre ++ [x]) W') ∨ (∃ ch, e = .panicked ch ∧ Px (pre ++ [x]) ch W')) →
  J [] W → CallsIn F n P g (#[.func (.yield l) #[] #[]] ++ lb) W fun e W' =>
   (((∃ v, e = .returned v) ∨ ∃ ch, e = .panicked ch) ∧ ∃ xs, S e xs ∧ J xs W') ∨ ((∃ v, e = .returned v) ∧ ∃ xs, Jx xs W') ∨ (∃ ch xs, e = .panicked ch ∧ Px xs ch W')
/-- How a round's body may be left. -/
def bodyFull {α : Type} (B : Nat) (Kp : World → World → Prop) (I : List α → World → Prop) (Ix : Nat → List α → World → Prop) (Px : List α → List PanicEntry → World → Prop) (xs : List α) (W : World) : Exit → Act → World → Prop
 | .normal, _, W3 => KeepsFrom B W W3 ∧ Kp W W3 ∧ I xs W3
 | .exit id, _, W3 => KeepsFrom B W W3 ∧ Ix id xs W3
 | .panic ch, a, W3 => a.defers = [] ∧ KeepsFrom B W W3 ∧ Px xs ch W3
 | _, _, _ => False
theorem wpIn_rangeFull {α : Type} {F : Fence} {n : Nat} {P : Program} {g : Operand} {ps : Array Tmp} {assign body : Code} {Q : Exit → Act → World → Prop} {a : Act} {w : World} (hthere : ∀ f, F.fn f → ∃ fn, P.funcs[f]? = some fn)
  (hro : F.round = none) (h1 : 1 ≤ n) {gf : Nat} {lb : Array Value} (hg : a.eval g = .func (.func gf) #[] lb) (hFg : F.fn gf) (eg : ∀ args w, (callFunc gf args).run P w = .ok (.enter gf args) w)
  {encs : α → Array Value} {Nx : List α → α → Prop} {Kp : World → World → Prop} {S : Ending → List α → Prop} {row : Option Nat} (hrow : ∀ k, row = some k → k < w.heap.size) (hseq : SeqFull F (n - 1) P gf lb encs Nx Kp S row w)
  (hKt : ∀ {A B C : World}, Kp A B → Kp B C → Kp A C) (hKb : ∀ (W : World) (l : Nat) (o o' : Obj), w.heap.size ≤ l → W.heap[l]? = some o → o.isCells = false → o.isWalk = false → Kp W (W.putObj l o')) (hps : ∀ x, (encs x).size = ps.size)
  (I : List α → World → Prop) (Ix : Nat → List α → World → Prop) (Px : List α → List PanicEntry → World → Prop) (hI : OwnFrom w.heap.size I) (hIx : ∀ id, OwnFrom w.heap.size (Ix id)) (hIB : ∀ s A B, I s A → A.grownBy B row → I s B) (h0 : I [] w) (Ax : α → Act → World → Prop) (hAx : ∀ x a', OwnFrom w.heap.size (fun (_ : Unit) W => Ax x a' W))
  (hassign : ∀ (l : Nat) (pre : List α) (x : α) (W : World) (K : Act → World → Prop), I pre W → Nx pre x → (∀ a' W', KeepsFrom w.heap.size W W' → Kp W W' → I pre W' → Ax x a' W' → K a' W') →
   assign.wpIn (F.inRound l) (n - 1 - 1) P (Exit.then K (fun _ _ _ => False)) { tmps := (ps.zip (encs x)).foldl (fun t (p, v) => t.setIfInBounds p v) a.tmps, defers := [] } W)
  (hbody : ∀ (l : Nat) (pre : List α) (x : α) (a' : Act) (W : World), I pre W → Nx pre x → Ax x a' W → body.wpIn (F.inRound l) (n - 1 - 1) P (bodyFull w.heap.size Kp I Ix Px (pre ++ [x]) W) a' W)
  (hfall : ∀ (D : Nat) (ch : List PanicEntry) (xs : List α) (W : World), w.heap.size ≤ D → S (.panicked ch) xs → I xs W → W.heap[D]? = some (.deferred (some [])) → Q (.panic ch) { a with defers := { target := .collected D, args := #[] } :: a.defers } W)
  (hpanic : ∀ (D : Nat) (ch : List PanicEntry) (xs : List α) (W : World), w.heap.size ≤ D → Px xs ch W → W.heap[D]? = some (.deferred (some [])) → Q (.panic ch) { a with defers := { target := .collected D, args := #[] } :: a.defers } W)
  (hstop : ∀ (D id : Nat) (xs : List α) (W : World), w.heap.size ≤ D → Ix id xs W → W.heap[D]? = some (.deferred (some [])) → (Code.exit id).wpIn F n P Q { a with defers := { target := .collected D, args := #[] } :: a.defers } W)
  (hdone : ∀ (D : Nat) (v : Value) (xs : List α) (W : World), w.heap.size ≤ D → S (.returned v) xs → I xs W → W.heap[D]? = some (.deferred (some [])) → Q .normal { a with defers := { target := .collected D, args := #[] } :: a.defers } W) :
  (Code.rangeFunc g ps assign body).wpIn F n P Q a w := by
 refine wpIn_rangeFunc fun fn hfn => ?_
 rw [hro]
 obtain ⟨rec, hrec⟩ : ∃ rec : LoopState → Option Code → Loop, rec = fun st pj => { state := st, pending := pj, fn, tmps := a.tmps, params := ps, assign, body, defers := w.heap.size } := ⟨_, rfl⟩
 have e1 : ((w.alloc (.deferred (some []))).alloc (.loop (rec .ready none))).heap[w.heap.size + 1]? = some (.loop (rec .ready none)) := by
  have h := World.alloc_heap_new (w.alloc (.deferred (some []))) (.loop (rec .ready none))
  rwa [World.size_alloc] at h
 have e0 : ((w.alloc (.deferred (some []))).alloc (.loop (rec .ready none))).heap[w.heap.size]? = some (.deferred (some [])) :=
  (Below.heap_alloc _ _ _ (by simp)).trans (World.alloc_heap_new w _)
 have i1 := hI.alloc (.loop (rec .ready none)) (hI.alloc (.deferred (some [])) h0)
 have b1 : Below w.heap.size w ((w.alloc (.deferred (some []))).alloc (.loop (rec .ready none))) := ((Below.refl _ w).alloc (Nat.le_refl _) _).alloc (by simp) _
 have z1 : ((w.alloc (.deferred (some []))).alloc (.loop (rec .ready none))).heap.size = w.heap.size + 1 + 1 := by simp
 have en : (Instr.enterLoop fn a.tmps ps assign body none).run P w = .ok (w.heap.size + 1, [{ target := .collected w.heap.size, args := #[] }]) ((w.alloc (.deferred (some []))).alloc (.loop (rec .ready none))) := by
  rw [hrec]
  exact run_enterLoop_outer _ _ _ _ _
 generalize (w.alloc (.deferred (some []))).alloc (.loop (rec .ready none)) = W0 at *
 refine ⟨w.heap.size + 1, [{ target := .collected w.heap.size, args := #[] }], W0, { target := .fn (.func gf) lb, args := #[.func (.yield (w.heap.size + 1)) #[] #[]] }, W0, gf,
  #[.func (.yield (w.heap.size + 1)) #[] #[]] ++ lb, W0, en, ?_, ?_, ?_, fun _ => h1, ?_⟩
 ·simp only [resolve, hg]
  simp [go_sem]
 ·intro f hf
  simp [Target.leads] at hf
  subst hf
  exact hFg
 ·simp [invoke, go_sem, eg]
 ·refine (hseq (w.heap.size + 1) (fun pre W => I pre W ∧ W.heap[w.heap.size + 1]? = some (.loop (rec .ready none)) ∧ W.heap[w.heap.size]? = some (.deferred (some [])))
   (fun xs W => ∃ id, Ix id xs W ∧ W.heap[w.heap.size + 1]? = some (.loop (rec .done (some (.exit id)))) ∧ W.heap[w.heap.size]? = some (.deferred (some [])))
   (fun xs ch W => Px xs ch W ∧ W.heap[w.heap.size]? = some (.deferred (some []))) W0 b1
   (fun s A B hs hb => ⟨hIB s A B hs.1 hb, (hb.block _ (Array.getElem?_eq_some_iff.1 hs.2.1).1 (fun e => by have := hrow _ e.symm; omega)).trans hs.2.1, (hb.block _ (Array.getElem?_eq_some_iff.1 hs.2.2).1 (fun e => by have := hrow _ e.symm; omega)).trans hs.2.2⟩)
   ?_ ⟨i1, e1, e0⟩).mono ?_
  ·rintro pre x W ⟨hi, hl, hk⟩ hat
   have hy := run_yield (P := P) (args := encs x) hl (by rw [hrec]; exact hps x)
   rw [hrec] at hy
   refine ⟨fn, _, assign, body, hy, roundIn_of_wpInP hfn (hthere fn hfn) (hassign _ pre x W _ hi hat fun a' V kf kp hiV hax => ?_)⟩
   have lV := kf.same _ _ (Nat.le_succ _) hl rfl
   have kV := kf.same _ _ (Nat.le_refl _) hk rfl
   have ltV := (Array.getElem?_eq_some_iff.1 lV).1
   refine ⟨_, run_beginRound lV (by rw [hrec]), ?_⟩
   have lU : (V.putObj (w.heap.size + 1) (.loop { rec .ready none with state := .busy })).heap[w.heap.size + 1]? = some (.loop { rec .ready none with state := .busy }) := World.putObj_heap_same ltV
   have kU : (V.putObj (w.heap.size + 1) (.loop { rec .ready none with state := .busy })).heap[w.heap.size]? = some (.deferred (some [])) := (World.putObj_heap_other (by omega)).trans kV
   refine wpIn_mono (hbody _ pre x a' _ (hI.putObj _ hiV (Nat.le_succ _) lV rfl) hat ((hAx x a').putObj (s := ()) _ hax (Nat.le_succ _) lV rfl)) ?_
   rintro e a3 W3 hp
   cases e with
   | normal =>
    obtain ⟨kf3, kp3, hi3⟩ := hp
    have l3 := kf3.same _ _ (Nat.le_succ _) lU rfl
    have k3 := kf3.same _ _ (Nat.le_refl _) kU rfl
    have er := run_endRound (P := P) none l3
    refine ⟨_, _, er, .inl ⟨rfl, ⟨hI.putObj _ hi3 (Nat.le_succ _) l3 rfl, ?_, (World.putObj_heap_other (by omega)).trans k3⟩, hKt kp (hKt (hKt (hKb _ _ _ _ (Nat.le_succ _) lV rfl rfl) kp3) (hKb _ _ _ _ (Nat.le_succ _) l3 rfl rfl))⟩⟩
    rw [World.putObj_heap_same (Array.getElem?_eq_some_iff.1 l3).1, hrec]
    rfl
   | exit id =>
    obtain ⟨kf3, hi3⟩ := hp
    have l3 := kf3.same _ _ (Nat.le_succ _) lU rfl
    have k3 := kf3.same _ _ (Nat.le_refl _) kU rfl
    have er := run_endRound (P := P) (some (.exit id)) l3
    refine ⟨_, _, er, .inr (.inl ⟨rfl, id, (hIx id).putObj _ hi3 (Nat.le_succ _) l3 rfl, ?_, (World.putObj_heap_other (by omega)).trans k3⟩)⟩
    rw [World.putObj_heap_same (Array.getElem?_eq_some_iff.1 l3).1, hrec]
    rfl
   | panic ch =>
    obtain ⟨hd, kf3, hp3⟩ := hp
    exact ⟨hd, .inr (.inr ⟨ch, rfl, hp3, kf3.same _ _ (Nat.le_refl _) kU rfl⟩)⟩
   | ret => exact hp.elim
   | goto t => exact hp.elim
   | outgrown => exact hp.elim
  ·rintro e W2 (⟨⟨v, rfl⟩ | ⟨ch, rfl⟩, xs, hS, hi, hl, hk⟩ | ⟨⟨v, rfl⟩, xs, id, hi, hl, hk⟩ | ⟨ch, xs, rfl, hp, hk⟩)
   ·have el := run_endLoop (P := P) hl (by rw [hrec]; simp)
    rw [hrec] at el
    exact ⟨none, _, el, hdone _ v xs _ (Nat.le_refl _) hS (hI.putObj _ hi (Nat.le_succ _) hl rfl) ((World.putObj_heap_other (by omega)).trans hk)⟩
   ·exact hfall _ ch xs _ (Nat.le_refl _) hS hi hk
   ·have el := run_endLoop (P := P) hl (by rw [hrec]; simp)
    rw [hrec] at el
    exact ⟨some (.exit id), _, el, hstop _ id xs _ (Nat.le_refl _) ((hIx id).putObj _ hi (Nat.le_succ _) hl rfl) ((World.putObj_heap_other (by omega)).trans hk)⟩
   ·exact hpanic _ ch xs _ (Nat.le_refl _) hp hk
end Go.Proofs.Ytehgijdjnddfcaa
/- book.numbers' iterator again: its rounds may stop or panic. -/
namespace Go.Proofs.Ytehgijdjnddfcaa
open Go.RowKit
attribute [local go_sem] Oper.semAt_some thereF_round

theorem there_of {f : FuncId} {fn : Func} (h : Try.prog.funcs[f]? = some fn) : (thereF Try.prog).fn f := by
 show (Try.prog.funcs[f]?).isSome = true
 rw [h]
 rfl
theorem there_all {f : FuncId} (h : (thereF Try.prog).fn f) : ∃ fn, Try.prog.funcs[f]? = some fn := Option.isSome_iff_exists.1 h
theorem must_okF (n : Nat) (e : Int) (w : World) : CallsIn (thereF Try.prog) n Try.prog 32 #[.bool true, .int .i64 e] w fun x w' => x = .returned (.tuple #[]) ∧ w' = w := by
 refine callsIn_of_wp Try.func32 rfl (there_of Try.func32) ?_ rfl
 simp only [Try.ntmps32, List.size_toArray, List.length_cons, List.length_nil, Nat.reduceAdd, Nat.reduceSub, Array.replicate_succ, Array.replicate_zero, List.push_toArray, List.append_toArray, List.nil_append, List.cons_append]
 gi_wp2
 exact ⟨rfl, .tuple #[], by simp [results, Try.results32, go_sem], rfl, rfl⟩
theorem must_noF (n : Nat) (e : Int) (w : World) : CallsIn (thereF Try.prog) n Try.prog 32 #[.bool false, .int .i64 e] w fun x w' => x = .panicked (noP e) ∧ w' = w := by
 refine callsIn_of_wp Try.func32 rfl (there_of Try.func32) ?_ rfl
 simp only [Try.ntmps32, List.size_toArray, List.length_cons, List.length_nil, Nat.reduceAdd, Nat.reduceSub, Array.replicate_succ, Array.replicate_zero, List.push_toArray, List.append_toArray, List.nil_append, List.cons_append]
 gi_wp2
 exact ⟨rfl, rfl, rfl⟩
set_option maxRecDepth 100000 in
set_option maxHeartbeats 4000000 in
theorem numbers1_full (n : Nat) (hn : 2 ≤ n) (s : ByteArray) (hs : s.size ≤ maxLen) (gs : Nat) (w0 : World) (hb : Blk w0 gs 9 #[.string s]) :
  SeqFull (thereF Try.prog) n Try.prog 37 #[.pointer (some ⟨gs, 0, none⟩)] (numEnc s) (numNx s) (keepS gs) (NumEnd s) (some gs) w0 := by
 intro l J Jx Px w hW hJ hY h0
 have HB := Lib.hid (hb.below hW hb.lt)
 have HJ := Lib.hid hJ
 have HY := Lib.hid hY
 have H0 := Lib.hid h0
 unfold maxLen at hs
 clear hJ hY h0 hb hW
 refine callsIn_of_wp Try.func37 rfl (there_of Try.func37) ?_ rfl
 simp only [Try.ntmps37, List.size_toArray, List.length_cons, List.length_nil, Nat.reduceAdd, Nat.reduceSub, Array.replicate_succ, Array.replicate_zero, List.push_toArray, List.append_toArray, List.nil_append, List.cons_append]
 gi_wp2
 gi_loopw [] (fun wr => ∃ (p : Nat) (y : ByteArray) (pre : List NumX), Hid (J pre wr ∧ Blk wr gs 9 #[.string y] ∧ y = s.extract p s.size ∧ p ≤ s.size ∧ NumAt s.data.toList p (numInts pre)))
  (fun wr => boxSize gs wr)
 case atStart => exact ⟨0, s, [], Lib.hid ⟨H0.out, HB.out, by simp, Nat.zero_le _, NumAt.zero _⟩⟩
 case round =>
  obtain ⟨p, y, pre, HS⟩ := hrel
  have c0 := HS.out.2.1.cell 0
  have cl := HS.out.2.1.lt
  have HY0 := Lib.hid (show y.size = s.size - p by rw [HS.out.2.2.1]; simp)
  by_cases hlt : 0 < y.size
  ·gi_wp2
   gi_loopw [3, 4] (fun v3 v4 wq => ∃ (i m : Nat), v3 = .int .i64 (m : Int) ∧ v4 = .int .i64 (i : Int) ∧ Hid (DecSt s.data.toList p i m) ∧ wr = wq)
    (fun v3 v4 _ => 6 - (intOf v4).toNat)
   case atStart => exact ⟨0, 0, rfl, rfl, Lib.hid (DecSt.zero _ _), rfl⟩
   case round =>
    obtain ⟨i, m, rfl, rfl, HD, rfl⟩ := hrel
    have hi5 := HD.out.i5
    have HNO := Lib.hid (show decN5 s.data.toList p = none → p < s.data.toList.length → ((∃ v, Ending.panicked (noP 111) = Ending.returned v) ∨ ∃ ch, Ending.panicked (noP 111) = Ending.panicked ch) ∧ ∃ xs, NumEnd s (.panicked (noP 111)) xs ∧ J xs wr from
     fun h1 h2 => ⟨.inr ⟨_, rfl⟩, pre, .inr ⟨rfl, p, HS.out.2.2.2.2, h2, h1⟩, HS.out.1⟩)
    have HPL := Lib.hid (show p < s.data.toList.length from by have := HY0.out; have := len_bytes s; omega)
    by_cases hi : i < y.size
    ·by_cases hi4 : i < 5
     ·gi_wp2
      rw [show decide ((i : Int) < 5) = true by simp; omega]
      refine ⟨there_of Try.func32, fun _ => by omega, (must_okF _ 111 wr).mono ?_⟩
      rintro e W1 ⟨rfl, hw⟩
      obtain rfl := hw.symm
      have HBY := Lib.hid (sub_byte HS.out.2.2.1 hi)
      gi_upto_region 6 with fail
      rw [wrap_byte y[i], sh_byte y[i] hi4, or_byte (c := y[i].toNat % 128) hi4 HD.out.lt (by omega)]
      have HLA := Lib.hid (fun h => HD.out.last hi4 HBY.out h)
      have HTE := Lib.hid (fun h => HD.out.step hi4 HBY.out h)
      clear HBY
      generalize y[i].toNat = c at *
      obtain ⟨m', hm'⟩ : ∃ m', m + c % 128 * 128 ^ i = m' := ⟨_, rfl⟩
      rw [hm'] at HLA HTE ⊢
      clear hm'
      by_cases hb : c < 128
      ·have HN := Lib.hid (HLA.out hb)
       have hbd : decide ((c : Int) < 128) = true := by simp; omega
       by_cases hc : 0 < c
       ·have hcd : decide (0 < (c : Int)) = true := by simp; omega
        gi_wp2
        refine ⟨there_of Try.func32, fun _ => by omega, (must_okF _ 111 wr).mono ?_⟩
        rintro e W1 ⟨rfl, hw⟩
        obtain rfl := hw.symm
        by_cases hm : m' ≤ 999999999
        ·have HDE := Lib.hid (show decN5 s.data.toList p = some (m', p + i + 1) from by rw [HN.out, if_neg (by omega)])
         have HNX := Lib.hid (show numNx s pre (m', p + i + 1) from by have h := HS.out.2.2.2.2.step HPL.out HDE.out; unfold numNx numInts at *; rw [List.map_append]; exact h)
         have hmd : decide ((m' : Int) ≤ 999999999) = true := by simp; omega
         gi_wp2
         refine ⟨there_of Try.func32, fun _ => by omega, (must_okF _ 111 wr).mono ?_⟩
         rintro e W1 ⟨rfl, hw⟩
         obtain rfl := hw.symm
         clear hmd hm hw
         have z0 := HS.out.2.1.frozen 0
         have hsl : i + 1 ≤ y.size := hi
         gi_upto_region 10 with fail
         have hz : y.extract (i + 1) y.size = s.extract (p + i + 1) s.size := ext_ext HS.out.2.2.1 HS.out.2.2.2.1
         rw [hz]
         clear hz z0 hsl
         have hj2 := HJ.out pre wr (wr.setCell ⟨gs, 0, none⟩ (.string (s.extract (p + i + 1) s.size))) HS.out.1 (grown_setCell (grown_refl _ _) (.inl rfl) _)
         have HB2 := Lib.hid (show Blk (wr.setCell ⟨gs, 0, none⟩ (.string (s.extract (p + i + 1) s.size))) gs 9 #[.string (s.extract (p + i + 1) s.size)] from HS.out.2.1.set_ 0 _)
         generalize wr.setCell ⟨gs, 0, none⟩ (.string (s.extract (p + i + 1) s.size)) = W2 at *
         have hY := HY.out pre (m', p + i + 1) W2 hj2 HNX.out
         unfold numEnc at hY
         dsimp only at hY
         obtain ⟨fn, tmps, assign, body, hy, hR⟩ := hY
         have HRR := Lib.hid hR
         clear hR hj2
         have b0 := HB2.out.cell 0
         have bl := HB2.out.lt
         gi_wp2
         refine ⟨fun _ => by omega, HRR.out.mono ?_⟩
         rintro e W3 (⟨rfl, hj3, hk3⟩ | ⟨rfl, hjx⟩ | ⟨ch, rfl, hpx⟩)
         rotate_left 1
         ·have HJX := Lib.hid hjx
          clear hjx hy b0 bl
          gi_wp2
          exact ⟨rfl, .tuple #[], by simp [results, Try.results37, go_sem], .inr (.inl ⟨⟨_, rfl⟩, _, HJX.out⟩)⟩
         ·exact ⟨rfl, .inr (.inr ⟨ch, _, rfl, hpx⟩)⟩
         have HJ3 := Lib.hid hj3
         have HB3 := Lib.hid (hk3 _ HB2.out)
         clear hj3 hk3 hy b0 bl
         gi_wp2
         have hstep := HS.out.2.2.2.2.step HPL.out HDE.out
         refine ⟨⟨p + i + 1, _, pre ++ [(m', p + i + 1)], Lib.hid ⟨HJ3.out, HB3.out, rfl, by have := HY0.out; omega, by unfold numInts at hstep ⊢; rw [List.map_append]; exact hstep⟩⟩, ?_⟩
         rw [box_size HB3.out, box_size HS.out.2.1, ByteArray.size_extract]
         have := HY0.out
         omega
        ·have hmd : decide ((m' : Int) ≤ 999999999) = false := by simp; omega
         gi_wp2
         refine ⟨there_of Try.func32, fun _ => by omega, (must_noF _ 111 wr).mono ?_⟩
         rintro e W1 ⟨rfl, rfl⟩
         exact ⟨rfl, .inl (HNO.out (by rw [HN.out, if_pos (.inr (by omega))]) HPL.out)⟩
       ·have hcd : decide (0 < (c : Int)) = false := by simp; omega
        by_cases hi0 : i = 0
        ·have hie : ((i : Int) + 1 == 1) = true := by simp; omega
         have HI0 := Lib.hid hi0
         clear hi0
         gi_wp2
         refine ⟨there_of Try.func32, fun _ => by omega, (must_okF _ 111 wr).mono ?_⟩
         rintro e W1 ⟨rfl, hw⟩
         obtain rfl := hw.symm
         by_cases hm : m' ≤ 999999999
         ·have HDE := Lib.hid (show decN5 s.data.toList p = some (m', p + i + 1) from by rw [HN.out, if_neg (by have := HI0.out; omega)])
          have HNX := Lib.hid (show numNx s pre (m', p + i + 1) from by have h := HS.out.2.2.2.2.step HPL.out HDE.out; unfold numNx numInts at *; rw [List.map_append]; exact h)
          have hmd : decide ((m' : Int) ≤ 999999999) = true := by simp; omega
          gi_wp2
          refine ⟨there_of Try.func32, fun _ => by omega, (must_okF _ 111 wr).mono ?_⟩
          rintro e W1 ⟨rfl, hw⟩
          obtain rfl := hw.symm
          clear hmd hm hw
          have z0 := HS.out.2.1.frozen 0
          have hsl : i + 1 ≤ y.size := hi
          gi_upto_region 10 with fail
          have hz : y.extract (i + 1) y.size = s.extract (p + i + 1) s.size := ext_ext HS.out.2.2.1 HS.out.2.2.2.1
          rw [hz]
          clear hz z0 hsl
          have hj2 := HJ.out pre wr (wr.setCell ⟨gs, 0, none⟩ (.string (s.extract (p + i + 1) s.size))) HS.out.1 (grown_setCell (grown_refl _ _) (.inl rfl) _)
          have HB2 := Lib.hid (show Blk (wr.setCell ⟨gs, 0, none⟩ (.string (s.extract (p + i + 1) s.size))) gs 9 #[.string (s.extract (p + i + 1) s.size)] from HS.out.2.1.set_ 0 _)
          generalize wr.setCell ⟨gs, 0, none⟩ (.string (s.extract (p + i + 1) s.size)) = W2 at *
          have hY := HY.out pre (m', p + i + 1) W2 hj2 HNX.out
          unfold numEnc at hY
          dsimp only at hY
          obtain ⟨fn, tmps, assign, body, hy, hR⟩ := hY
          have HRR := Lib.hid hR
          clear hR hj2
          have b0 := HB2.out.cell 0
          have bl := HB2.out.lt
          gi_wp2
          refine ⟨fun _ => by omega, HRR.out.mono ?_⟩
          rintro e W3 (⟨rfl, hj3, hk3⟩ | ⟨rfl, hjx⟩ | ⟨ch, rfl, hpx⟩)
          rotate_left 1
          ·have HJX := Lib.hid hjx
           clear hjx hy b0 bl
           gi_wp2
           exact ⟨rfl, .tuple #[], by simp [results, Try.results37, go_sem], .inr (.inl ⟨⟨_, rfl⟩, _, HJX.out⟩)⟩
          ·exact ⟨rfl, .inr (.inr ⟨ch, _, rfl, hpx⟩)⟩
          have HJ3 := Lib.hid hj3
          have HB3 := Lib.hid (hk3 _ HB2.out)
          clear hj3 hk3 hy b0 bl
          gi_wp2
          have hstep := HS.out.2.2.2.2.step HPL.out HDE.out
          refine ⟨⟨p + i + 1, _, pre ++ [(m', p + i + 1)], Lib.hid ⟨HJ3.out, HB3.out, rfl, by have := HY0.out; omega, by unfold numInts at hstep ⊢; rw [List.map_append]; exact hstep⟩⟩, ?_⟩
          rw [box_size HB3.out, box_size HS.out.2.1, ByteArray.size_extract]
          have := HY0.out
          omega
         ·have hmd : decide ((m' : Int) ≤ 999999999) = false := by simp; omega
          gi_wp2
          refine ⟨there_of Try.func32, fun _ => by omega, (must_noF _ 111 wr).mono ?_⟩
          rintro e W1 ⟨rfl, rfl⟩
          exact ⟨rfl, .inl (HNO.out (by rw [HN.out, if_pos (.inr (by omega))]) HPL.out)⟩
        ·have hie : ((i : Int) + 1 == 1) = false := by simp; omega
         gi_wp2
         refine ⟨there_of Try.func32, fun _ => by omega, (must_noF _ 111 wr).mono ?_⟩
         rintro e W1 ⟨rfl, rfl⟩
         exact ⟨rfl, .inl (HNO.out (by rw [HN.out, if_pos (.inl ⟨by omega, by omega⟩)]) HPL.out)⟩
      ·have hbd : decide ((c : Int) < 128) = false := by simp; omega
       gi_wp2
       go_roundw
       case rel => exact ⟨i + 1, m', rfl, by go_num, Lib.hid (HTE.out hb), trivial⟩
       case measure => simp [intOf]; omega
     ·gi_wp2
      rw [show decide ((i : Int) < 5) = false by simp; omega]
      refine ⟨there_of Try.func32, fun _ => by omega, (must_noF _ 111 wr).mono ?_⟩
      rintro e W1 ⟨rfl, rfl⟩
      obtain rfl : i = 5 := by omega
      exact ⟨rfl, .inl (HNO.out HD.out.long HPL.out)⟩
    ·have hi' : decide ((i : Int) < (y.size : Int)) = false := by simp; omega
     gi_wp2
     refine ⟨there_of Try.func32, fun _ => by omega, (must_noF _ 111 wr).mono ?_⟩
     rintro e W1 ⟨rfl, rfl⟩
     exact ⟨rfl, .inl (HNO.out (HD.out.short (by rw [List.getElem?_eq_none]; have := HY0.out; have := len_bytes s; omega)) HPL.out)⟩
  ·gi_wp2
   refine ⟨rfl, .tuple #[], by simp [results, Try.results37, go_sem], .inl ⟨.inl ⟨_, rfl⟩, pre, .inl ⟨rfl, ?_⟩, HS.out.1⟩⟩
   have h1 := HS.out.2.2.2.2
   have h2 := HY0.out
   have h3 := HS.out.2.2.2.1
   have e : s.data.toList.length = p := by have := len_bytes s; omega
   rw [e]
   exact h1
end Go.Proofs.Ytehgijdjnddfcaa
/- What a loop over a function turns by itself: an invariant on cells, and on what lay ahead of the loop, abides it. -/
namespace Go.Proofs.Ytehgijdjnddfcaa
open Go.RowKit Go.Shelf

theorem shut_of_grown {B : Nat} {W W' : World} {row : Option Nat} (hg : W.grownBy W' row) (hr : ∀ r, row = some r → B ≤ r ∧ ∃ o : Obj, W.heap[r]? = some o ∧ o.isCells = false) (hB : B ≤ W.heap.size) : Shut B W W' := by
 refine ⟨(Below.refl B W).grown hg hB (fun k e => (hr k e).1), fun b cs t fr h => ?_⟩
 have hlt := (Array.getElem?_eq_some_iff.1 h).1
 refine (hg.block b hlt ?_).trans h
 intro e
 obtain ⟨_, o, ho, hc⟩ := hr b e.symm
 rw [h] at ho
 cases ho
 simp [Obj.isCells] at hc
theorem ownFrom_shut {β : Type} {B : Nat} {I : β → World → Prop} (hB : ∀ s W, I s W → B ≤ W.heap.size) (h : ∀ s W W', I s W → Shut B W W' → I s W') : OwnFrom B I :=
 fun s W W' row hs hg hr => h s W W' hs (shut_of_grown hg hr (hB s W hs))
theorem Shut.mono {B B' : Nat} {W W' : World} (h : Shut B W W') (hB : B' ≤ B) : Shut B' W W' := ⟨h.below.mono hB, h.cells⟩
/-- The marks lie ahead of the loop. -/
theorem Marks.shut {B S : Nat} {W W' : World} {ds : List Deferred} (h : Marks B W ds) (hs : Shut S W W') (hlt : ∀ d ∈ ds, ∀ r, d.target = .collected r → r < S) : Marks B W' ds :=
 h.keep fun d hd r hr h0 => (hs.below.block r (hlt d hd r hr)).trans h0
theorem keepsFrom_below {B : Nat} {W W' : World} (h : Below W.heap.size W W') : KeepsFrom B W W' :=
 ⟨h.size, fun k o _ hk _ => (h.block k (Array.getElem?_eq_some_iff.1 hk).1).trans hk⟩
theorem keepsFrom_setCell (B : Nat) (W : World) (p : Addr) (v : Value) : KeepsFrom B W (W.setCell p v) := (KeepsOthers.setCell W p v).from B
end Go.Proofs.Ytehgijdjnddfcaa
/- append inside a fence, whatever its source; the marks of a function shut: maps lie as they lay. -/
namespace Go.Proofs.Ytehgijdjnddfcaa
open Go.RowKit

theorem wpListIn_append_any {F : Fence} {nn : Nat} {P : Program} {w : World} {ops : Array Oper} {rest : List Oper} {o : Oper} {a : Act} {Q : Exit → Act → World → Prop} (hgd : o.guard = none) (s x : Operand) {t e : TypeId}
  (ho : o.op = .call { callee := .builtin .append, args := #[s, x], argTypes := #[t, t] })
  {z : Value} {size bytes : Nat} (EE : ElemAt P t e z size bytes) {base : Nat} {A : Option Addr} {n cap : Nat} {xs : List Value} (hs : a.eval s = .slice A n cap) (hown : Own w base e size A n cap xs)
  {A2 : Option Addr} {m c B : Nat} {news : List Value} (hx : a.eval x = .slice A2 m c) (hR : Reads w B size A2 m news) (h1 : ∀ u ∈ news, u.oneCell' = true) (h63 : n + m ≤ maxLen) (hbytes : (n + m) * bytes ≤ 140737488355328) (hbase : base ≤ w.heap.size)
  (h : ∀ A' cap' w', Own w' base e size A' (n + m) cap' (xs ++ news) → w.grownBy w' (A.map (·.block)) → (A' = A ∨ A' = some ⟨w.heap.size, 0, none⟩) → wpListIn F nn P ops Q rest (a.put o.dst (.slice A' (n + m) cap')) w') :
  wpListIn F nn P ops Q (o :: rest) a w := by
 refine wpListIn_plain hgd fun K hK => ?_
 obtain ⟨A', cap', w', hr, h2, h3, h4⟩ := run_append_any (P := P) w o.type EE hown hR (c := c) h1 h63 hbytes hbase
 unfold Oper.wpIn
 refine ⟨?_, ?_⟩
 ·simp [Oper.about, ho, resolve, Target.leads, Sem.run_pure]
 ·rw [Oper.semAt_plain F _ _ (by rw [ho]; intro c hc'; cases hc')]
  unfold execOp
  simp only [ho, resolve, invoke, builtin, Sem.run_bind, Sem.run_pure, Result.andThen_ok, List.map_toArray, List.map_cons, List.map_nil, hs, hx, hr]
  exact hK _ _ (h A' cap' w' h2 h3 h4)

/-- What shutting the marks leaves: all that is no block of deferred calls. -/
structure ShutD (B : Nat) (w w' : World) : Prop where
 below : Below B w w'
 others : ∀ (b : Nat) o, w.heap[b]? = some o → (∀ x, o ≠ .deferred x) → w'.heap[b]? = some o
theorem ShutD.refl (B : Nat) (w : World) : ShutD B w w := ⟨Below.refl _ _, fun _ _ h _ => h⟩
theorem ShutD.trans {B : Nat} {w w' w'' : World} (h : ShutD B w w') (k : ShutD B w' w'') : ShutD B w w'' := ⟨h.below.trans k.below, fun b o e hn => k.others b o (h.others b o e hn) hn⟩
theorem ShutD.blk {B g : Nat} {w w' : World} {t : TypeId} {cs : Array Value} (h : ShutD B w w') (b : Blk w g t cs) : Blk w' g t cs := h.others _ _ b (fun x e => by cases e)
theorem ShutD.own {B base n cap size : Nat} {w w' : World} {e : TypeId} {A : Option Addr} {xs : List Value} (h : ShutD B w w') (o : Own w base e size A n cap xs) : Own w' base e size A n cap xs := by
 refine ⟨o.1, ?_⟩
 rcases o.2 with h' | ⟨g, cap', cur, hv, hb, hg, hr⟩
 ·exact .inl h'
 ·exact .inr ⟨g, cap', cur, hv, hb, h.others g _ hg (fun x e => by cases e), hr⟩
theorem ShutD.reads {B B' size n : Nat} {w w' : World} {A : Option Addr} {xs : List Value} (h : ShutD B w w') (r : Reads w B' size A n xs) : Reads w' B' size A n xs := by
 rcases Nat.eq_zero_or_pos size with h0 | h0
 ·refine ⟨r.1, fun hn => ?_⟩
  obtain ⟨ad, e, hb, hc⟩ := r.2 hn
  refine ⟨ad, e, hb, fun j u hu => ?_⟩
  have := (List.getElem?_eq_some_iff.1 hu).1
  rw [r.1, h0] at this
  omega
 ·refine ⟨r.1, fun hn => ?_⟩
  obtain ⟨ad, e, hb, hc⟩ := r.2 hn
  refine ⟨ad, e, hb, fun j u hu => ?_⟩
  have h1 := hc j u hu
  obtain ⟨o, ho, hcell⟩ := cells_of_cell h1
  rw [← h1]
  refine World.cell?_of_block ?_
  rw [ho]
  exact h.others _ _ ho (fun x e => by subst e; simp [Obj.isCells] at hcell)

theorem shutD_put {B r : Nat} {w : World} (hB : B ≤ r) (h : w.heap[r]? = some (.deferred (some []))) : ShutD B w (w.putObj r (.deferred none)) := by
 have hlt := (Array.getElem?_eq_some_iff.1 h).1
 refine ⟨(Below.refl B w).grown (grownBy_putObj' w r (.deferred none)) (by omega) (fun k e => by cases e; exact hB), fun b o e hn => ?_⟩
 have hne : b ≠ r := by
  intro e'
  subst e'
  rw [h] at e
  cases e
  exact hn _ rfl
 exact (World.putObj_heap_other hne).trans e

theorem leaves_marksD {F : Fence} {n : Nat} {P : Program} {fn : Func} {tmps : Array Value} {R : Ending → World → Prop} {B : Nat} : ∀ (ds : List Deferred) (w : World), Marks B w ds →
  (∀ w', ShutD B w w' → LeavesIn F n P fn tmps R [] .returning w') → LeavesInM F n P fn tmps R ds .returning w
 | [], w, _, h => h w (ShutD.refl _ _)
 | d :: ds, w, ⟨⟨r, h1, h2, h3, h4⟩, h5⟩, h => by
  refine ⟨by simp, .inl ⟨r, _, h2, run_takeDeferred h3, ?_⟩⟩
  refine leaves_marksD ds _ (h5.keep fun d' hd r' hr h0 => ?_) (fun w' hs => h w' ((shutD_put h1 h3).trans hs))
  have hne : r' ≠ r := by
   intro e
   subst e
   exact h4 d' hd hr
  exact (World.putObj_heap_other hne).trans h0
end Go.Proofs.Ytehgijdjnddfcaa
/- book.Numbers: the closure that reads all numbers, and Numbers. -/
namespace Go.Proofs.Ytehgijdjnddfcaa
open Go.RowKit
attribute [local go_sem] Oper.semAt_some

theorem keepsFrom_grown {B : Nat} {W W' : World} {row : Option Nat} (hg : W.grownBy W' row) (hr : ∀ r, row = some r → ∃ t cs, Blk W r t cs) : KeepsFrom B W W' :=
 ⟨hg.size, fun k o _ hk hc => (hg.block k (Array.getElem?_eq_some_iff.1 hk).1 (fun e => by
  obtain ⟨t, cs, hb⟩ := hr k e.symm
  unfold Blk at hb
  rw [hb] at hk
  cases hk
  cases hc)).trans hk⟩
theorem own_setCell {w : World} {base n cap size : Nat} {e : TypeId} {A : Option Addr} {xs : List Value} (h : Own w base e size A n cap xs) {p : Addr} (hp : p.block < base) (u : Value) : Own (w.setCell p u) base e size A n cap xs := by
 refine ⟨h.1, ?_⟩
 rcases h.2 with h' | ⟨g, cap', cur, hv, hb, hg, hr⟩
 ·exact .inl h'
 ·exact .inr ⟨g, cap', cur, hv, hb, (Below.heap_setCell w p u g (by omega)).trans hg, hr⟩
theorem own_blk {w : World} {base n cap size : Nat} {e : TypeId} {A : Option Addr} {xs : List Value} (h : Own w base e size A n cap xs) : ∀ r, A.map (·.block) = some r → ∃ t cs, Blk w r t cs := by
 intro r hr
 rcases h.form with ⟨rfl, _⟩ | ⟨g, cur, rfl, _, hb, _⟩
 ·cases hr
 ·cases hr; exact ⟨_, _, hb⟩
theorem own_rowS {w : World} {base n cap size k : Nat} {e : TypeId} {A : Option Addr} {xs : List Value} (h : Own w base e size A n cap xs) (hk : A.map (·.block) = some k) : base ≤ k := by
 cases A with
 | none => cases hk
 | some a => cases hk; exact (h.lt rfl).1
def intsV (xs : List NumX) : List Value := (numInts xs).map (Value.int .i64)
/-- What the loop knows: the list's box, and the numbers so far. -/
structure NumsI (w w0 : World) (gr : Nat) (pre : List NumX) (W : World) : Prop where
 ex : ∃ B q, Blk W gr 36 #[.slice B pre.length q] ∧ Own W (w.heap.size + 1) 3 1 B pre.length q (intsV pre)
 gr : w.grownBy W (some gr)
 le : w0.heap.size ≤ W.heap.size
theorem keepS_trans {gs : Nat} {A B C : World} (h : keepS gs A B) (k : keepS gs B C) : keepS gs A C := fun cs hb => k cs (h cs hb)
theorem grown_two {w A B : World} {r1 r2 : Option Nat} (h : w.grownBy A r1) (k : A.grownBy B r2) (hr : ∀ j, r2 = some j → w.heap.size ≤ j) : w.grownBy B r1 :=
 ⟨k.os.trans h.os, k.tape.trans h.tape, k.output.trans h.output, Nat.le_trans h.size k.size, fun j hj hne => (k.block j (Nat.lt_of_lt_of_le hj h.size) (fun e => absurd (hr j e.symm) (by omega))).trans (h.block j hj hne)⟩
theorem grown_belowB {w A B : World} {r1 : Option Nat} {n : Nat} (h : w.grownBy A r1) (k : Below n A B) (hn : w.heap.size ≤ n) : w.grownBy B r1 :=
 ⟨k.os.trans h.os, k.tape.trans h.tape, k.output.trans h.output, Nat.le_trans h.size k.size, fun j hj hne => (k.block j (by omega)).trans (h.block j hj hne)⟩
section
variable {w w0 : World} {gr : Nat} {pre : List NumX}
theorem NumsI.shut {W W' : World} (hw : w0.heap.size = w.heap.size + 1) (hg : gr < w.heap.size) (h : NumsI w w0 gr pre W) (hs : Shut w0.heap.size W W') : NumsI w w0 gr pre W' := by
 obtain ⟨B, q, h1, h2⟩ := h.ex
 refine ⟨⟨B, q, hs.blk h1, h2.1, ?_⟩, grown_belowB h.gr hs.below (by omega), Nat.le_trans h.le hs.below.size⟩
 rcases h2.2 with h' | ⟨g, cap', cur, hv, hb, hgg, hr⟩
 ·exact .inl h'
 ·exact .inr ⟨g, cap', cur, hv, hb, hs.cells _ _ _ _ hgg, hr⟩
theorem NumsI.own (hw : w0.heap.size = w.heap.size + 1) (hg : gr < w.heap.size) : OwnFrom w0.heap.size (NumsI w w0 gr) :=
 ownFrom_shut (fun s W h => h.le) (fun s W W' h hs => h.shut hw hg hs)
theorem NumsI.box {A B : World} (hg : gr < w.heap.size) (h : NumsI w w0 gr pre A) (k : A.grownBy B (some w.heap.size)) : NumsI w w0 gr pre B := by
 obtain ⟨B', q, h1, h2⟩ := h.ex
 refine ⟨⟨B', q, h1.grown k (fun e => by cases e; omega), h2.grown k (fun a ha e => ?_)⟩, grown_two h.gr k (fun j e => by cases e; exact Nat.le_refl _), Nat.le_trans h.le k.size⟩
 have h3 := (h2.lt ha).1
 have h4 : a.block = w.heap.size := Option.some.inj e
 omega
end
theorem one_int {W : World} {g : Nat} {x : Int} {B : Nat} (hB : g < B) (h : W.cell? ⟨g, 0, none⟩ = some (.int .i64 x)) : Reads W B 1 (some ⟨g, 0, none⟩) 1 ([x].map (Value.int .i64)) :=
 ⟨rfl, fun _ => ⟨_, rfl, hB, fun j u hu => by
  match j, hu with
  | 0, hu => simp at hu; rw [← hu]; simpa [Addr.add] using h⟩⟩
def NumOk (s : ByteArray) (b gr : Nat) (V : World) : Prop := ∃ B q l, Blk V gr 36 #[.slice B l.length q] ∧ Own V b 3 1 B l.length q (l.map (Value.int .i64)) ∧ NumAt s.data.toList s.data.toList.length l
theorem NumOk.keep {s : ByteArray} {b gr k : Nat} {A B : World} (h : NumOk s b gr A) (hg : A.grownBy B (some k)) (h1 : gr ≠ k) (h2 : k < b) : NumOk s b gr B := by
 obtain ⟨C, q, l, h3, h4, h5⟩ := h
 refine ⟨C, q, l, h3.grown hg (fun e => h1 (Option.some.inj e)), h4.grown hg (fun a ha e => ?_), h5⟩
 have h6 := (h4.lt ha).1
 have h7 : a.block = k := Option.some.inj e
 omega
end Go.Proofs.Ytehgijdjnddfcaa
/- strings.Join, off the shelf. -/
namespace Go.Proofs.Ytehgijdjnddfcaa
open Go.RowKit Go.Shelf
shelf_lay Lays.n156 Nm 156 at Try as Try.lays156
theorem join_extra : Builder.Extra Try.prog Try.lays156_ren where
 sizeBuilder := by kernel_rfl
 liesBuilder := by kernel_rfl
 t5 := Try.underlying5
 a5 := fun w => by kernel_rfl
 z5 := fun w => by kernel_rfl
 v5 := fun w => by kernel_rfl
 infoByte := by kernel_rfl
 cellsByte := by kernel_rfl
 sizeByte := by kernel_rfl
 neB5 := by decide
/-- A list of strings in memory. -/
def StrsAt (w : World) (B : Nat) (A : Option Addr) (n : Nat) (l : List ByteArray) : Prop := Reads w B 1 A n (l.map Value.string)
section
variable {w w' : World} {B B' n : Nat} {A : Option Addr} {l : List ByteArray}
theorem StrsAt.len (h : StrsAt w B A n l) : l.length = n := by have := h.1; simpa using this
theorem StrsAt.cell (h : StrsAt w B A n l) {k : Nat} (hk : k < n) : ∃ b off x, A = some ⟨b, off, none⟩ ∧ b < B ∧ l[k]? = some x ∧ w.cell? ⟨b, off + k, none⟩ = some (.string x) := by
 have hl := h.len
 obtain ⟨b, off, e, hb, hc⟩ := Reads.plain h (by simp; omega)
 have hx : l[k]? = some l[k] := List.getElem?_eq_getElem (by omega)
 exact ⟨b, off, _, e, hb, hx, hc k _ (by rw [List.getElem?_map, hx]; rfl)⟩
theorem StrsAt.below (h : StrsAt w B A n l) (hb : Below B w w') : StrsAt w' B A n l := Reads.below h hb
theorem StrsAt.more (h : StrsAt w B A n l) (hB : B ≤ B') : StrsAt w B' A n l := Reads.more h hB
end
/-- All strings, one behind the other. -/
def allS (l : List ByteArray) : ByteArray := ⟨(l.map (·.data.toList)).flatten.toArray⟩
theorem flat_sperse : ∀ (l : List (List UInt8)), (List.intersperse [] l).flatten = l.flatten
 | [] => rfl
 | [x] => rfl
 | x :: y :: r => by
  have h := flat_sperse (y :: r)
  show (x :: [] :: List.intersperse [] (y :: r)).flatten = _
  rw [List.flatten_cons, List.flatten_cons, h, List.flatten_cons]
  rfl
theorem join_flat (l : List (List UInt8)) : Lib.join l [] = l.flatten := flat_sperse l
theorem allS_size (l : List ByteArray) : (allS l).size = (l.map (·.data.toList)).flatten.length := by
 unfold allS
 simp only [ByteArray.size, List.size_toArray]
theorem join_any (A : Option Addr) (n c : Nat) (l : List ByteArray) (w : World) (h : StrsAt w w.heap.size A n l) (hn : n ≤ c) (hs : (allS l).size ≤ 1000000) (hn2 : n ≤ 1000000) :
  Calls Try.prog 30 #[.slice A n c, .string ⟨#[]⟩] w fun e w' => e = .returned (.string (allS l)) ∧ Below w.heap.size w w' := by
 have hl := h.len
 have hj : Lib.join (l.map (·.data.toList)) (⟨#[]⟩ : ByteArray).data.toList = (l.map (·.data.toList)).flatten := join_flat _
 by_cases h0 : n = 0
 ·subst h0
  have e : l = [] := List.eq_nil_of_length_eq_zero hl
  subst e
  exact (Any.strings_Join_none Try.lays156 join_extra A c ⟨#[]⟩ w).mono fun e w' ⟨he, hw⟩ => ⟨he, hw ▸ Below.refl _ _⟩
 ·obtain ⟨b, off, x, rfl, hb, _, _⟩ := h.cell (k := 0) (by omega)
  have hJ := Any.strings_Join Try.lays156 join_extra b off c l ⟨#[]⟩ w (fun j x hx => by
   have hjn : j < n := by have := (List.getElem?_eq_some_iff.1 hx).1; omega
   obtain ⟨b', off', x', e, _, hx', hc⟩ := h.cell hjn
   cases e
   rw [hx] at hx'
   cases hx'
   exact hc) hb (by omega) (by omega) (by rw [hj, ← allS_size]; omega)
  rw [hj, hl] at hJ
  exact hJ
end Go.Proofs.Ytehgijdjnddfcaa
/- The answer's Same and Great at lists of strings. -/
namespace Go.Proofs.Ytehgijdjnddfcaa
open Go.RowKit

set_option maxRecDepth 100000 in
set_option maxHeartbeats 2000000 in
theorem sameStrs_any (A : Option Addr) (n c : Nat) (l : List ByteArray) (B : Option Addr) (d : Nat) (w : World) (hn : n ≤ 1000000) (ha : StrsAt w w.heap.size A n l) (hb : StrsAt w w.heap.size B n l) :
  Calls Try.prog 20 #[.slice A n c, .slice B n d] w fun e w' => e = .returned (.bool true) ∧ Below w.heap.size w w' := by
 have HA := Lib.hid ha
 have HB := Lib.hid hb
 clear ha hb
 have hnn : ((n : Int) == (n : Int)) = true := by simp
 go_enter Try.func20, Try.ntmps20
 go_wp2_with fail
 go_loopw [5] (fun i wr => ∃ k : Nat, k ≤ n ∧ i = .int .i64 k ∧ Below w.heap.size w wr) (fun i _ => n - (intOf i).toNat)
 case atStart => exact ⟨0, by omega, rfl, Below.refl _ _⟩
 case round =>
  obtain ⟨k, hk, rfl, hbel⟩ := hrel
  by_cases hlt : k < n
  ·obtain ⟨b1, o1, x, hA, hb1, hx, cx⟩ := (HA.out.below hbel).cell hlt
   obtain ⟨b2, o2, y, hB, hb2, hy, cy⟩ := (HB.out.below hbel).cell hlt
   rw [hx] at hy
   obtain rfl : x = y := Option.some.inj hy
   subst hA hB
   have kI : (k : Int) < (n : Int) := by omega
   have k0 : (0 : Int) ≤ (k : Int) := by omega
   clear hx hy
   go_wp2_with fail
   go_quiet (fail)
   go_wp2_with fail
   go_roundw
   case rel => exact ⟨k + 1, by omega, by go_num, below_drewN hbel _⟩
   case measure => simp [intOf]; omega
  ·go_wp2_with fail
   go_ret
   exact ⟨rfl, hbel⟩
def greatS (l : List ByteArray) : Bool := decide (200 < l.length) || l.any fun s => decide (2000 < s.size)
theorem greatS_no {l : List ByteArray} (h : greatS l = false) : l.length ≤ 200 ∧ ∀ s ∈ l, s.size ≤ 2000 := by
 unfold greatS at h
 simp at h
 exact ⟨h.1, fun s hs => h.2 s hs⟩
set_option maxRecDepth 100000 in
set_option maxHeartbeats 2000000 in
theorem greatStrs_any (A : Option Addr) (n c : Nat) (l : List ByteArray) (w : World) (hn : n ≤ maxLen) (ha : StrsAt w w.heap.size A n l) :
  Calls Try.prog 15 #[.slice A n c] w fun e w' => e = .returned (.bool (greatS l)) ∧ Below w.heap.size w w' := by
 have HA := Lib.hid ha
 have HL := Lib.hid ha.len
 unfold maxLen at hn
 clear ha
 by_cases h2 : 200 < n
 ·have HG : Hid (greatS l = true) := Lib.hid (by unfold greatS; rw [HL.out]; simp [h2])
  go_enter Try.func15, Try.ntmps15
  go_wp2_with fail
  go_ret
  exact ⟨ret_bool HG.out.symm, Below.refl _ _⟩
 ·go_enter Try.func15, Try.ntmps15
  go_wp2_with fail
  go_loopw [10] (fun i wr => ∃ k : Nat, k ≤ n ∧ i = .int .i64 k ∧ Hid (∀ s ∈ l.take k, s.size ≤ 2000) ∧ Below w.heap.size w wr) (fun i _ => n - (intOf i).toNat)
  case atStart => exact ⟨0, by omega, rfl, Lib.hid (by simp), Below.refl _ _⟩
  case round =>
   obtain ⟨k, hk, rfl, HK, hbel⟩ := hrel
   by_cases hlt : k < n
   ·obtain ⟨b1, o1, x, hA, hb1, hx, cx⟩ := (HA.out.below hbel).cell hlt
    subst hA
    have HX := Lib.hid hx
    have kI : (k : Int) < (n : Int) := by omega
    have k0 : (0 : Int) ≤ (k : Int) := by omega
    clear hx
    by_cases hbig : 2000 < x.size
    ·have HG : Hid (greatS l = true) := Lib.hid (by
      unfold greatS
      rw [Bool.or_eq_true]
      exact .inr (List.any_eq_true.2 ⟨x, List.mem_of_getElem? HX.out, by simpa using hbig⟩))
     go_wp2_with fail
     go_ret
     exact ⟨ret_bool HG.out.symm, hbel⟩
    ·go_wp2_with fail
     go_roundw
     case rel => exact ⟨k + 1, by omega, by go_num, Lib.hid (by
      intro s hs
      obtain ⟨hk', e⟩ := List.getElem?_eq_some_iff.1 HX.out
      rw [List.take_succ_eq_append_getElem hk', e] at hs
      rcases List.mem_append.1 hs with h | h
      ·exact HK.out s h
      ·rw [List.mem_singleton.1 h]; omega), hbel⟩
     case measure => simp [intOf]; omega
   ·have HG : Hid (greatS l = false) := Lib.hid (by
     have e : l.take k = l := List.take_of_length_le (by rw [HL.out]; omega)
     have h := HK.out
     rw [e] at h
     unfold greatS
     rw [HL.out]
     simp
     exact ⟨by omega, h⟩)
    go_wp2_with fail
    go_ret
    exact ⟨ret_bool HG.out.symm, hbel⟩
end Go.Proofs.Ytehgijdjnddfcaa
/- The answer's number and Number. -/
namespace Go.Proofs.Ytehgijdjnddfcaa
open Go.RowKit

theorem cv_one (W : World) (g : Nat) (x : Int) (h : W.cell? ⟨g, 0, none⟩ = some (.int .u8 x)) :
  (convert 56 9 (.slice (some ⟨g, 0, none⟩) 1 1)).run Try.prog W = .ok (.string (ByteArray.empty.push (UInt8.ofNat x.toNat))) W := by
 rw [run_convert_bytes_string W _ _ _ _ 1 1 Try.underlying56 Try.underlying5 Try.underlying9]
 refine run_bytesToString W ⟨g, 0, none⟩ 1 1 [x] ?_
 exact run_loadCells_list (P := Try.prog) W ⟨g, 0, none⟩ [.int .u8 x] (fun j v hj => by
  match j, hj with
  | 0, hj => simp at hj; subst hj; simpa [Addr.add] using h)
/-- The bytes of a number, as a string. -/
def encS (n : Nat) : ByteArray := ⟨(encN n).toArray⟩
theorem push_list (b : UInt8) : ByteArray.empty.push b = ⟨#[b]⟩ := rfl
theorem encS_small {n : Nat} (h : n < 128) : ByteArray.empty.push (UInt8.ofNat n) = encS n := by
 unfold encS
 rw [encN_small h]
 rfl
theorem encS_more {n : Nat} (h : ¬ n < 128) : ByteArray.empty.push (UInt8.ofNat (128 + n % 128)) ++ encS (n / 128) = encS n := by
 have e : encN n = UInt8.ofNat (128 + n % 128) :: encN (n / 128) := encN_more h
 unfold encS
 rw [e]
 apply ByteArray.ext
 rw [push_list, ByteArray.data_append]
 simp
theorem encN_len (m : Nat) : (encN m).length ≤ m + 1 := by
 induction m using Nat.strongRecOn with
 | ind m ih =>
  by_cases h : m < 128
  ·rw [encN_small h]; simp
  ·have := ih (m / 128) (by omega)
   rw [encN_more h, List.length_cons]
   omega
theorem encS_len (m : Nat) : (encS m).size ≤ m + 1 := by
 have := encN_len m
 unfold encS
 simpa [ByteArray.size] using this
set_option maxRecDepth 100000 in
set_option maxHeartbeats 4000000 in
theorem rnumber_any (n : Nat) : n ≤ 999999999 → ∀ (w : World), Calls Try.prog 25 #[.int .i64 (n : Int)] w fun e w' => e = .returned (.string (encS n)) ∧ Below w.heap.size w w' := by
 induction n using Nat.strongRecOn with
 | ind n ih =>
  intro hn w
  have hcv := cv_one
  by_cases h : n < 128
  ·have hd : decide ((n : Int) < 128) = true := by simp; omega
   clear ih
   go_enter Try.func25, Try.ntmps25
   go_wp2_with fail
   exact bodyPost_ret (v := .string (ByteArray.empty.push (UInt8.ofNat n))) (by simp [results, Try.results25, go_sem]) rfl ⟨by rw [encS_small h], (Below.refl _ _).alloc (Nat.le_refl _) _⟩
  ·have hd : decide ((n : Int) < 128) = false := by simp; omega
   have IH := Lib.hid (ih (n / 128) (by omega) (by omega))
   have HQ := Lib.hid (show IntKind.i64.wrap ((n : Int) / 128) = ((n / 128 : Nat) : Int) from (IntWalk.i64_in _ (by omega)).trans (by omega))
   have HU := Lib.hid (show UInt8.ofNat (IntKind.u8.wrap (IntKind.i64.wrap (128 + (n : Int).tmod 128))).toNat = UInt8.ofNat (128 + n % 128) from by
    have e : (n : Int).tmod 128 = ((n % 128 : Nat) : Int) := by rw [Int.tmod_eq_emod_of_nonneg (by omega)]; omega
    rw [e, IntWalk.i64_in _ (by omega), IntWalk.u8_in _ (by omega)]
    congr 1)
   have hsz : ¬ 9223372036854775807 < 1 + (encS (n / 128)).size := by have := encS_len (n / 128); omega
   clear ih
   go_enter Try.func25, Try.ntmps25
   go_upto_region 3 with fail
   go_region_with (first
    | (go_at_call 25; with_reducible (show Calls _ _ _ (World.drew (World.alloc _ _)) _); rw [HQ.out]; refine (IH.out _).mono ?_; rintro e w2 ⟨rfl, hb⟩; have hc8 : w2.cell? ⟨w.heap.size, 0, none⟩ = some (.int .u8 (IntKind.u8.wrap (IntKind.i64.wrap (128 + (n : Int).tmod 128)))) := (hb.cell (p := ⟨w.heap.size, 0, none⟩) (by simp)).trans (by simp [go_sem]))
    | (go_at_call 25; rw [HQ.out]; refine (IH.out _).mono ?_; rintro e w2 ⟨rfl, hb⟩))
   all_goals go_wp2_with fail
   all_goals rw [HU.out, encS_more h]
   all_goals refine bodyPost_ret (v := .string (encS n)) (by simp [results, Try.results25, go_sem]) rfl ⟨rfl, ?_⟩
   ·exact (below_drewN ((Below.refl w.heap.size w).alloc (Nat.le_refl _) _) 1).trans (hb.mono (by simp))
   ·exact (below_drewN ((Below.refl w.heap.size w).alloc (Nat.le_refl _) _) 1).trans (hb.mono (by simp))
   ·exact ((below_drewN (Below.refl w.heap.size w) 1).trans hb).alloc hb.size _
end Go.Proofs.Ytehgijdjnddfcaa
/- Packed files, plain: the bytes of a list of strings. -/
namespace Go.Proofs.Ytehgijdjnddfcaa

def BS (l : List UInt8) : ByteArray := ⟨l.toArray⟩
theorem BS_size (l : List UInt8) : (BS l).size = l.length := by unfold BS; simp only [ByteArray.size, List.size_toArray]
theorem BS_app (a b : List UInt8) : BS a ++ BS b = BS (a ++ b) := by
 apply ByteArray.ext
 rw [ByteArray.data_append]
 unfold BS
 simp
theorem BS_data (x : ByteArray) : BS x.data.toList = x := by
 unfold BS
 simp
theorem encS_BS (n : Nat) : encS n = BS (encN n) := rfl
def bodyL (l : List ByteArray) : List UInt8 := (l.map (·.data.toList)).flatten
def headL (l : List ByteArray) (m : Nat) : List UInt8 := encN m ++ (l.map fun s => encN s.size).flatten
theorem allS_BS (l : List ByteArray) : allS l = BS (bodyL l) := rfl
section
variable {l : List ByteArray} {k m : Nat} {x : ByteArray}
theorem take_up (h : l[k]? = some x) : l.take (k + 1) = l.take k ++ [x] := by
 obtain ⟨hk, e⟩ := List.getElem?_eq_some_iff.1 h
 rw [List.take_succ_eq_append_getElem hk, e]
theorem body_up (h : l[k]? = some x) : bodyL (l.take (k + 1)) = bodyL (l.take k) ++ x.data.toList := by
 unfold bodyL
 rw [take_up h, List.map_append, List.flatten_append]
 simp
theorem head_up (h : l[k]? = some x) : headL (l.take (k + 1)) m = headL (l.take k) m ++ encN x.size := by
 unfold headL
 rw [take_up h, List.map_append, List.flatten_append, List.append_assoc]
 simp
theorem body_len_up (h : l[k]? = some x) : (bodyL (l.take (k + 1))).length = (bodyL (l.take k)).length + x.size := by
 rw [body_up h, List.length_append]
 congr 1
theorem body_le : (bodyL (l.take k)).length ≤ (bodyL l).length := by
 have e : bodyL l = bodyL (l.take k) ++ bodyL (l.drop k) := by
  unfold bodyL
  rw [← List.flatten_append, ← List.map_append, List.take_append_drop]
 rw [e, List.length_append]
 omega
end
/-- The packed file, or the error. -/
def packV (l : List ByteArray) : Value :=
 if 20 < l.length then .tuple #[.string ⟨#[]⟩, .int .i64 4]
 else if 960 < (headL l l.length).length + (bodyL l).length then .tuple #[.string ⟨#[]⟩, .int .i64 113]
 else .tuple #[.string (BS (headL l l.length ++ bodyL l)), .int .i64 0]
theorem packV_many {l : List ByteArray} (h : 20 < l.length) : packV l = .tuple #[.string ⟨#[]⟩, .int .i64 4] := if_pos h
theorem packV_long {l : List ByteArray} (h : ¬ 20 < l.length) (h2 : 960 < (headL l l.length).length + (bodyL l).length) : packV l = .tuple #[.string ⟨#[]⟩, .int .i64 113] := by
 unfold packV
 rw [if_neg h, if_pos h2]
theorem packV_ok {l : List ByteArray} (h : ¬ 20 < l.length) (h2 : ¬ 960 < (headL l l.length).length + (bodyL l).length) : packV l = .tuple #[.string (BS (headL l l.length ++ bodyL l)), .int .i64 0] := by
 unfold packV
 rw [if_neg h, if_neg h2]
theorem packV_over {l : List ByteArray} {k : Nat} (h : ¬ 20 < l.length) (h2 : 960 < (bodyL (l.take k)).length) : packV l = .tuple #[.string ⟨#[]⟩, .int .i64 113] :=
 packV_long h (by have := body_le (l := l) (k := k); omega)
end Go.Proofs.Ytehgijdjnddfcaa
/- What is unpacked, plain. -/
namespace Go.Proofs.Ytehgijdjnddfcaa

theorem run_pre {l : List UInt8} {k : Nat} : ∀ {j p : Nat} {xs : List Int}, runN l (k + j) = some (p, xs) → ∃ q, runN l k = some (q, xs.take k)
 | 0, p, xs, h => ⟨p, by
  have h2 := (run_small h).2.2.1
  rw [List.take_of_length_le (by omega)]
  exact h⟩
 | j + 1, p, xs, h => by
  have h' : runN l ((k + j) + 1) = some (p, xs) := h
  rw [runN] at h'
  cases hk : runN l (k + j) with
  | none => rw [hk] at h'; cases h'
  | some y =>
   obtain ⟨p0, ys⟩ := y
   rw [hk] at h'
   dsimp only at h'
   split at h'
   ·cases hd : decN5 l p0 with
    | none => rw [hd] at h'; cases h'
    | some z =>
     obtain ⟨n, to'⟩ := z
     rw [hd] at h'
     cases h'
     obtain ⟨q, hq⟩ := run_pre (j := j) hk
     have h3 := (run_small hk).2.2.1
     exact ⟨q, by rw [hq, List.take_append_of_le_length (by omega)]⟩
   ·cases h'
/-- The strings of a packed file. -/
def Packed (s : ByteArray) (o : List ByteArray) : Prop :=
 ∃ p, o.length ≤ 20 ∧ runN s.data.toList (o.length + 1) = some (p, (o.length : Int) :: o.map fun x => (x.size : Int)) ∧ s.data.toList.drop p = bodyL o
theorem body_sizes : ∀ {a b : List ByteArray}, (a.map fun x => (x.size : Int)) = (b.map fun x => (x.size : Int)) → (bodyL a).length = (bodyL b).length
 | [], [], _ => rfl
 | [], y :: b, h => by cases h
 | x :: a, [], h => by cases h
 | x :: a, y :: b, h => by
  simp only [List.map_cons, List.cons.injEq] at h
  have h2 := body_sizes h.2
  have e1 : bodyL (x :: a) = x.data.toList ++ bodyL a := by unfold bodyL; simp
  have e2 : bodyL (y :: b) = y.data.toList ++ bodyL b := by unfold bodyL; simp
  have h3 := len_bytes x
  have h4 := len_bytes y
  rw [e1, e2, List.length_append, List.length_append]
  omega
theorem body_inj : ∀ {a b : List ByteArray}, (a.map fun x => (x.size : Int)) = (b.map fun x => (x.size : Int)) → bodyL a = bodyL b → a = b
 | [], [], _, _ => rfl
 | [], y :: b, h, _ => by cases h
 | x :: a, [], h, _ => by cases h
 | x :: a, y :: b, h, hb => by
  simp only [List.map_cons, List.cons.injEq] at h
  have e1 : bodyL (x :: a) = x.data.toList ++ bodyL a := by unfold bodyL; simp
  have e2 : bodyL (y :: b) = y.data.toList ++ bodyL b := by unfold bodyL; simp
  rw [e1, e2] at hb
  have h3 := len_bytes x
  have h4 := len_bytes y
  obtain ⟨h5, h6⟩ := List.append_inj hb (by omega)
  rw [body_inj h.2 h6]
  congr 1
  rw [← BS_data x, ← BS_data y, h5]
theorem packed_first {s : ByteArray} {o : List ByteArray} (h : Packed s o) : ∃ q, runN s.data.toList 1 = some (q, [(o.length : Int)]) := by
 obtain ⟨p, _, h2, _⟩ := h
 rw [Nat.add_comm] at h2
 obtain ⟨q, hq⟩ := run_pre h2
 exact ⟨q, hq⟩
/-- One way of being packed alone; told from what is read. -/
theorem packed_read {s : ByteArray} {o : List ByteArray} (h : Packed s o) {m p : Nat} {sz : List Int} (hr : runN s.data.toList (m + 1) = some (p, (m : Int) :: sz)) :
  o.length = m ∧ m ≤ 20 ∧ (o.map fun x => (x.size : Int)) = sz ∧ s.data.toList.drop p = bodyL o := by
 obtain ⟨q, hq⟩ := packed_first h
 have hr' := hr
 rw [Nat.add_comm] at hr'
 obtain ⟨q', hq'⟩ := run_pre hr'
 rw [hq] at hq'
 have e : o.length = m := by
  have h1 := congrArg (fun x => (x.map (·.2)).getD []) hq'
  simp at h1
  omega
 obtain ⟨p', h1, h2, h3⟩ := h
 rw [e, hr] at h2
 simp only [Option.some.injEq, Prod.mk.injEq, List.cons.injEq, true_and] at h2
 exact ⟨e, by omega, h2.2.symm, by rw [h2.1]; exact h3⟩
theorem Packed.same {s : ByteArray} {o o' : List ByteArray} (h : Packed s o) (h' : Packed s o') : o = o' := by
 obtain ⟨p, h1, h2, h3⟩ := h
 obtain ⟨_, _, h4, h5⟩ := packed_read h' h2
 exact (body_inj h4 (h5.symm.trans h3)).symm
/-- What Unpack answers. -/
def UnpIs (s : ByteArray) (o : List ByteArray) (e : Int) : Prop :=
 (960 < s.size ∧ o = [] ∧ e = 113) ∨ (¬ 960 < s.size ∧ ((e = 0 ∧ Packed s o) ∨ (e = 111 ∧ o = [] ∧ ∀ x, ¬ Packed s x)))
theorem UnpIs.same {s : ByteArray} {o o' : List ByteArray} {e e' : Int} (h : UnpIs s o e) (h' : UnpIs s o' e') : o = o' ∧ e = e' := by
 rcases h with ⟨a, rfl, rfl⟩ | ⟨a, ⟨rfl, b⟩ | ⟨rfl, rfl, b⟩⟩ <;> rcases h' with ⟨c, rfl, rfl⟩ | ⟨c, ⟨rfl, d⟩ | ⟨rfl, rfl, d⟩⟩
 ·exact ⟨rfl, rfl⟩
 ·exact absurd a c
 ·exact absurd a c
 ·exact absurd c a
 ·exact ⟨b.same d, rfl⟩
 ·exact absurd b (d _)
 ·exact absurd c a
 ·exact absurd d (b _)
 ·exact ⟨rfl, rfl⟩
theorem no_first {s : ByteArray} (h : runN s.data.toList 1 = none) : ∀ x, ¬ Packed s x := fun x hx => by
 obtain ⟨q, hq⟩ := packed_first hx
 rw [h] at hq
 cases hq
theorem no_many {s : ByteArray} {q : Nat} {m : Int} (h : runN s.data.toList 1 = some (q, [m])) (hm : 20 < m) : ∀ x, ¬ Packed s x := fun x hx => by
 obtain ⟨q', hq⟩ := packed_first hx
 rw [h] at hq
 obtain ⟨p, h1, _⟩ := hx
 have h2 := congrArg (fun x => (x.map (·.2)).getD []) hq
 simp at h2
 omega
theorem no_more {s : ByteArray} {m j q : Nat} (h1 : runN s.data.toList 1 = some (q, [(m : Int)])) (hj : j ≤ m) (h : runN s.data.toList (j + 1) = none) : ∀ x, ¬ Packed s x := fun x hx => by
 obtain ⟨q', hq⟩ := packed_first hx
 rw [h1] at hq
 obtain ⟨p, _, h2, _⟩ := hx
 have h3 := congrArg (fun x => (x.map (·.2)).getD []) hq
 simp at h3
 rw [run_none h (by omega)] at h2
 cases h2
/-- What is known behind some pieces. -/
structure PieceSt (s : ByteArray) (p : Nat) (sz : List Int) (o : List ByteArray) (at_ : Nat) : Prop where
 sizes : (o.map fun x => (x.size : Int)) = sz.take o.length
 le : o.length ≤ sz.length
 pos : at_ = p + (bodyL o).length
 in_ : at_ ≤ s.data.toList.length
 body : bodyL o = (s.data.toList.drop p).take (bodyL o).length
theorem PieceSt.start {s : ByteArray} {p : Nat} {sz : List Int} (hp : p ≤ s.data.toList.length) : PieceSt s p sz [] p :=
 ⟨rfl, Nat.zero_le _, rfl, hp, by unfold bodyL; simp⟩
theorem body_snoc (o : List ByteArray) (x : ByteArray) : bodyL (o ++ [x]) = bodyL o ++ x.data.toList := by
 unfold bodyL
 rw [List.map_append, List.flatten_append]
 simp
theorem PieceSt.step {s : ByteArray} {p n at_ : Nat} {sz : List Int} {o : List ByteArray} (h : PieceSt s p sz o at_) (hn : sz[o.length]? = some (n : Int)) (hl : at_ + n ≤ s.data.toList.length) : PieceSt s p sz (o ++ [s.extract at_ (at_ + n)]) (at_ + n) := by
 have hs := len_bytes s
 have hz : (s.extract at_ (at_ + n)).size = n := by rw [ByteArray.size_extract]; omega
 have hd : (s.extract at_ (at_ + n)).data.toList = (s.data.toList.drop at_).take n := by
  rw [ByteArray.data_extract, Array.toList_extract, List.extract_eq_take_drop]
  congr 1
  omega
 have hk := (List.getElem?_eq_some_iff.1 hn).1
 have hzl : (s.extract at_ (at_ + n)).data.toList.length = n := by rw [len_bytes]; exact hz
 refine ⟨?_, by rw [List.length_append]; exact hk, by rw [body_snoc, List.length_append, hzl]; have := h.pos; omega, hl, ?_⟩
 ·rw [List.map_append, h.sizes, List.length_append, List.length_singleton]
  obtain ⟨hk', e⟩ := List.getElem?_eq_some_iff.1 hn
  rw [List.take_succ_eq_append_getElem hk', e]
  simp [hz]
 ·rw [body_snoc, List.length_append, hzl, List.take_add, ← h.body, hd, List.drop_drop, h.pos]
theorem PieceSt.short {s : ByteArray} {p n at_ m : Nat} {sz : List Int} {o : List ByteArray} (h : PieceSt s p sz o at_) (hr : runN s.data.toList (m + 1) = some (p, (m : Int) :: sz)) (hn : sz[o.length]? = some (n : Int)) (hl : ¬ at_ + n ≤ s.data.toList.length) : ∀ x, ¬ Packed s x := fun x hx => by
 obtain ⟨h1, h2, h3, h4⟩ := packed_read hx hr
 have h5 := congrArg List.length h4
 rw [List.length_drop] at h5
 have hxl : x.length = sz.length := by rw [← h3, List.length_map]
 have hk := (List.getElem?_eq_some_iff.1 hn).1
 have hxk : x[o.length]? = some (x[o.length]'(by omega)) := List.getElem?_eq_getElem (by omega)
 have h6 := body_len_up hxk
 have h7 := body_le (l := x) (k := o.length + 1)
 have h8 : (bodyL (x.take o.length)).length = (bodyL o).length := body_sizes (by rw [List.map_take, h3, h.sizes])
 have h9 : ((x[o.length]'(by omega)).size : Int) = (n : Int) := by
  have := congrArg (fun l => l[o.length]?) h3
  simp only [List.getElem?_map, hxk, hn, Option.map_some, Option.some.injEq] at this
  exact this
 have h10 := h.pos
 have h11 := h.in_
 omega
theorem PieceSt.done {s : ByteArray} {p at_ m : Nat} {sz : List Int} {o : List ByteArray} (h : PieceSt s p sz o at_) (hr : runN s.data.toList (m + 1) = some (p, (m : Int) :: sz)) (hm : m ≤ 20) (ho : o.length = sz.length) (he : at_ = s.data.toList.length) : Packed s o := by
 have hl := (run_small hr).2.2.1
 rw [List.length_cons] at hl
 have e : o.length = m := by omega
 refine ⟨p, by omega, ?_, ?_⟩
 ·rw [e, hr, h.sizes, ho, List.take_length]
 ·have h1 := h.body
  have h2 := h.pos
  rw [List.take_of_length_le (by rw [List.length_drop]; omega)] at h1
  exact h1.symm
theorem PieceSt.left {s : ByteArray} {p at_ m : Nat} {sz : List Int} {o : List ByteArray} (h : PieceSt s p sz o at_) (hr : runN s.data.toList (m + 1) = some (p, (m : Int) :: sz)) (ho : o.length = sz.length) (he : ¬ at_ = s.data.toList.length) : ∀ x, ¬ Packed s x := fun x hx => by
 obtain ⟨h1, h2, h3, h4⟩ := packed_read hx hr
 have h5 := congrArg List.length h4
 rw [List.length_drop] at h5
 have h6 : (bodyL x).length = (bodyL o).length := body_sizes (by rw [h3, h.sizes, ho, List.take_length])
 have h7 := h.pos
 have h8 := h.in_
 omega
end Go.Proofs.Ytehgijdjnddfcaa
