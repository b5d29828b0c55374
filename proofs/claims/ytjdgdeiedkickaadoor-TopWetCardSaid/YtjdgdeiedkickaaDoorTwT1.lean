/- Part 1 of the texts of this claim, joined. -/
import Derived.Test.YtjdgdeiedkickaaDoorRows
import Derived.WalkKit
import Derived.ProofKit
import Derived.Below
import Derived.Laws.OwnMore
import Derived.Deep.AppendLies
import Derived.Deep.Draws
import Derived.Laws.Rows
import Derived.Deep.QuietTactic
import Derived.BigQuiet
import Derived.Lib.Hide
import Derived.Outline
import Derived.WalkLawsBesides
import Derived.WalkSpells
import Derived.RangeFuncNested
import Derived.RangeFuncBound
import Derived.RangeFuncCalls
import Derived.RangeFuncLeaves
import Derived.Shelf.Abstract
import Derived.Shelf.RegionOpen
import Derived.OwnWalkIn
import Derived.TacticsInMore
import Derived.LoopNIn
import Derived.LoopIn
import Derived.Sort.BigQuietIn
import Derived.StillTail
set_option linter.unusedVariables false
/- Mixed water in plain Lean: validity, and changes; what the program asks and what the answer asks is the same. -/
namespace Go.Proofs.YtjdgdeiedkickaaDoor.Mx

structure Vess where
 id : Int
 size : Int
 deriving DecidableEq
structure MAct where
 kind : Int
 fr : Int
 to : Int
 drops : Int
 deriving DecidableEq
structure Tast where
 num : Int
 vessel : Int
 after : Int
 fountain : Int
 lo : Int
 hi : Int
 deriving DecidableEq
structure Mix where
 fountains : Int
 vessels : List Vess
 acts : List MAct
 tastes : List Tast
 deriving DecidableEq
def zeroMix : Mix := ⟨0, [], [], []⟩
/-- The index of a vessel; -1 if there is none. -/
def idxV (l : List Vess) (id : Int) : Int := if l.any (fun v => v.id == id) then (l.findIdx (fun v => v.id == id) : Int) else -1
def sizeV (l : List Vess) (i : Int) : Int := ((l[i.toNat]?).map (·.size)).getD 0
/-- What vessels hold: four numbers. -/
abbrev Held := List Int
def heldAt (s : Held) (i : Int) : Int := (s[i.toNat]?).getD 0
def doneM (m : Mix) (s : Held) (x : MAct) : Option Held :=
 if x.kind = 1 then (if (1 ≤ x.fr ∧ x.fr ≤ m.fountains) ∧ 0 ≤ idxV m.vessels x.to ∧ 1 ≤ x.drops ∧ x.drops ≤ sizeV m.vessels (idxV m.vessels x.to) - heldAt s (idxV m.vessels x.to) then
   some (s.set (idxV m.vessels x.to).toNat (heldAt s (idxV m.vessels x.to) + x.drops)) else none)
 else if idxV m.vessels x.fr < 0 then none
 else if x.kind = 2 then (if x.fr ≠ x.to ∧ (1 ≤ x.drops ∧ x.drops ≤ heldAt s (idxV m.vessels x.fr)) ∧ 0 ≤ idxV m.vessels x.to ∧ x.drops ≤ sizeV m.vessels (idxV m.vessels x.to) - heldAt s (idxV m.vessels x.to) then
   some ((s.set (idxV m.vessels x.fr).toNat (heldAt s (idxV m.vessels x.fr) - x.drops)).set (idxV m.vessels x.to).toNat (heldAt s (idxV m.vessels x.to) + x.drops)) else none)
 else if x.kind = 3 then (if x.to = 0 ∧ 1 ≤ x.drops ∧ x.drops ≤ heldAt s (idxV m.vessels x.fr) then some (s.set (idxV m.vessels x.fr).toNat (heldAt s (idxV m.vessels x.fr) - x.drops)) else none)
 else if x.kind = 4 then (if x.to = 0 ∧ x.drops = 0 then some (s.set (idxV m.vessels x.fr).toNat 0) else none)
 else none
def stepM (m : Mix) (o : Option (List Held)) (x : MAct) : Option (List Held) := o.bind fun out => (doneM m (out.getLast?.getD []) x).map fun s => out ++ [s]
/-- What vessels hold at all times. -/
def allM (m : Mix) (l : List MAct) : Option (List Held) := l.foldl (stepM m) (some [[0, 0, 0, 0]])
theorem fold_noneM (m : Mix) : ∀ l : List MAct, l.foldl (stepM m) none = none
 | [] => rfl
 | x :: l => fold_noneM m l
theorem allM_snoc (m : Mix) (l : List MAct) (x : MAct) : allM m (l ++ [x]) = stepM m (allM m l) x := by unfold allM; rw [List.foldl_append]; rfl
theorem allM_len (m : Mix) : ∀ (l : List MAct) (out : List Held), allM m l = some out → out.length = l.length + 1 := by
 intro l
 unfold allM
 have key : ∀ (l : List MAct) (b out : List Held), l.foldl (stepM m) (some b) = some out → out.length = b.length + l.length := by
  intro l
  induction l with
  | nil => intro b out h; cases h; rfl
  | cons x l ih =>
   intro b out h
   rw [List.foldl_cons] at h
   cases hd : doneM m (b.getLast?.getD []) x with
   | none =>
    have : stepM m (some b) x = none := by unfold stepM; simp [hd]
    rw [this, fold_noneM] at h
    cases h
   | some s =>
    have : stepM m (some b) x = some (b ++ [s]) := by unfold stepM; simp [hd]
    rw [this] at h
    have := ih _ _ h
    simp at this ⊢
    omega
 intro out h
 have := key l [[0, 0, 0, 0]] out h
 simp at this
 omega
def risB : Int → List Int → Bool
 | _, [] => true
 | k, x :: r => decide (k + 1 ≤ x ∧ x ≤ 9999) && risB x r
def vessB (v : Vess) : Bool := decide (1 ≤ v.size ∧ v.size ≤ 12)
def tastB (m : Mix) (x : Tast) : Bool := decide (0 ≤ idxV m.vessels x.vessel ∧ (0 ≤ x.after ∧ x.after ≤ m.acts.length) ∧ (1 ≤ x.fountain ∧ x.fountain ≤ m.fountains) ∧ 0 ≤ x.lo ∧ x.lo ≤ x.hi)
def okMix (m : Mix) : Bool :=
 decide (1 ≤ m.fountains ∧ m.fountains ≤ 4) && decide (m.vessels.length ≤ 4 ∧ m.acts.length ≤ 12 ∧ m.tastes.length ≤ 8) && m.vessels.all vessB && m.tastes.all (tastB m) && (allM m m.acts).isSome && risB 0 (m.vessels.map (·.id)) && risB 0 (m.tastes.map (·.num))

theorem risB_snoc : ∀ (k : Int) (l : List Int) (x : Int), risB k (l ++ [x]) = (risB k l && decide (l.getLast?.getD k + 1 ≤ x ∧ x ≤ 9999))
 | k, [], x => by simp only [List.nil_append, risB, Bool.and_true, Bool.true_and, List.getLast?_nil, Option.getD_none]; exact decide_eq_decide.2 Iff.rfl
 | k, y :: l, x => by
  rw [List.cons_append, risB, risB_snoc y l x, risB, Bool.and_assoc]
  congr 2
  cases l with
  | nil => rfl
  | cons z l => simp [List.getLast?_cons]
theorem risB_pair : ∀ {k : Int} {l : List Int}, risB k l = true → l.Pairwise (· < ·) ∧ ∀ x ∈ l, k < x ∧ x ≤ 9999
 | k, [], _ => ⟨List.Pairwise.nil, fun x h => by cases h⟩
 | k, y :: l, h => by
  unfold risB at h
  rw [Bool.and_eq_true] at h
  have h1 := of_decide_eq_true h.1
  obtain ⟨h2, h3⟩ := risB_pair h.2
  refine ⟨List.Pairwise.cons (fun x hx => (h3 x hx).1) h2, fun x hx => ?_⟩
  rcases List.mem_cons.1 hx with rfl | hx
  ·omega
  ·have := h3 x hx
   omega
def withA (m : Mix) (l : List MAct) : Mix := { m with acts := l }
def doM (m : Mix) (x : MAct) : Mix × Int :=
 if okMix m = true then (if m.acts.length = 12 then (zeroMix, 9) else if okMix (withA m (m.acts ++ [x])) = true then (withA m (m.acts ++ [x]), 0) else (zeroMix, 41)) else (zeroMix, 40)
end Go.Proofs.YtjdgdeiedkickaaDoor.Mx
/- The truths of a fountain, plain Lean: acts move drops; what the program asks of an act and what the answer asks is the same; what vessels can hold of a fountain in some truth. -/
namespace Go.Proofs.YtjdgdeiedkickaaDoor.Mx

/-- The vessels of an act; -1: none. -/
def fromI (m : Mix) (x : MAct) : Int := if x.kind = 1 then -1 else idxV m.vessels x.fr
def toI (m : Mix) (x : MAct) : Int := if x.kind = 1 ∨ x.kind = 2 then idxV m.vessels x.to else -1
/-- How many drops it moves. -/
def sizeA (m : Mix) (all : Held) (x : MAct) : Int := if x.kind = 4 then heldAt all (fromI m x) else x.drops
def takeH (s : Held) (f n : Int) : Held := if 0 ≤ f then s.set f.toNat (heldAt s f - n) else s
def giveH (s : Held) (t n : Int) : Held := if 0 ≤ t then s.set t.toNat (heldAt s t + n) else s
def shiftH (s : Held) (f t n : Int) : Held := giveH (takeH s f n) t n
/-- How many drops of a fountain can move: the program's. -/
def spanP (m : Mix) (x : MAct) (f : Int) (all has : Held) : Int × Int :=
 if 0 ≤ fromI m x then (max 0 (sizeA m all x - (heldAt all (fromI m x) - heldAt has (fromI m x))), min (sizeA m all x) (heldAt has (fromI m x)))
 else if x.fr = f then (sizeA m all x, sizeA m all x) else (0, 0)
/-- What one fountain has in the vessels is no more than there is. -/
structure Fits (all has : Held) : Prop where
 la : all.length = 4
 lh : has.length = 4
 le : ∀ i : Nat, i < 4 → 0 ≤ heldAt has i ∧ heldAt has i ≤ heldAt all i

theorem idxV_lt {l : List Vess} {id : Int} (h : 0 ≤ idxV l id) : idxV l id < l.length := by
 unfold idxV at h ⊢
 split at h
 ·rename_i h1
  rw [if_pos h1]
  have := List.findIdx_lt_length_of_exists (xs := l) (p := fun v => v.id == id) (by simpa using h1)
  omega
 ·omega
theorem heldAt_set {s : Held} {i j : Int} {v : Int} (hi : 0 ≤ i) (hj : 0 ≤ j) (hl : i < s.length) : heldAt (s.set i.toNat v) j = if j = i then v else heldAt s j := by
 unfold heldAt
 rw [List.getElem?_set]
 by_cases e : j = i
 ·subst e
  rw [if_pos rfl, if_pos rfl, if_pos (by omega)]
  rfl
 ·rw [if_neg (by omega), if_neg e]

section
variable {m : Mix} {x : MAct} {f k : Int} {all all' has : Held}
/-- A valid act. -/
structure ActOk (m : Mix) (all : Held) (x : MAct) : Prop where
 kind : x.kind = 1 ∨ x.kind = 2 ∨ x.kind = 3 ∨ x.kind = 4
 from_ : x.kind ≠ 1 → 0 ≤ idxV m.vessels x.fr
 to_ : x.kind = 1 ∨ x.kind = 2 → 0 ≤ idxV m.vessels x.to
 apart : x.kind = 2 → idxV m.vessels x.fr ≠ idxV m.vessels x.to
 size : (x.kind = 1 → 1 ≤ x.drops) ∧ (x.kind = 2 ∨ x.kind = 3 → 1 ≤ x.drops ∧ x.drops ≤ heldAt all (idxV m.vessels x.fr))
theorem take_get {s : Held} {i n : Int} (hs : s.length = 4) (hi : i < 4) {j : Nat} (hj : j < 4) : heldAt (takeH s i n) j = if (j : Int) = i then heldAt s j - n else heldAt s j := by
 unfold takeH
 by_cases h0 : 0 ≤ i
 ·rw [if_pos h0, heldAt_set h0 (by omega) (by omega)]
  by_cases e : (j : Int) = i
  ·rw [if_pos e, if_pos e, e]
  ·rw [if_neg e, if_neg e]
 ·rw [if_neg h0, if_neg (by omega)]
theorem give_get {s : Held} {i n : Int} (hs : s.length = 4) (hi : i < 4) {j : Nat} (hj : j < 4) : heldAt (giveH s i n) j = if (j : Int) = i then heldAt s j + n else heldAt s j := by
 unfold giveH
 by_cases h0 : 0 ≤ i
 ·rw [if_pos h0, heldAt_set h0 (by omega) (by omega)]
  by_cases e : (j : Int) = i
  ·rw [if_pos e, if_pos e, e]
  ·rw [if_neg e, if_neg e]
 ·rw [if_neg h0, if_neg (by omega)]
theorem take_len (s : Held) (i n : Int) : (takeH s i n).length = s.length := by unfold takeH; split <;> simp
theorem give_len (s : Held) (i n : Int) : (giveH s i n).length = s.length := by unfold giveH; split <;> simp
/-- What moves keeps within what there is. -/
theorem fits_moves (h : ActOk m all x) (hf : Fits all has) (hv : m.vessels.length ≤ 4) (hk : (spanP m x f all has).1 ≤ k ∧ k ≤ (spanP m x f all has).2) :
  0 ≤ k ∧ k ≤ sizeA m all x ∧ Fits (shiftH all (fromI m x) (toI m x) (sizeA m all x)) (shiftH has (fromI m x) (toI m x) k) := by
 have hf4 : fromI m x < 4 := by
  unfold fromI
  split
  ·decide
  ·by_cases h0 : 0 ≤ idxV m.vessels x.fr
   ·have := idxV_lt h0; omega
   ·omega
 have ht4 : toI m x < 4 := by
  unfold toI
  split
  ·by_cases h0 : 0 ≤ idxV m.vessels x.to
   ·have := idxV_lt h0; omega
   ·omega
  ·decide
 have hne : 0 ≤ fromI m x → fromI m x ≠ toI m x := by
  intro h0 e
  unfold fromI toI at e
  unfold fromI at h0
  by_cases h1 : x.kind = 1
  ·rw [if_pos h1] at h0; omega
  ·rw [if_neg h1] at e h0
   split at e
   ·rename_i h2
    rcases h2 with h2 | h2
    ·exact h1 h2
    ·exact h.apart h2 e
   ·omega
 have hfr : ∀ j : Nat, (j : Int) = fromI m x → 0 ≤ fromI m x ∧ heldAt has j = heldAt has (fromI m x) ∧ heldAt all j = heldAt all (fromI m x) := fun j e => by rw [e]; exact ⟨by omega, rfl, rfl⟩
 have hbase : 0 ≤ fromI m x → 0 ≤ heldAt has (fromI m x) ∧ heldAt has (fromI m x) ≤ heldAt all (fromI m x) := fun h0 => by
  have := hf.le (fromI m x).toNat (by omega)
  rwa [Int.toNat_of_nonneg h0] at this
 have hsz : 0 ≤ sizeA m all x := by
  unfold sizeA
  split
  ·rename_i h4
   have h0 : 0 ≤ fromI m x := by unfold fromI; rw [if_neg (by omega)]; exact h.from_ (by omega)
   have := hbase h0
   omega
  ·rename_i h4
   rcases h.kind with e | e | e | e
   ·have := h.size.1 e; omega
   ·have := (h.size.2 (.inl e)).1; omega
   ·have := (h.size.2 (.inr e)).1; omega
   ·exact absurd e h4
 have hk2 : 0 ≤ k ∧ k ≤ sizeA m all x ∧ (0 ≤ fromI m x → k ≤ heldAt has (fromI m x) ∧ sizeA m all x - k ≤ heldAt all (fromI m x) - heldAt has (fromI m x)) := by
  unfold spanP at hk
  by_cases h0 : 0 ≤ fromI m x
  ·rw [if_pos h0] at hk
   dsimp only at hk
   have := hbase h0
   exact ⟨by omega, by omega, fun _ => by omega⟩
  ·rw [if_neg h0] at hk
   split at hk
   ·dsimp only at hk; exact ⟨by omega, by omega, fun e => absurd e h0⟩
   ·dsimp only at hk; exact ⟨by omega, by omega, fun e => absurd e h0⟩
 refine ⟨hk2.1, hk2.2.1, ⟨by unfold shiftH; rw [give_len, take_len, hf.la], by unfold shiftH; rw [give_len, take_len, hf.lh], fun j hj => ?_⟩⟩
 have b := hf.le j hj
 unfold shiftH
 rw [give_get (by rw [take_len, hf.lh]) ht4 hj, give_get (by rw [take_len, hf.la]) ht4 hj, take_get hf.lh hf4 hj, take_get hf.la hf4 hj]
 by_cases e1 : (j : Int) = toI m x
 ·rw [if_pos e1, if_pos e1]
  have e2 : ¬ (j : Int) = fromI m x := fun e2 => hne (by omega) (by omega)
  rw [if_neg e2, if_neg e2]
  omega
 ·rw [if_neg e1, if_neg e1]
  by_cases e2 : (j : Int) = fromI m x
  ·rw [if_pos e2, if_pos e2]
   obtain ⟨h0, h3, h4⟩ := hfr j e2
   have := hk2.2.2 h0
   omega
  ·rw [if_neg e2, if_neg e2]
   exact b
end
section
variable {m : Mix} {x : MAct} {s s' : Held}
theorem idxV_get {l : List Vess} {id : Int} (h : 0 ≤ idxV l id) : ∃ v, l[(idxV l id).toNat]? = some v ∧ v.id = id := by
 have hlt := idxV_lt h
 unfold idxV at h hlt ⊢
 split at h
 ·rename_i h1
  rw [if_pos h1] at hlt ⊢
  have h2 : l.findIdx (fun v => v.id == id) < l.length := by omega
  refine ⟨l[l.findIdx (fun v => v.id == id)], by simp, ?_⟩
  have := List.findIdx_getElem (xs := l) (p := fun v => v.id == id) (w := h2)
  simpa using this
 ·omega
theorem idxV_inj {l : List Vess} {a b : Int} (h : 0 ≤ idxV l a) (e : idxV l a = idxV l b) : a = b := by
 obtain ⟨v, h1, h2⟩ := idxV_get h
 rw [e] at h h1
 obtain ⟨w, h3, h4⟩ := idxV_get h
 rw [h1] at h3
 cases h3
 rw [← h2, h4]
/-- An act that is done is valid, and moves drops. -/
theorem done_ok (h : doneM m s x = some s') (hs : s.length = 4) (hv : m.vessels.length ≤ 4) : ActOk m s x ∧ s' = shiftH s (fromI m x) (toI m x) (sizeA m s x) := by
 unfold doneM at h
 by_cases h1 : x.kind = 1
 ·rw [if_pos h1] at h
  split at h
  ·rename_i hc
   obtain ⟨_, ht, hd, _⟩ := hc
   have e := Option.some.inj h
   refine ⟨⟨.inl h1, fun h => absurd h1 h, fun _ => ht, fun h => by omega, fun _ => hd, fun h => by omega⟩, ?_⟩
   rw [← e]
   simp [shiftH, takeH, giveH, fromI, toI, sizeA, h1, ht]
  ·cases h
 ·rw [if_neg h1] at h
  split at h
  ·cases h
  ·rename_i hf
   have hf0 : 0 ≤ idxV m.vessels x.fr := by omega
   have hfl := idxV_lt hf0
   by_cases h2 : x.kind = 2
   ·rw [if_pos h2] at h
    split at h
    ·rename_i hc
     obtain ⟨hne, ⟨hd1, hd2⟩, ht, hd3⟩ := hc
     have e := Option.some.inj h
     have hap : idxV m.vessels x.fr ≠ idxV m.vessels x.to := fun e => hne (idxV_inj hf0 e)
     refine ⟨⟨.inr (.inl h2), fun _ => hf0, fun _ => ht, fun _ => hap, fun h => absurd h h1, fun _ => ⟨hd1, hd2⟩⟩, ?_⟩
     rw [← e]
     simp only [shiftH, takeH, giveH, fromI, toI, sizeA, h2]
     simp only [show ¬ ((2 : Int) = 1) from by decide, show ¬ ((2 : Int) = 4) from by decide, if_false, if_pos hf0, or_true, if_true, if_pos ht]
     rw [heldAt_set hf0 ht (by omega), if_neg (fun e => hap e.symm)]
    ·cases h
   ·rw [if_neg h2] at h
    by_cases h3 : x.kind = 3
    ·rw [if_pos h3] at h
     split at h
     ·rename_i hc
      obtain ⟨_, hd1, hd2⟩ := hc
      have e := Option.some.inj h
      refine ⟨⟨.inr (.inr (.inl h3)), fun _ => hf0, fun h => by omega, fun h => absurd h h2, fun h => absurd h h1, fun _ => ⟨hd1, hd2⟩⟩, ?_⟩
      rw [← e]
      simp [shiftH, takeH, giveH, fromI, toI, sizeA, h3, hf0]
     ·cases h
    ·rw [if_neg h3] at h
     by_cases h4 : x.kind = 4
     ·rw [if_pos h4] at h
      split at h
      ·have e := Option.some.inj h
       refine ⟨⟨.inr (.inr (.inr h4)), fun _ => hf0, fun h => by omega, fun h => absurd h h2, fun h => absurd h h1, fun h => by omega⟩, ?_⟩
       rw [← e]
       simp [shiftH, takeH, giveH, fromI, toI, sizeA, h4, hf0]
      ·cases h
     ·rw [if_neg h4] at h
      cases h
theorem done_len (h : doneM m s x = some s') (hs : s.length = 4) (hv : m.vessels.length ≤ 4) : s'.length = 4 := by
 rw [(done_ok h hs hv).2]
 unfold shiftH
 rw [give_len, take_len, hs]
end
/-- A fountain's tastes at a time are true. -/
def tastedB (m : Mix) (f : Int) (t : Nat) (has : Held) : Bool := m.tastes.all fun x => !(decide (x.fountain = f) && decide (x.after = t) && !(decide (x.lo ≤ heldAt has (idxV m.vessels x.vessel)) && decide (heldAt has (idxV m.vessels x.vessel) ≤ x.hi)))
def zeroH : Held := [0, 0, 0, 0]
/-- One act on. -/
def Goes (m : Mix) (f : Int) (A : List Held) (t : Nat) (s s' : Held) : Prop :=
 ∃ x all k, m.acts[t]? = some x ∧ A[t]? = some all ∧ (spanP m x f all s).1 ≤ k ∧ k ≤ (spanP m x f all s).2 ∧ s' = shiftH s (fromI m x) (toI m x) k
/-- What can be held so far, and what of it leads to the end: k acts are left. -/
def Fwd (m : Mix) (f : Int) (A : List Held) : Nat → Held → Prop
 | 0, s => s = zeroH ∧ tastedB m f 0 s = true
 | t + 1, s' => (∃ s, Fwd m f A t s ∧ Goes m f A t s s') ∧ tastedB m f (t + 1) s' = true
def Fin (m : Mix) (f : Int) (A : List Held) : Nat → Nat → Held → Prop
 | 0, t, s => Fwd m f A t s
 | k + 1, t, s => Fwd m f A t s ∧ ∃ s', Goes m f A t s s' ∧ Fin m f A k (t + 1) s'
/-- In some truth vessels hold this at a time. -/
def Truth (m : Mix) (f : Int) (A : List Held) (t : Nat) (s : Held) : Prop := Fin m f A (m.acts.length - t) t s
theorem Fin.fwd {m : Mix} {f : Int} {A : List Held} : ∀ {k t : Nat} {s : Held}, Fin m f A k t s → Fwd m f A t s
 | 0, _, _, h => h
 | _ + 1, _, _, h => h.1
end Go.Proofs.YtjdgdeiedkickaaDoor.Mx
/- Numbers of what vessels hold, plain Lean: the answer's code, decoded, codes (lists with the last vessel first). -/
namespace Go.Proofs.YtjdgdeiedkickaaDoor.Mx

/-- Each number lies within its size. -/
inductive InR : List Int → List Int → Prop
 | nil : InR [] []
 | cons {z a : Int} {zs bs : List Int} (hz : 0 ≤ a ∧ a ≤ z) (h : InR zs bs) : InR (z :: zs) (a :: bs)
theorem InR.len {zs bs : List Int} (h : InR zs bs) : bs.length = zs.length := by
 induction h with
 | nil => rfl
 | cons _ _ ih => simp [ih]
end Go.Proofs.YtjdgdeiedkickaaDoor.Mx
/- What is told of a fountain, plain Lean: truths fit what there is; least and greatest. -/
namespace Go.Proofs.YtjdgdeiedkickaaDoor.Mx

theorem rev_ind {α : Type} {P : List α → Prop} (h0 : P []) (hs : ∀ l x, P l → P (l ++ [x])) (l : List α) : P l := by
 have key : ∀ r : List α, P r.reverse := by
  intro r
  induction r with
  | nil => exact h0
  | cons x r ih => rw [List.reverse_cons]; exact hs _ _ ih
 have := key l.reverse
 rwa [List.reverse_reverse] at this
section
variable {m : Mix} {A : List Held} {f : Int}
theorem allM_zero : ∀ {l : List MAct} {A : List Held}, allM m l = some A → A[0]? = some zeroH := by
 intro l
 refine rev_ind (P := fun l => ∀ {A : List Held}, allM m l = some A → A[0]? = some zeroH) ?_ ?_ l
 ·intro A h; unfold allM at h; simp at h; subst h; rfl
 ·intro l x ih A h
  rw [allM_snoc] at h
  cases h1 : allM m l with
  | none => rw [h1] at h; cases h
  | some B =>
   rw [h1] at h
   unfold stepM at h
   simp only [Option.bind_some] at h
   cases h2 : doneM m (B.getLast?.getD []) x with
   | none => rw [h2] at h; cases h
   | some s =>
    rw [h2] at h
    simp at h
    subst h
    have h3 := allM_len m l B h1
    rw [List.getElem?_append_left (by omega)]
    exact ih h1
theorem allM_step : ∀ {l : List MAct} {A : List Held}, allM m l = some A → ∀ {t : Nat} {x : MAct}, l[t]? = some x → ∃ a a', A[t]? = some a ∧ A[t + 1]? = some a' ∧ doneM m a x = some a' := by
 intro l
 refine rev_ind (P := fun l => ∀ {A : List Held}, allM m l = some A → ∀ {t : Nat} {x : MAct}, l[t]? = some x → ∃ a a', A[t]? = some a ∧ A[t + 1]? = some a' ∧ doneM m a x = some a') ?_ ?_ l
 ·intro A h t x hx; simp at hx
 ·intro l y ih A h t x hx
  rw [allM_snoc] at h
  cases h1 : allM m l with
  | none => rw [h1] at h; cases h
  | some B =>
   rw [h1] at h
   unfold stepM at h
   simp only [Option.bind_some] at h
   cases h2 : doneM m (B.getLast?.getD []) y with
   | none => rw [h2] at h; cases h
   | some s =>
    rw [h2] at h
    simp at h
    subst h
    have h3 := allM_len m l B h1
    by_cases ht : t < l.length
    ·rw [List.getElem?_append_left ht] at hx
     obtain ⟨a, a', h4, h5, h6⟩ := ih h1 hx
     exact ⟨a, a', by rw [List.getElem?_append_left (by omega)]; exact h4, by rw [List.getElem?_append_left (by omega)]; exact h5, h6⟩
    ·have hl : t = l.length := by
      have := (List.getElem?_eq_some_iff.1 hx).1
      simp at this
      omega
     subst hl
     have hxy : y = x := by simpa using hx
     subst hxy
     have h4 : B.getLast? = B[l.length]? := by rw [List.getLast?_eq_getElem?]; congr 1; omega
     rw [h4] at h2
     have h5 : l.length < B.length := by omega
     rw [List.getElem?_eq_getElem h5] at h2
     refine ⟨B[l.length], s, by rw [List.getElem?_append_left h5]; exact List.getElem?_eq_getElem h5, ?_, h2⟩
     rw [show l.length + 1 = B.length from by omega]
     simp
theorem allM_long {l : List MAct} (h : allM m l = some A) (hv : m.vessels.length ≤ 4) : ∀ {t : Nat} {a : Held}, A[t]? = some a → a.length = 4 := by
 intro t
 induction t with
 | zero => intro a ha; rw [allM_zero h] at ha; cases ha; rfl
 | succ t ih =>
  intro a ha
  have hl := allM_len m l A h
  have ht : t < l.length := by
   have := (List.getElem?_eq_some_iff.1 ha).1
   omega
  obtain ⟨b, b', h1, h2, h3⟩ := allM_step h (List.getElem?_eq_getElem ht)
  rw [ha] at h2
  cases h2
  exact done_len h3 (ih h1) hv
/-- An act of mixed water that has been played. -/
theorem act_ok (h : allM m m.acts = some A) (hv : m.vessels.length ≤ 4) {t : Nat} {x : MAct} {all : Held} (hx : m.acts[t]? = some x) (ha : A[t]? = some all) :
  ActOk m all x ∧ A[t + 1]? = some (shiftH all (fromI m x) (toI m x) (sizeA m all x)) := by
 obtain ⟨a, a', h1, h2, h3⟩ := allM_step h hx
 rw [ha] at h1
 cases h1
 obtain ⟨h4, h5⟩ := done_ok h3 (allM_long h hv ha) hv
 exact ⟨h4, by rw [h2, h5]⟩
/-- What vessels can hold of a fountain fits what they hold. -/
theorem fwd_fits (h : allM m m.acts = some A) (hv : m.vessels.length ≤ 4) : ∀ {t : Nat} {s all : Held}, Fwd m f A t s → A[t]? = some all → Fits all s
 | 0, s, all, hf, ha => by
  rw [allM_zero h] at ha
  cases ha
  rw [hf.1]
  refine ⟨rfl, rfl, fun i hi => ?_⟩
  have : heldAt zeroH (i : Int) = 0 := by
   unfold heldAt zeroH
   match i, hi with
   | 0, _ => rfl
   | 1, _ => rfl
   | 2, _ => rfl
   | 3, _ => rfl
  omega
 | t + 1, s', all', hf, ha => by
  obtain ⟨⟨s, h1, x, all, k, h2, h3, h4, h5, h6⟩, _⟩ := hf
  have h7 := fwd_fits h hv h1 h3
  obtain ⟨h8, h9⟩ := act_ok h hv h2 h3
  rw [ha] at h9
  have e := Option.some.inj h9
  rw [e, h6]
  exact (fits_moves h8 h7 hv ⟨h4, h5⟩).2.2
theorem Truth.fits (h : allM m m.acts = some A) (hv : m.vessels.length ≤ 4) {t : Nat} {s all : Held} (ht : Truth m f A t s) (ha : A[t]? = some all) : Fits all s := fwd_fits h hv (Fin.fwd ht) ha
theorem Truth.next {t : Nat} {s : Held} (h : Truth m f A t s) (ht : t < m.acts.length) : ∃ s', Goes m f A t s s' ∧ Truth m f A (t + 1) s' := by
 unfold Truth at h ⊢
 obtain ⟨k, hk⟩ : ∃ k, m.acts.length - t = k + 1 := ⟨m.acts.length - t - 1, by omega⟩
 rw [hk] at h
 obtain ⟨_, s', h1, h2⟩ := h
 refine ⟨s', h1, ?_⟩
 rw [show m.acts.length - (t + 1) = k from by omega]
 exact h2
theorem Truth.iff_next {t : Nat} {s : Held} (ht : t < m.acts.length) : Truth m f A t s ↔ Fwd m f A t s ∧ ∃ s', Goes m f A t s s' ∧ Truth m f A (t + 1) s' := by
 constructor
 ·exact fun h => ⟨Fin.fwd h, h.next ht⟩
 ·rintro ⟨h1, s', h2, h3⟩
  unfold Truth at h3 ⊢
  obtain ⟨k, hk⟩ : ∃ k, m.acts.length - t = k + 1 := ⟨m.acts.length - t - 1, by omega⟩
  rw [hk]
  rw [show m.acts.length - (t + 1) = k from by omega] at h3
  exact ⟨h1, s', h2, h3⟩
theorem Truth.last {s : Held} : Truth m f A m.acts.length s ↔ Fwd m f A m.acts.length s := by unfold Truth; rw [Nat.sub_self]; exact Iff.rfl
/-- A fountain has a truth, or none at any time. -/
theorem truth_all (h : Truth m f A 0 zeroH) : ∀ {t : Nat}, t ≤ m.acts.length → ∃ s, Truth m f A t s
 | 0, _ => ⟨_, h⟩
 | t + 1, ht => by
  obtain ⟨s, h1⟩ := truth_all h (t := t) (by omega)
  obtain ⟨s', _, h2⟩ := h1.next (by omega)
  exact ⟨s', h2⟩
theorem truth_zero {s : Held} (h : Truth m f A 0 s) : s = zeroH := (Fin.fwd h).1
end
/-- The least and the greatest of some numbers. -/
def IsSpan (P : Int → Prop) (s : Int × Int) : Prop := P s.1 ∧ P s.2 ∧ ∀ n, P n → s.1 ≤ n ∧ n ≤ s.2
theorem IsSpan.same {P : Int → Prop} {s s' : Int × Int} (h : IsSpan P s) (h' : IsSpan P s') : s = s' := by
 have a := h.2.2 _ h'.1
 have b := h.2.2 _ h'.2.1
 have c := h'.2.2 _ h.1
 have d := h'.2.2 _ h.2.1
 exact Prod.ext (by omega) (by omega)
theorem IsSpan.congr {P Q : Int → Prop} {s : Int × Int} (h : IsSpan P s) (e : ∀ n, P n ↔ Q n) : IsSpan Q s := ⟨(e _).1 h.1, (e _).1 h.2.1, fun n hn => h.2.2 n ((e n).2 hn)⟩
end Go.Proofs.YtjdgdeiedkickaaDoor.Mx
/- What is told of mixed water, as predicates that one answer alone meets (plain). -/
namespace Go.Proofs.YtjdgdeiedkickaaDoor.Mx

/-- The error of mixed water, a vessel, a time, and fountains. -/
def askM (m : Mix) (vessel after : Int) (fs : List Int) : Int :=
 if okMix m = true then (if idxV m.vessels vessel < 0 then 6 else if (0 ≤ after ∧ after ≤ m.acts.length) ∧ ∀ f ∈ fs, 1 ≤ f ∧ f ≤ m.fountains then 0 else 2) else 40
def HoldsIs (m : Mix) (vessel after : Int) (n e : Int) : Prop :=
 (askM m vessel after [] ≠ 0 ∧ n = 0 ∧ e = askM m vessel after []) ∨ (askM m vessel after [] = 0 ∧ e = 0 ∧ ∃ A a, allM m m.acts = some A ∧ A[after.toNat]? = some a ∧ n = heldAt a (idxV m.vessels vessel))
/-- The spans: no truth, or the least and the greatest of some numbers. -/
def TellIs (m : Mix) (f : Int) (P : List Held → Int → Prop) (s : Int × Int) (e : Int) : Prop :=
 ∃ A, allM m m.acts = some A ∧ ((¬ Truth m f A 0 zeroH ∧ s = (0, 0) ∧ e = 8) ∨ (Truth m f A 0 zeroH ∧ e = 0 ∧ IsSpan (P A) s))
def GuardIs (g : Int) (T : Int × Int → Int → Prop) (s : Int × Int) (e : Int) : Prop := (g ≠ 0 ∧ s = (0, 0) ∧ e = g) ∨ (g = 0 ∧ T s e)
def OfP (m : Mix) (vessel after f : Int) (A : List Held) (n : Int) : Prop := ∃ x, Truth m f A after.toNat x ∧ heldAt x (idxV m.vessels vessel) = n
def OfIs (m : Mix) (vessel after f : Int) : Int × Int → Int → Prop := GuardIs (askM m vessel after [f]) (TellIs m f (OfP m vessel after f))
def actM (m : Mix) (act f : Int) : Int := if okMix m = true then (if (1 ≤ act ∧ act ≤ m.acts.length) ∧ 1 ≤ f ∧ f ≤ m.fountains then 0 else 2) else 40
def MovedP (m : Mix) (act f : Int) (A : List Held) (n : Int) : Prop :=
 ∃ x all s, m.acts[act.toNat - 1]? = some x ∧ A[act.toNat - 1]? = some all ∧ Truth m f A (act.toNat - 1) s ∧ (spanP m x f all s).1 ≤ n ∧ n ≤ (spanP m x f all s).2 ∧ Truth m f A act.toNat (shiftH s (fromI m x) (toI m x) n)
def MovedIs (m : Mix) (act f : Int) : Int × Int → Int → Prop := GuardIs (actM m act f) (TellIs m f (MovedP m act f))
def goneM (m : Mix) (f : Int) : Int := if okMix m = true then (if 1 ≤ f ∧ f ≤ m.fountains then 0 else 2) else 40
def filledM (m : Mix) (f : Int) : Int := m.acts.foldl (fun n x => if x.kind = 1 ∧ x.fr = f then n + x.drops else n) 0
def sumH (s : Held) : Int := heldAt s 0 + heldAt s 1 + heldAt s 2 + heldAt s 3
def GoneP (m : Mix) (f : Int) (A : List Held) (n : Int) : Prop := ∃ s, Truth m f A m.acts.length s ∧ n = filledM m f - sumH s
def GoneIs (m : Mix) (f : Int) : Int × Int → Int → Prop := GuardIs (goneM m f) (TellIs m f (GoneP m f))
section
variable {m : Mix} {f g e e' : Int} {s s' : Int × Int} {P : List Held → Int → Prop} {T : Int × Int → Int → Prop}
theorem HoldsIs.same {v a n n' : Int} (h : HoldsIs m v a n e) (h' : HoldsIs m v a n' e') : n = n' ∧ e = e' := by
 rcases h with ⟨h0, rfl, rfl⟩ | ⟨h0, rfl, A, x, hA, hx, rfl⟩ <;> rcases h' with ⟨k0, rfl, rfl⟩ | ⟨k0, rfl, B, y, hB, hy, rfl⟩
 ·exact ⟨rfl, rfl⟩
 ·exact absurd k0 h0
 ·exact absurd h0 k0
 ·rw [hA] at hB
  cases hB
  rw [hx] at hy
  cases hy
  exact ⟨rfl, rfl⟩
theorem TellIs.same (h : TellIs m f P s e) (h' : TellIs m f P s' e') : s = s' ∧ e = e' := by
 obtain ⟨A, hA, h⟩ := h
 obtain ⟨B, hB, h'⟩ := h'
 rw [hA] at hB
 cases hB
 rcases h with ⟨h0, rfl, rfl⟩ | ⟨h0, rfl, h1⟩ <;> rcases h' with ⟨k0, rfl, rfl⟩ | ⟨k0, rfl, k1⟩
 ·exact ⟨rfl, rfl⟩
 ·exact absurd k0 h0
 ·exact absurd h0 k0
 ·exact ⟨h1.same k1, rfl⟩
theorem GuardIs.same (hT : ∀ {s s' e e'}, T s e → T s' e' → s = s' ∧ e = e') (h : GuardIs g T s e) (h' : GuardIs g T s' e') : s = s' ∧ e = e' := by
 rcases h with ⟨h0, rfl, rfl⟩ | ⟨h0, h1⟩ <;> rcases h' with ⟨k0, rfl, rfl⟩ | ⟨k0, k1⟩
 ·exact ⟨rfl, rfl⟩
 ·exact absurd k0 h0
 ·exact absurd h0 k0
 ·exact hT h1 k1
theorem OfIs.same {v a : Int} (h : OfIs m v a f s e) (h' : OfIs m v a f s' e') : s = s' ∧ e = e' := GuardIs.same TellIs.same h h'
theorem MovedIs.same {a : Int} (h : MovedIs m a f s e) (h' : MovedIs m a f s' e') : s = s' ∧ e = e' := GuardIs.same TellIs.same h h'
theorem GoneIs.same (h : GoneIs m f s e) (h' : GoneIs m f s' e') : s = s' ∧ e = e' := GuardIs.same TellIs.same h h'
theorem okMix_vess (h : okMix m = true) : m.vessels.length ≤ 4 ∧ m.acts.length ≤ 12 ∧ m.tastes.length ≤ 8 ∧ 1 ≤ m.fountains ∧ m.fountains ≤ 4 := by
 unfold okMix at h
 simp only [Bool.and_eq_true, decide_eq_true_eq] at h
 omega
end
/-- Whether something is so: 2 for sure, 1 it may be, 0 not. -/
def judgeI (least most : Bool) : Int := if least then 2 else if most then 1 else 0
end Go.Proofs.YtjdgdeiedkickaaDoor.Mx
/- A unit cycle in a circulation, plain Lean: what flows round can be taken away by cycles of one unit. -/
namespace Go.Proofs.YtjdgdeiedkickaaDoor.Mx
set_option linter.unusedSectionVars false

section
variable {ε ν : Type}
variable [DecidableEq ε] [DecidableEq ν]
/-- The direction in which an edge's flow goes. -/
def goT (tl hd : ε → ν) (D : ε → Int) (e : ε) : ν := if 0 < D e then tl e else hd e
def goH (tl hd : ε → ν) (D : ε → Int) (e : ε) : ν := if 0 < D e then hd e else tl e
inductive Way (E : List ε) (tl hd : ε → ν) (D : ε → Int) : ν → List ε → ν → Prop
 | nil (a : ν) : Way E tl hd D a [] a
 | cons {e : ε} {p : List ε} {b : ν} (he : e ∈ E) (h0 : D e ≠ 0) (h : Way E tl hd D (goH tl hd D e) p b) : Way E tl hd D (goT tl hd D e) (e :: p) b
section
variable {E : List ε} {tl hd : ε → ν} {D : ε → Int}
theorem Way.snoc {a b : ν} {p : List ε} (h : Way E tl hd D a p b) {e : ε} (he : e ∈ E) (h0 : D e ≠ 0) (hb : goT tl hd D e = b) : Way E tl hd D a (p ++ [e]) (goH tl hd D e) := by
 induction h with
 | nil a => subst hb; exact .cons he h0 (.nil _)
 | cons he' h0' h ih => exact .cons he' h0' (ih hb)
theorem Way.tail {a b : ν} {e : ε} {p : List ε} (h : Way E tl hd D a (e :: p) b) : a = goT tl hd D e ∧ Way E tl hd D (goH tl hd D e) p b := by
 cases h with
 | cons he h0 h => exact ⟨rfl, h⟩
/-- From an edge of a way on. -/
theorem Way.from_ {a b : ν} : ∀ {p : List ε}, Way E tl hd D a p b → ∀ {e : ε}, e ∈ p → ∃ p1 p2, p = p1 ++ e :: p2 ∧ Way E tl hd D a p1 (goT tl hd D e) ∧ Way E tl hd D (goH tl hd D e) p2 b := by
 intro p h
 induction h with
 | nil a => intro e he; cases he
 | @cons e' p b he h0 h ih =>
  intro e hm
  rcases List.mem_cons.1 hm with rfl | hm
  ·exact ⟨[], p, rfl, .nil _, h⟩
  ·obtain ⟨p1, p2, h1, h2, h3⟩ := ih hm
   exact ⟨e' :: p1, p2, by rw [h1]; rfl, .cons he h0 h2, h3⟩
theorem Way.least {a b : ν} : ∀ (n : Nat) {p : List ε}, p.length ≤ n → Way E tl hd D a p b → ∃ q, Way E tl hd D a q b ∧ ∀ r, Way E tl hd D a r b → q.length ≤ r.length := by
 intro n
 induction n with
 | zero =>
  intro p hp h
  exact ⟨p, h, fun r _ => by omega⟩
 | succ n ih =>
  intro p hp h
  by_cases hr : ∃ r, Way E tl hd D a r b ∧ r.length < p.length
  ·obtain ⟨r, h1, h2⟩ := hr
   exact ih (by omega) h1
  ·exact ⟨p, h, fun r k => by
    rcases Nat.lt_or_ge r.length p.length with h1 | h1
    ·exact absurd ⟨r, k, h1⟩ hr
    ·exact h1⟩
/-- A least way takes no edge twice. -/
theorem Way.nodup {a b : ν} {p : List ε} (h : Way E tl hd D a p b) (hl : ∀ r, Way E tl hd D a r b → p.length ≤ r.length) : p.Nodup := by
 induction h with
 | nil a => exact List.nodup_nil
 | @cons e p b he h0 h ih =>
  rw [List.nodup_cons]
  constructor
  ·intro hm
   obtain ⟨p1, p2, h1, h2, h3⟩ := h.from_ hm
   have := hl _ (.cons he h0 h3)
   rw [h1] at this
   simp at this
   omega
  ·refine ih fun r hr => ?_
   have := hl _ (.cons he h0 hr)
   simp at this
   exact this
end
end
end Go.Proofs.YtjdgdeiedkickaaDoor.Mx
/- Runs: a truth is a flow of drops within bounds; between two truths there is one that is one drop nearer (plain). -/
namespace Go.Proofs.YtjdgdeiedkickaaDoor.Mx
set_option linter.unusedSectionVars false

structure Run (m : Mix) (f : Int) (A : List Held) (S : Nat → Held) (K : Nat → Int) : Prop where
 zero : S 0 = zeroH
 step : ∀ {t : Nat} {x : MAct} {all : Held}, m.acts[t]? = some x → A[t]? = some all → (spanP m x f all (S t)).1 ≤ K t ∧ K t ≤ (spanP m x f all (S t)).2 ∧ S (t + 1) = shiftH (S t) (fromI m x) (toI m x) (K t)
 tast : ∀ {t : Nat}, t ≤ m.acts.length → tastedB m f t (S t) = true
section
variable {m : Mix} {A : List Held} {f : Int} {S S' : Nat → Held} {K K' : Nat → Int}
theorem Run.fwd (hA : allM m m.acts = some A) (h : Run m f A S K) : ∀ {t : Nat}, t ≤ m.acts.length → Fwd m f A t (S t)
 | 0, _ => ⟨h.zero, h.tast (Nat.zero_le _)⟩
 | t + 1, ht => by
  have hl := allM_len m m.acts A hA
  have hx : m.acts[t]? = some (m.acts[t]'(by omega)) := List.getElem?_eq_getElem (by omega)
  have ha : A[t]? = some (A[t]'(by omega)) := List.getElem?_eq_getElem (by omega)
  obtain ⟨h1, h2, h3⟩ := h.step hx ha
  exact ⟨⟨S t, h.fwd hA (by omega), _, _, K t, hx, ha, h1, h2, h3⟩, h.tast ht⟩
theorem Run.goes (hA : allM m m.acts = some A) (h : Run m f A S K) {t : Nat} (ht : t < m.acts.length) : Goes m f A t (S t) (S (t + 1)) := by
 have hl := allM_len m m.acts A hA
 have hx : m.acts[t]? = some (m.acts[t]'(by omega)) := List.getElem?_eq_getElem (by omega)
 have ha : A[t]? = some (A[t]'(by omega)) := List.getElem?_eq_getElem (by omega)
 obtain ⟨h1, h2, h3⟩ := h.step hx ha
 exact ⟨_, _, K t, hx, ha, h1, h2, h3⟩
theorem Run.fin (hA : allM m m.acts = some A) (h : Run m f A S K) : ∀ {k t : Nat}, t + k ≤ m.acts.length → Fin m f A k t (S t)
 | 0, t, ht => h.fwd hA (by omega)
 | k + 1, t, ht => ⟨h.fwd hA (by omega), S (t + 1), h.goes hA (by omega), h.fin hA (by omega)⟩
/-- Each time of a run is true. -/
theorem Run.truth (hA : allM m m.acts = some A) (h : Run m f A S K) {t : Nat} (ht : t ≤ m.acts.length) : Truth m f A t (S t) := h.fin hA (by omega)
/-- What is true begins, and goes on. -/
structure Pre (m : Mix) (f : Int) (A : List Held) (n : Nat) (S : Nat → Held) (K : Nat → Int) : Prop where
 zero : S 0 = zeroH
 step : ∀ {t : Nat} {x : MAct} {all : Held}, t < n → m.acts[t]? = some x → A[t]? = some all → (spanP m x f all (S t)).1 ≤ K t ∧ K t ≤ (spanP m x f all (S t)).2 ∧ S (t + 1) = shiftH (S t) (fromI m x) (toI m x) (K t)
 tast : ∀ {t : Nat}, t ≤ n → tastedB m f t (S t) = true
theorem Pre.of_goes {n : Nat} {s' : Held} (h : Pre m f A n S K) (hg : Goes m f A n (S n) s') (ht : tastedB m f (n + 1) s' = true) : ∃ S' K', Pre m f A (n + 1) S' K' ∧ S' (n + 1) = s' ∧ ∀ t, t ≤ n → S' t = S t := by
 obtain ⟨x, all, k, hx, ha, h1, h2, h3⟩ := hg
 refine ⟨fun t => if t ≤ n then S t else s', fun t => if t < n then K t else k, ⟨?_, ?_, ?_⟩, ?_, ?_⟩
 ·show (if 0 ≤ n then S 0 else s') = zeroH
  rw [if_pos (Nat.zero_le _)]
  exact h.zero
 ·intro t y al htn hy hal
  by_cases hlt : t < n
  ·simp only [if_pos (show t ≤ n by omega), if_pos hlt, if_pos (show t + 1 ≤ n by omega)]
   exact h.step hlt hy hal
  ·obtain rfl : t = n := by omega
   rw [hx] at hy
   rw [ha] at hal
   cases hy
   cases hal
   simp only [if_pos (Nat.le_refl t), if_neg (Nat.lt_irrefl t), if_neg (show ¬ t + 1 ≤ t by omega)]
   exact ⟨h1, h2, h3⟩
 ·intro t htn
  by_cases hle : t ≤ n
  ·simp only [if_pos hle]
   exact h.tast hle
  ·obtain rfl : t = n + 1 := by omega
   simp only [if_neg hle]
   exact ht
 ·simp only [if_neg (show ¬ n + 1 ≤ n by omega)]
 ·intro t htn
  simp only [if_pos htn]
theorem Fwd.pre : ∀ {t : Nat} {s : Held}, Fwd m f A t s → ∃ S K, Pre m f A t S K ∧ S t = s
 | 0, s, h => ⟨fun _ => zeroH, fun _ => 0, ⟨rfl, fun h _ _ => by omega, fun {t} ht => by
  have h0 : t = 0 := by omega
  subst h0
  have := h.2
  rw [h.1] at this
  exact this⟩, h.1.symm⟩
 | t + 1, s', h => by
  obtain ⟨⟨s, h1, h2⟩, h3⟩ := h
  obtain ⟨S, K, hp, rfl⟩ := Fwd.pre h1
  obtain ⟨S', K', hp', he, _⟩ := hp.of_goes h2 h3
  exact ⟨S', K', hp', he⟩
theorem Fin.pre {t0 : Nat} {s0 : Held} : ∀ {k t : Nat}, (∃ S K, Pre m f A t S K ∧ S t0 = s0 ∧ Fin m f A k t (S t)) → t0 ≤ t → ∃ S K, Pre m f A (t + k) S K ∧ S t0 = s0
 | 0, t, ⟨S, K, hp, he, _⟩, _ => ⟨S, K, hp, he⟩
 | k + 1, t, ⟨S, K, hp, he, h⟩, ht => by
  obtain ⟨_, s', hg, hf⟩ := h
  obtain ⟨S', K', hp', he', hs⟩ := hp.of_goes hg (Fin.fwd hf).2
  rw [show t + (k + 1) = t + 1 + k by omega]
  exact Fin.pre ⟨S', K', hp', by rw [hs t0 ht]; exact he, by rw [he']; exact hf⟩ (by omega)
theorem Truth.run {t : Nat} {s : Held} (ht : t ≤ m.acts.length) (h : Truth m f A t s) : ∃ S K, Run m f A S K ∧ S t = s := by
 obtain ⟨S, K, hp, he⟩ := Fwd.pre (Fin.fwd h)
 obtain ⟨S', K', hp', he'⟩ := Fin.pre (t0 := t) (s0 := s) (k := m.acts.length - t) ⟨S, K, hp, he, by rw [he]; exact h⟩ (Nat.le_refl _)
 rw [show t + (m.acts.length - t) = m.acts.length by omega] at hp'
 exact ⟨S', K', ⟨hp'.zero, fun {t} {x} {all} hx ha => hp'.step (List.getElem?_eq_some_iff.1 hx).1 hx ha, hp'.tast⟩, he'⟩
theorem Run.fits (hA : allM m m.acts = some A) (hv : m.vessels.length ≤ 4) (h : Run m f A S K) {t : Nat} {all : Held} (ht : t ≤ m.acts.length) (ha : A[t]? = some all) : Fits all (S t) := fwd_fits hA hv (h.fwd hA ht) ha

end
end Go.Proofs.YtjdgdeiedkickaaDoor.Mx
/- What vessels hold of a fountain takes each number between its least and its greatest one (plain). -/
namespace Go.Proofs.YtjdgdeiedkickaaDoor.Mx
set_option linter.unusedSectionVars false

theorem idxV_small {l : List Vess} {id : Int} (h : l.length ≤ 4) : idxV l id < 4 := by
 by_cases h0 : 0 ≤ idxV l id
 ·have := idxV_lt h0; omega
 ·omega
theorem heldAt_nat (s : Held) (j : Int) : heldAt s j = heldAt s (j.toNat : Int) := by unfold heldAt; rw [Int.toNat_natCast]
section
variable {m : Mix} {A : List Held} {f : Int} {S S' : Nat → Held} {K K' : Nat → Int}
theorem fromI_small (hv : m.vessels.length ≤ 4) (x : MAct) : fromI m x < 4 := by unfold fromI; split; decide; exact idxV_small hv
theorem toI_small (hv : m.vessels.length ≤ 4) (x : MAct) : toI m x < 4 := by unfold toI; split; exact idxV_small hv; decide
theorem shift_get (hv : m.vessels.length ≤ 4) (x : MAct) {s : Held} (hs : s.length = 4) (n : Int) {i : Nat} (hi : i < 4) :
  heldAt (shiftH s (fromI m x) (toI m x) n) i = heldAt s i + ((if toI m x = (i : Int) then n else 0) - (if fromI m x = (i : Int) then n else 0)) := by
 unfold shiftH
 rw [give_get (by rw [take_len, hs]) (toI_small hv x) hi, take_get hs (fromI_small hv x) hi]
 by_cases p : (i : Int) = toI m x <;> by_cases q : (i : Int) = fromI m x
 ·rw [if_pos p, if_pos q, if_pos p.symm, if_pos q.symm]; omega
 ·rw [if_pos p, if_neg q, if_pos p.symm, if_neg (fun h => q h.symm)]; omega
 ·rw [if_neg p, if_pos q, if_neg (fun h => p h.symm), if_pos q.symm]; omega
 ·rw [if_neg p, if_neg q, if_neg (fun h => p h.symm), if_neg (fun h => q h.symm)]; omega
theorem held_ext {s s' : Held} (h : s.length = 4) (h' : s'.length = 4) (he : ∀ i : Nat, i < 4 → heldAt s i = heldAt s' i) : s = s' := by
 apply List.ext_getElem (by omega)
 intro i h1 h2
 have := he i (by omega)
 unfold heldAt at this
 simp [List.getElem?_eq_getElem h1, List.getElem?_eq_getElem h2] at this
 exact this
theorem shift_len (s : Held) (a b n : Int) : (shiftH s a b n).length = s.length := by unfold shiftH; rw [give_len, take_len]
def frOf (m : Mix) (t : Nat) : Int := match m.acts[t]? with | some x => fromI m x | none => -1
def toOf (m : Mix) (t : Nat) : Int := match m.acts[t]? with | some x => toI m x | none => -1
theorem frOf_at {t : Nat} {x : MAct} (h : m.acts[t]? = some x) : frOf m t = fromI m x := by unfold frOf; rw [h]
theorem toOf_at {t : Nat} {x : MAct} (h : m.acts[t]? = some x) : toOf m t = toI m x := by unfold toOf; rw [h]
/-- The flow of a run is kept at each vessel. -/
theorem Run.kept (hA : allM m m.acts = some A) (hv : m.vessels.length ≤ 4) (h : Run m f A S K) {t i : Nat} (ht : t < m.acts.length) (hi : i < 4) :
  heldAt (S (t + 1)) i = heldAt (S t) i + ((if toOf m t = (i : Int) then K t else 0) - (if frOf m t = (i : Int) then K t else 0)) := by
 have hl := allM_len m m.acts A hA
 have hx : m.acts[t]? = some (m.acts[t]'(by omega)) := List.getElem?_eq_getElem (by omega)
 have ha : A[t]? = some (A[t]'(by omega)) := List.getElem?_eq_getElem (by omega)
 obtain ⟨_, _, h3⟩ := h.step hx ha
 rw [h3, shift_get hv _ (h.fits hA hv (by omega) ha).lh _ hi, toOf_at hx, frOf_at hx]
end
end Go.Proofs.YtjdgdeiedkickaaDoor.Mx
/- The least number that no taste has; a taste put under it (plain). -/
namespace Go.Proofs.YtjdgdeiedkickaaDoor.Mx

section
variable {m x : Mix} {v t f g n : Int} {T : Tast} {s s' c d : Int × Int} {e h i j k : Int}
theorem ofIs_open (hok : okMix m = true) (hv : 0 ≤ idxV m.vessels v) (ht : 0 ≤ t ∧ t ≤ m.acts.length) (hf : 1 ≤ f ∧ f ≤ m.fountains) (h : OfIs m v t f s e) : TellIs m f (OfP m v t f) s e := by
 have h0 : askM m v t [f] = 0 := by unfold askM; rw [if_pos hok, if_neg (by omega), if_pos ⟨ht, by simpa using hf⟩]
 rcases h with ⟨h1, _⟩ | ⟨_, h1⟩
 ·exact absurd h0 h1
 ·exact h1
theorem goneIs_open (hok : okMix m = true) (hf : 1 ≤ f ∧ f ≤ m.fountains) (h : GoneIs m f s e) : TellIs m f (GoneP m f) s e := by
 have h0 : goneM m f = 0 := by unfold goneM; rw [if_pos hok, if_pos hf]
 rcases h with ⟨h1, _⟩ | ⟨_, h1⟩
 ·exact absurd h0 h1
 ·exact h1
theorem holdsIs_open (hok : okMix m = true) (hv : 0 ≤ idxV m.vessels v) (ht : 0 ≤ t ∧ t ≤ m.acts.length) (h : HoldsIs m v t n e) : e = 0 ∧ ∃ A a, allM m m.acts = some A ∧ A[t.toNat]? = some a ∧ n = heldAt a (idxV m.vessels v) := by
 have h0 : askM m v t [] = 0 := by unfold askM; rw [if_pos hok, if_neg (by omega), if_pos ⟨ht, by simp⟩]
 rcases h with ⟨h1, _⟩ | ⟨_, h1⟩
 ·exact absurd h0 h1
 ·exact h1
/-- Spans of one water and one fountain: both are told, or none. -/
theorem tell_both {P Q : List Held → Int → Prop} {A : List Held} (hA : allM m m.acts = some A) (h1 : TellIs m f P s e) (h2 : TellIs m f Q c k) : e = k ∧ ((e = 0 ∧ Truth m f A 0 zeroH ∧ IsSpan (P A) s ∧ IsSpan (Q A) c) ∨ (e = 8 ∧ ¬ Truth m f A 0 zeroH ∧ s = (0, 0) ∧ c = (0, 0))) := by
 obtain ⟨A1, e1, h1⟩ := h1
 obtain ⟨A2, e2, h2⟩ := h2
 rw [hA] at e1 e2
 cases e1
 cases e2
 rcases h1 with ⟨a, b, c⟩ | ⟨a, b, c⟩ <;> rcases h2 with ⟨a', b', c'⟩ | ⟨a', b', c'⟩
 ·exact ⟨by omega, .inr ⟨c, a, b, b'⟩⟩
 ·exact absurd a' a
 ·exact absurd a a'
 ·exact ⟨by omega, .inl ⟨b, a, c, c'⟩⟩
end
end Go.Proofs.YtjdgdeiedkickaaDoor.Mx
/- Words for memory: a slice that reads as a list, nil let in; frames behind draws. -/
namespace Go.Proofs.YtjdgdeiedkickaaDoor
open Go.RowKit

theorem ret_int {k : IntKind} {a b : Int} (h : a = b) : Ending.returned (.int k a) = .returned (.int k b) := by rw [h]
theorem ret_bool {a b : Bool} (h : a = b) : Ending.returned (.bool a) = .returned (.bool b) := by rw [h]

theorem block_of_add (a : Addr) (n : Nat) : (a.add n).block = a.block := by unfold Addr.add; split <;> rfl
theorem below_drewN {B : Nat} {a w : World} (h : Below B a w) (n : Nat) : Below B a (w.drewN n) := ⟨h.os, h.tape, h.output, h.size, h.block⟩

/-- The slice value '.slice A n c' holds the cells xs ('size' cells an element), below block B. -/
def Reads (w : World) (B size : Nat) (A : Option Addr) (n : Nat) (xs : List Value) : Prop :=
 xs.length = n * size ∧ (0 < n → ∃ ad, A = some ad ∧ ad.block < B ∧ ∀ j u, xs[j]? = some u → w.cell? (ad.add j) = some u)

section
variable {w w' : World} {B B' size n : Nat} {A : Option Addr} {xs : List Value}
theorem Reads.none_ : Reads w B size A 0 [] := ⟨by simp, fun h => absurd h (by omega)⟩
/-- Where there is a cell the address is plain. -/
theorem Reads.plain (h : Reads w B size A n xs) (hx : 0 < xs.length) : ∃ b off, A = some ⟨b, off, none⟩ ∧ b < B ∧ ∀ j u, xs[j]? = some u → w.cell? ⟨b, off + j, none⟩ = some u := by
 have hn : 0 < n := by
  rcases Nat.eq_zero_or_pos n with h0 | h0
  ·have := h.1; rw [h0] at this; omega
  ·exact h0
 obtain ⟨ad, e, hb, hc⟩ := h.2 hn
 obtain ⟨b, off, spot⟩ := ad
 have h0 := hc 0 _ (List.getElem?_eq_getElem hx)
 have hs : spot = none := by
  cases spot with
  | none => rfl
  | some s => simp [Addr.add, World.cell?] at h0; split at h0 <;> simp at h0
 subst hs
 refine ⟨b, off, e, hb, fun j u hu => ?_⟩
 have := hc j u hu
 unfold Addr.add at this
 by_cases hj : j = 0
 ·subst hj; simpa using this
 ·simpa [hj] using this
theorem Reads.keep (h : Reads w B size A n xs) (hk : ∀ p : Addr, p.block < B → w'.cell? p = w.cell? p) : Reads w' B size A n xs :=
 ⟨h.1, fun hn => by
  obtain ⟨ad, e, hb, hc⟩ := h.2 hn
  exact ⟨ad, e, hb, fun j u hu => (hk _ (by rw [block_of_add]; exact hb)).trans (hc j u hu)⟩⟩
theorem Reads.more (h : Reads w B size A n xs) (hB : B ≤ B') : Reads w B' size A n xs :=
 ⟨h.1, fun hn => by
  obtain ⟨ad, e, hb, hc⟩ := h.2 hn
  exact ⟨ad, e, by omega, hc⟩⟩
theorem Reads.below (h : Reads w B size A n xs) (hb : Below B w w') : Reads w' B size A n xs := h.keep fun _ hp => hb.cell hp
theorem Reads.drewN (h : Reads w B size A n xs) (k : Nat) : Reads (w.drewN k) B size A n xs := h
theorem Reads.alloc (h : Reads w B size A n xs) (hB : B ≤ w.heap.size) (o : Obj) : Reads (w.alloc o) B size A n xs := h.keep fun p hp => World.cell?_alloc_lt w o p (by omega)
theorem Reads.setCell (h : Reads w B size A n xs) {p : Addr} (hB : B ≤ p.block) (u : Value) : Reads (w.setCell p u) B size A n xs :=
 h.keep fun q hq => World.cell?_setCell_other w p q u (fun e => by subst e; omega)
end

/-- Block g is just the cells cs of element type t, none frozen. -/
def Blk (w : World) (g : Nat) (t : TypeId) (cs : Array Value) : Prop := w.heap[g]? = some (.cells cs t (0, 0))

section
variable {w w' : World} {g : Nat} {t : TypeId} {cs : Array Value}
theorem Blk.lt (h : Blk w g t cs) : g < w.heap.size := by
 rcases Nat.lt_or_ge g w.heap.size with hlt | hge
 ·exact hlt
 ·unfold Blk at h; rw [Array.getElem?_eq_none hge] at h; cases h
theorem Blk.cell (h : Blk w g t cs) (i : Nat) : w.cell? ⟨g, i, none⟩ = cs[i]? := cell_of_row w g i cs t (0, 0) h
theorem Blk.frozen (h : Blk w g t cs) (i : Nat) : w.frozen? ⟨g, i, none⟩ = false := by
 unfold Blk at h
 simp [World.frozen?, h]
theorem Blk.new (w : World) (t : TypeId) (cs : Array Value) : Blk (w.alloc (.cells cs t)) w.heap.size t cs := heap_alloc_new w _
theorem Blk.drewN (h : Blk w g t cs) (n : Nat) : Blk (w.drewN n) g t cs := h
theorem Blk.alloc (h : Blk w g t cs) (o : Obj) : Blk (w.alloc o) g t cs := (Below.heap_alloc w o g h.lt).trans h
theorem Blk.set_ (h : Blk w g t cs) (i : Nat) (u : Value) : Blk (w.setCell ⟨g, i, none⟩ u) g t (cs.setIfInBounds i u) := by
 unfold Blk at h ⊢
 simp [World.setCell, Array.getElem?_modify, h]
theorem Blk.far (h : Blk w g t cs) {p : Addr} (hp : g ≠ p.block) (u : Value) : Blk (w.setCell p u) g t cs := (Below.heap_setCell w p u g hp).trans h
theorem Blk.below {B : Nat} (h : Blk w g t cs) (hb : Below B w w') (hg : g < B) : Blk w' g t cs := (hb.block g hg).trans h
theorem Blk.grown {row : Option Nat} (h : Blk w g t cs) (hb : w.grownBy w' row) (hg : some g ≠ row) : Blk w' g t cs := (hb.block g h.lt hg).trans h
end

/-- A slice of ints. -/
def IntsAt (w : World) (B : Nat) (A : Option Addr) (n : Nat) (l : List Int) : Prop := Reads w B 1 A n (l.map (Value.int .i64))

section
variable {w w' : World} {B B' n : Nat} {A : Option Addr} {l : List Int}
theorem IntsAt.len (h : IntsAt w B A n l) : l.length = n := by have := h.1; simpa using this
theorem IntsAt.cell (h : IntsAt w B A n l) {k : Nat} (hk : k < n) : ∃ b off x, A = some ⟨b, off, none⟩ ∧ b < B ∧ l[k]? = some x ∧ w.cell? ⟨b, off + k, none⟩ = some (.int .i64 x) := by
 have hl := h.len
 obtain ⟨b, off, e, hb, hc⟩ := Reads.plain h (by simp; omega)
 have hx : l[k]? = some l[k] := List.getElem?_eq_getElem (by omega)
 exact ⟨b, off, _, e, hb, hx, hc k _ (by rw [List.getElem?_map, hx]; rfl)⟩
theorem IntsAt.below (h : IntsAt w B A n l) (hb : Below B w w') : IntsAt w' B A n l := Reads.below h hb
theorem IntsAt.more (h : IntsAt w B A n l) (hB : B ≤ B') : IntsAt w B' A n l := Reads.more h hB
end

/-- A new block that holds ints. -/
theorem IntsAt.new (w : World) (t : TypeId) (l : List Int) (B : Nat) (hB : w.heap.size < B) : IntsAt (w.alloc (.cells (l.map (Value.int .i64)).toArray t)) B (some ⟨w.heap.size, 0, none⟩) l.length l := by
 refine ⟨by simp, fun _ => ⟨_, rfl, hB, fun j u hu => ?_⟩⟩
 have ha : ((⟨w.heap.size, 0, none⟩ : Addr).add j) = ⟨w.heap.size, j, none⟩ := by
  unfold Addr.add
  by_cases hj : j = 0
  ·simp [hj]
  ·simp [hj]
 rw [ha, cell_of_row _ _ _ _ _ _ (heap_alloc_new w _)]
 simpa using hu

/-- The first place at which something is so; -1 if there is none. -/
def idx (p : Int → Bool) (l : List Int) : Int := if l.any p then (l.findIdx p : Int) else -1

theorem idx_none {p : Int → Bool} {l : List Int} (h : ∀ y ∈ l, p y = false) : idx p l = -1 := by
 unfold idx
 rw [if_neg]
 simp only [List.any_eq_true, not_exists, not_and, Bool.not_eq_true]
 exact h
theorem idx_some {p : Int → Bool} {l : List Int} {k : Nat} {x : Int} (hx : l[k]? = some x) (hp : p x = true) (h : ∀ y ∈ l.take k, p y = false) : idx p l = k := by
 obtain ⟨hk, rfl⟩ := List.getElem?_eq_some_iff.1 hx
 have hf : l.findIdx p = k := by
  rw [List.findIdx_eq hk]
  refine ⟨hp, fun j hj => ?_⟩
  have := h (l[j]'(by omega)) (by
   rw [List.mem_take_iff_getElem]
   exact ⟨j, by omega, rfl⟩)
  simp [this]
 unfold idx
 rw [if_pos (List.any_eq_true.2 ⟨_, List.getElem_mem hk, hp⟩), hf]
theorem idx_ge {p : Int → Bool} {l : List Int} : decide (0 ≤ idx p l) = l.any p := by
 unfold idx
 cases h : l.any p <;> simp
theorem idx_bd (p : Int → Bool) (l : List Int) : -1 ≤ idx p l ∧ idx p l ≤ l.length := by
 unfold idx
 have := List.findIdx_le_length (p := p) (xs := l)
 split <;> omega
theorem take_snoc_all {α : Type} {p : α → Bool} {l : List α} {k : Nat} {x : α} (hx : l[k]? = some x) (hp : p x = false) (h : ∀ y ∈ l.take k, p y = false) : ∀ y ∈ l.take (k + 1), p y = false := by
 intro y hy
 obtain ⟨hk, rfl⟩ := List.getElem?_eq_some_iff.1 hx
 rw [List.take_succ_eq_append_getElem hk, List.mem_append] at hy
 rcases hy with hy | hy
 ·exact h y hy
 ·simp at hy; rw [hy]; exact hp
theorem mem_of_at {α : Type} {l : List α} {k : Nat} {x : α} (hx : l[k]? = some x) : x ∈ l := by
 obtain ⟨hk, rfl⟩ := List.getElem?_eq_some_iff.1 hx
 exact List.getElem_mem hk

end Go.Proofs.YtjdgdeiedkickaaDoor
/- Rows of records in a slice: each record some cells. -/
namespace Go.Proofs.YtjdgdeiedkickaaDoor
open Go.RowKit

theorem recs_len {α : Type} {vals : α → List Value} {k : Nat} (hk : ∀ x, (vals x).length = k) (l : List α) : (l.flatMap vals).length = l.length * k := by
 induction l with
 | nil => simp
 | cons x l ih => rw [List.flatMap_cons, List.length_append, ih, hk, List.length_cons, Nat.succ_mul, Nat.add_comm]
theorem recs_get {α : Type} {vals : α → List Value} {k : Nat} (hk : ∀ x, (vals x).length = k) : ∀ (l : List α) {i j : Nat} {x : α}, l[i]? = some x → j < k → (l.flatMap vals)[i * k + j]? = (vals x)[j]?
 | [], i, j, x, h, _ => by simp at h
 | y :: l, 0, j, x, h, hj => by
  simp at h
  subst h
  rw [List.flatMap_cons, Nat.zero_mul, Nat.zero_add, List.getElem?_append_left (by rw [hk]; exact hj)]
 | y :: l, i + 1, j, x, h, hj => by
  have h' : l[i]? = some x := by simpa using h
  rw [List.flatMap_cons, List.getElem?_append_right (by rw [hk, Nat.succ_mul]; omega), hk, ← recs_get hk l h' hj]
  congr 1
  rw [Nat.succ_mul]
  omega
/-- Where the record with an index lies. -/
theorem recs_cell {α : Type} {vals : α → List Value} {k : Nat} (hk : ∀ x, (vals x).length = k) (h0 : 0 < k) {w : World} {B n : Nat} {A : Option Addr} {l : List α} (h : Reads w B k A n (l.flatMap vals)) {i : Nat} (hi : i < n) :
  ∃ b off x, A = some ⟨b, off, none⟩ ∧ b < B ∧ l[i]? = some x ∧ ∀ j u, (vals x)[j]? = some u → w.cell? ⟨b, off + i * k + j, none⟩ = some u := by
 have hl : l.length = n := by
  have h1 := h.1
  rw [recs_len hk] at h1
  exact Nat.eq_of_mul_eq_mul_right h0 h1
 obtain ⟨b, off, e, hb, hc⟩ := h.plain (by rw [recs_len hk]; exact Nat.mul_pos (by omega) h0)
 have hx : l[i]? = some l[i] := List.getElem?_eq_getElem (by omega)
 refine ⟨b, off, l[i], e, hb, hx, fun j u hu => by
  rw [Nat.add_assoc]
  refine hc (i * k + j) u ?_
  rw [recs_get hk l hx (by rw [← hk l[i]]; exact (List.getElem?_eq_some_iff.1 hu).1)]
  exact hu⟩
theorem recs_n {α : Type} {vals : α → List Value} {k : Nat} (hk : ∀ x, (vals x).length = k) (h0 : 0 < k) {w : World} {B n : Nat} {A : Option Addr} {l : List α} (h : Reads w B k A n (l.flatMap vals)) : l.length = n := by
 have h1 := h.1
 rw [recs_len hk] at h1
 exact Nat.eq_of_mul_eq_mul_right h0 h1
end Go.Proofs.YtjdgdeiedkickaaDoor
/- Mixed water in memory. -/
namespace Go.Proofs.YtjdgdeiedkickaaDoor.Mx
open Go.RowKit

def Vess.vals (v : Vess) : List Value := [.int .i64 v.id, .int .i64 v.size]
def MAct.vals (x : MAct) : List Value := [.int .i64 x.kind, .int .i64 x.fr, .int .i64 x.to, .int .i64 x.drops]
def Tast.vals (x : Tast) : List Value := [.int .i64 x.num, .int .i64 x.vessel, .int .i64 x.after, .int .i64 x.fountain, .int .i64 x.lo, .int .i64 x.hi]
theorem vess_k (x : Vess) : x.vals.length = 2 := rfl
theorem act_k (x : MAct) : x.vals.length = 4 := rfl
theorem tast_k (x : Tast) : x.vals.length = 6 := rfl
structure MixAt (w : World) (B : Nat) (Av : Option Addr) (nv : Nat) (Aa : Option Addr) (na : Nat) (At : Option Addr) (nt : Nat) (m : Mix) : Prop where
 vessels : Reads w B 2 Av nv (m.vessels.flatMap Vess.vals)
 acts : Reads w B 4 Aa na (m.acts.flatMap MAct.vals)
 tastes : Reads w B 6 At nt (m.tastes.flatMap Tast.vals)
section
variable {w w' : World} {B B' nv na nt : Nat} {Av Aa At : Option Addr} {m : Mix}
theorem MixAt.below (h : MixAt w B Av nv Aa na At nt m) (hb : Below B w w') : MixAt w' B Av nv Aa na At nt m := ⟨h.vessels.below hb, h.acts.below hb, h.tastes.below hb⟩
theorem MixAt.more (h : MixAt w B Av nv Aa na At nt m) (hB : B ≤ B') : MixAt w B' Av nv Aa na At nt m := ⟨h.vessels.more hB, h.acts.more hB, h.tastes.more hB⟩
theorem MixAt.up (h : MixAt w w.heap.size Av nv Aa na At nt m) (hb : Below w.heap.size w w') : MixAt w' w'.heap.size Av nv Aa na At nt m := (h.below hb).more hb.size
theorem MixAt.lenV (h : MixAt w B Av nv Aa na At nt m) : m.vessels.length = nv := recs_n vess_k (by omega) h.vessels
theorem MixAt.lenA (h : MixAt w B Av nv Aa na At nt m) : m.acts.length = na := recs_n act_k (by omega) h.acts
theorem MixAt.lenT (h : MixAt w B Av nv Aa na At nt m) : m.tastes.length = nt := recs_n tast_k (by omega) h.tastes
theorem MixAt.vess (h : MixAt w B Av nv Aa na At nt m) {i : Nat} (hi : i < nv) : ∃ b off x, Av = some ⟨b, off, none⟩ ∧ b < B ∧ m.vessels[i]? = some x ∧ w.cell? ⟨b, off + i * 2, none⟩ = some (.int .i64 x.id) ∧ w.cell? ⟨b, off + i * 2 + 1, none⟩ = some (.int .i64 x.size) := by
 obtain ⟨b, off, x, e, hb, hx, hc⟩ := recs_cell vess_k (by omega) h.vessels hi
 exact ⟨b, off, x, e, hb, hx, hc 0 _ rfl, hc 1 _ rfl⟩
theorem MixAt.act (h : MixAt w B Av nv Aa na At nt m) {i : Nat} (hi : i < na) : ∃ b off x, Aa = some ⟨b, off, none⟩ ∧ b < B ∧ m.acts[i]? = some x ∧ w.cell? ⟨b, off + i * 4, none⟩ = some (.int .i64 x.kind) ∧ w.cell? ⟨b, off + i * 4 + 1, none⟩ = some (.int .i64 x.fr) ∧ w.cell? ⟨b, off + i * 4 + 2, none⟩ = some (.int .i64 x.to) ∧ w.cell? ⟨b, off + i * 4 + 3, none⟩ = some (.int .i64 x.drops) := by
 obtain ⟨b, off, x, e, hb, hx, hc⟩ := recs_cell act_k (by omega) h.acts hi
 exact ⟨b, off, x, e, hb, hx, hc 0 _ rfl, hc 1 _ rfl, hc 2 _ rfl, hc 3 _ rfl⟩
theorem MixAt.tast (h : MixAt w B Av nv Aa na At nt m) {i : Nat} (hi : i < nt) : ∃ b off x, At = some ⟨b, off, none⟩ ∧ b < B ∧ m.tastes[i]? = some x ∧ w.cell? ⟨b, off + i * 6, none⟩ = some (.int .i64 x.num) ∧ w.cell? ⟨b, off + i * 6 + 1, none⟩ = some (.int .i64 x.vessel) ∧ w.cell? ⟨b, off + i * 6 + 2, none⟩ = some (.int .i64 x.after) ∧ w.cell? ⟨b, off + i * 6 + 3, none⟩ = some (.int .i64 x.fountain) ∧ w.cell? ⟨b, off + i * 6 + 4, none⟩ = some (.int .i64 x.lo) ∧ w.cell? ⟨b, off + i * 6 + 5, none⟩ = some (.int .i64 x.hi) := by
 obtain ⟨b, off, x, e, hb, hx, hc⟩ := recs_cell tast_k (by omega) h.tastes hi
 exact ⟨b, off, x, e, hb, hx, hc 0 _ rfl, hc 1 _ rfl, hc 2 _ rfl, hc 3 _ rfl, hc 4 _ rfl, hc 5 _ rfl⟩
end
end Go.Proofs.YtjdgdeiedkickaaDoor.Mx
/- slices.IndexFunc and slices.ContainsFunc at ints. -/
namespace Go.Proofs.YtjdgdeiedkickaaDoor
open Go.RowKit

set_option maxHeartbeats 1000000 in
theorem indexFunc_int (F : FuncId) (C : Array Value) (p : Int → Bool) (A : Option Addr) (n c : Nat) (l : List Int) (w : World) (hr : IntsAt w w.heap.size A n l) (hn : n ≤ maxLen)
  (hE : ∀ args W, (callFunc F args).run Tryd.prog W = .ok (.enter F args) W)
  (hF : ∀ x ∈ l, ∀ W, Below w.heap.size w W → Calls Tryd.prog F (#[.int .i64 x] ++ C) W fun e w' => e = .returned (.bool (p x)) ∧ Below W.heap.size W w') :
  Calls Tryd.prog 71 #[.slice A n c, .func (.func F) #[] C] w fun e w' => e = .returned (.int .i64 (idx p l)) ∧ Below w.heap.size w w' := by
 unfold maxLen at hn
 have HF := Lib.hid hF
 clear hF
 go_enter Tryd.func71, Tryd.ntmps71
 go_wp2_with fail
 go_loopw [8, 5] (fun i j wr => ∃ k : Nat, k ≤ n ∧ i = .int .i64 k ∧ (∀ y ∈ l.take k, p y = false) ∧ Below w.heap.size w wr)
  (fun i _ _ => n - (intOf i).toNat)
 case atStart => exact ⟨0, by omega, rfl, by simp, Below.refl _ _⟩
 case round =>
  obtain ⟨k, hk, rfl, hno, hb⟩ := hrel
  have HN := Lib.hid hno
  clear hno
  by_cases hlt : k < n
  ·obtain ⟨b, off, x, rfl, hbB, hx, hc⟩ := (hr.below hb).cell hlt
   have HX := Lib.hid hx
   clear hx
   go_wp2_with fail
   refine (HF.out x (mem_of_at HX.out) _ hb).mono ?_
   rintro e w' ⟨rfl, hb'⟩
   cases hp : p x with
   | true =>
    have HP := Lib.hid hp
    clear hp
    go_wp2_with fail
    go_ret
    exact ⟨ret_int (idx_some HX.out HP.out HN.out).symm, hb.trans (hb'.mono hb.size)⟩
   | false =>
    have HP := Lib.hid hp
    clear hp
    go_wp2_with fail
    go_roundw
    case rel => exact ⟨k + 1, by omega, by go_num, take_snoc_all HX.out HP.out HN.out, hb.trans (hb'.mono hb.size)⟩
    case measure => simp [intOf]; omega
  ·go_wp2_with fail
   go_ret
   exact ⟨ret_int (idx_none (by
    have := HN.out
    rwa [List.take_of_length_le (by have := hr.len; omega)] at this)).symm, hb⟩

set_option maxHeartbeats 1000000 in
theorem containsFunc_int (F : FuncId) (C : Array Value) (p : Int → Bool) (A : Option Addr) (n c : Nat) (l : List Int) (w : World) (hr : IntsAt w w.heap.size A n l) (hn : n ≤ maxLen)
  (hE : ∀ args W, (callFunc F args).run Tryd.prog W = .ok (.enter F args) W)
  (hF : ∀ x ∈ l, ∀ W, Below w.heap.size w W → Calls Tryd.prog F (#[.int .i64 x] ++ C) W fun e w' => e = .returned (.bool (p x)) ∧ Below W.heap.size W w') :
  Calls Tryd.prog 45 #[.slice A n c, .func (.func F) #[] C] w fun e w' => e = .returned (.bool (l.any p)) ∧ Below w.heap.size w w' := by
 have H := Lib.hid (indexFunc_int F C p A n c l w hr hn hE hF)
 clear hE hF
 go_enter Tryd.func45, Tryd.ntmps45
 go_wp2_with fail
 refine H.out.mono ?_
 rintro e w' ⟨rfl, hb⟩
 go_wp2_with fail
 go_ret
 exact ⟨ret_bool idx_ge, hb⟩
end Go.Proofs.YtjdgdeiedkickaaDoor
/- The walks of mix.in. -/
namespace Go.Proofs.YtjdgdeiedkickaaDoor.Mx
open Go.RowKit

theorem out1_any (x lo hi : Int) (b1 b2 : Nat) (w : World) (h1 : w.cell? ⟨b1, 0, none⟩ = some (.int .i64 lo)) (h2 : w.cell? ⟨b2, 0, none⟩ = some (.int .i64 hi)) :
  Calls Tryd.prog 46 (#[.int .i64 x] ++ #[.pointer (some ⟨b1, 0, none⟩), .pointer (some ⟨b2, 0, none⟩)]) w fun e w' => e = .returned (.bool (decide (x < lo) || decide (hi < x))) ∧ Below w.heap.size w w' := by
 by_cases h : x < lo
 all_goals
  go_enter Tryd.func46, Tryd.ntmps46
  go_wp2
  go_ret
  refine ⟨ret_bool ?_, Below.refl _ _⟩
  by_cases q : x < lo <;> simp [q] <;> omega

theorem enters_in1 (args : Array Value) (W : World) : (callFunc 46 args).run Tryd.prog W = .ok (.enter 46 args) W := by
 simp [go_sem]

/-- Whether all numbers are from lo to hi. -/
def inB (lo hi : Int) (l : List Int) : Bool := !l.any fun n => decide (n < lo) || decide (hi < n)

theorem in_any (lo hi : Int) (A : Option Addr) (n c : Nat) (l : List Int) (w : World) (hr : IntsAt w w.heap.size A n l) (hn : n ≤ maxLen) :
  Calls Tryd.prog 30 #[.int .i64 lo, .int .i64 hi, .slice A n c] w fun e w' => e = .returned (.bool (inB lo hi l)) ∧ Below w.heap.size w w' := by
 have hmf : ∀ (fn : Fn) (first cap : Array Value) (w : World), (Instr.makeFunc fn first cap).run Tryd.prog w = .ok (.func fn first cap) w := fun _ _ _ _ => rfl
 go_enter Tryd.func30, Tryd.ntmps30
 go_wp2_with fail
 have hb : Below w.heap.size w ((w.alloc (.cells #[.int .i64 lo] 3)).alloc (.cells #[.int .i64 hi] 3)) := ((Below.refl _ _).alloc (Nat.le_refl _) _).alloc (by simp) _
 refine (containsFunc_int 46 _ (fun n => decide (n < lo) || decide (hi < n)) A n c l _ ((hr.below hb).more (by simp; omega)) hn enters_in1 ?_).mono ?_
 ·intro x _ W hW
  exact out1_any x lo hi _ _ W ((hW.cell (p := ⟨w.heap.size, 0, none⟩) (by simp; omega)).trans (by simp [go_sem])) ((hW.cell (p := ⟨w.heap.size + 1, 0, none⟩) (by simp)).trans (by simp [go_sem]))
 ·rintro e w' ⟨rfl, hb'⟩
  go_wp2_with fail
  go_ret
  exact ⟨rfl, hb.trans (hb'.mono (by simp; omega))⟩
theorem in1_any (lo hi x : Int) (g : Nat) (w : World) (hg : g < w.heap.size) (hc : w.cell? ⟨g, 0, none⟩ = some (.int .i64 x)) :
  Calls Tryd.prog 30 #[.int .i64 lo, .int .i64 hi, .slice (some ⟨g, 0, none⟩) 1 1] w fun e w' => e = .returned (.bool (inB lo hi [x])) ∧ Below w.heap.size w w' :=
 in_any lo hi _ 1 1 [x] w ⟨rfl, fun _ => ⟨_, rfl, hg, fun j u hu => by
  cases j with
  | zero => simp at hu; rw [← hu]; simpa [Addr.add] using hc
  | succ j => simp at hu⟩⟩ (by decide)
end Go.Proofs.YtjdgdeiedkickaaDoor.Mx
/- A region that draws its order, by an invariant: whatever has been carried out, each operation that may come up keeps it. -/
namespace Go.Proofs.YtjdgdeiedkickaaDoor
open Go.RowKit

section
variable {F : Fence} {n : Nat} {P : Program} {ops : Array Oper} {Q : Exit → Act → World → Prop}

theorem openCount_set {listed : Array Bool} {i : Nat} (hi : listed.getD i true = false) : ((listed.setIfInBounds i true).toList.count false) + 1 ≤ listed.toList.count false := by
 have hlt : i < listed.size := by
  rcases Nat.lt_or_ge i listed.size with h | h
  ·exact h
  ·rw [Array.getD_eq_getD_getElem?, Array.getElem?_eq_none h] at hi; cases hi
 have hv : listed.toList[i]'(by simpa using hlt) = false := by
  rw [Array.getD_eq_getD_getElem?, Array.getElem?_eq_getElem hlt] at hi
  simpa using hi
 have h1 : 0 < listed.toList.count false := List.count_pos_iff.2 (by rw [← hv]; exact List.getElem_mem _)
 have h2 := List.count_set (a := true) (b := false) (l := listed.toList) (i := i) (by simpa using hlt)
 rw [hv] at h2
 rw [Array.toList_setIfInBounds, h2]
 simp only [BEq.rfl, if_true]
 have h3 : (true == false) = false := rfl
 simp only [h3, Bool.false_eq_true, if_false]
 omega

theorem wpAnyIn_inv (St : Array Bool → Act → World → Prop)
  (hsize : ∀ listed a w, St listed a w → listed.size = ops.size)
  (hstep : ∀ listed a w i o, ops[i]? = some o → listed.getD i true = false → (∀ e ∈ o.after, Region.binds .any e = true → listed.getD e.on false = true) → St listed a w → wpListIn F n P ops (Exit.then (St (listed.setIfInBounds i true)) Q) [o] a w)
  (hend : ∀ listed a w, Region.ready .any ops listed = [] → St listed a w → Q .normal a w) :
  ∀ fuel listed a w, listed.toList.count false ≤ fuel → St listed a w → wpAnyIn F n P .any ops Q fuel listed a w := by
 have hop : ∀ listed a w i, i ∈ Region.ready .any ops listed → St listed a w → wpOpIn F n P ops Q i (St (listed.setIfInBounds i true)) a w := by
  intro listed a w i hi hs
  obtain ⟨h1, o, ho, h2⟩ := mem_ready.1 hi
  have h3 := hstep listed a w i o ho h1 h2 hs
  unfold wpOpIn
  simp only [ho]
  simp only [wpListIn] at h3
  split
  ·rename_i hw
   rw [if_pos hw] at h3
   unfold Oper.wpIn at h3 ⊢
   refine ⟨h3.1, ?_⟩
   have h4 := h3.2
   generalize (o.semAt F.round a.eval).run P w = r at h4 ⊢
   cases r with
   | ok x w' =>
    cases x <;> simp only [Oper.uponIn, Exit.then] at h4 ⊢ <;>
     first
      | exact h4
      | exact ⟨h4.1, CallsIn.mono h4.2 (fun e w'' he => by cases e <;> exact he)⟩
      | exact ⟨h4.1, RoundIn.mono h4.2 (fun e w'' he => by cases e <;> exact he)⟩
   | halt x w' => cases x <;> simp only [Oper.uponIn, Exit.then] at h4 ⊢ <;> exact h4
  ·rename_i hw
   rw [if_neg hw] at h3
   exact h3
 intro fuel
 induction fuel with
 | zero =>
  intro listed a w hf hs
  have hnil : Region.ready .any ops listed = [] := by
   cases hr : Region.ready .any ops listed with
   | nil => rfl
   | cons i rs =>
    have hi : i ∈ Region.ready .any ops listed := by rw [hr]; simp
    have := openCount_set (mem_ready.1 hi).1
    omega
  exact ⟨hnil, hend listed a w hnil hs⟩
 | succ fuel ih =>
  intro listed a w hf hs
  refine ⟨fun h0 => hend listed a w h0 hs, fun i hi => ?_⟩
  have hc := openCount_set (mem_ready.1 hi).1
  exact wpOpIn_mono (fun a' w' h' => ih _ a' w' (by omega) h') (hop listed a w i hi hs)

/-- What has been carried out is shut: with each operation those that it waits for. -/
def ShutL (ops : Array Oper) (listed : Array Bool) : Prop := ∀ k o, ops[k]? = some o → listed.getD k false = true → ∀ e ∈ o.after, Region.binds .any e = true → listed.getD e.on false = true
theorem getD_set_keep {listed : Array Bool} {i k : Nat} (h : listed.getD k false = true) : (listed.setIfInBounds i true).getD k false = true := by
 rw [Array.getD_eq_getD_getElem?] at h ⊢
 rw [Array.getElem?_setIfInBounds]
 split
 ·rename_i e
  subst e
  split
  ·rfl
  ·rename_i hn
   rw [Array.getElem?_eq_none (by omega)] at h
   cases h
 ·exact h
theorem getD_set_off {listed : Array Bool} {i k : Nat} (hne : k ≠ i) (h : (listed.setIfInBounds i true).getD k false = true) : listed.getD k false = true := by
 rw [Array.getD_eq_getD_getElem?] at h ⊢
 rw [Array.getElem?_setIfInBounds, if_neg (fun e => hne e.symm)] at h
 exact h
theorem ShutL.step {ops : Array Oper} {listed : Array Bool} {i : Nat} {o : Oper} (h : ShutL ops listed) (ho : ops[i]? = some o) (hw : ∀ e ∈ o.after, Region.binds .any e = true → listed.getD e.on false = true) : ShutL ops (listed.setIfInBounds i true) := by
 intro k o' ho' hk e he hb
 by_cases hki : k = i
 ·subst hki
  rw [ho] at ho'
  cases ho'
  exact getD_set_keep (hw e he hb)
 ·exact getD_set_keep (h k o' ho' (getD_set_off hki hk) e he hb)
theorem ShutL.none (ops : Array Oper) (n : Nat) : ShutL ops (Array.replicate n false) := by
 intro k o ho hk
 rw [Array.getD_eq_getD_getElem?, Array.getElem?_replicate] at hk
 split at hk <;> cases hk
theorem wpAnyIn_inv2 (St : Array Bool → Act → World → Prop)
  (hsize : ∀ listed a w, St listed a w → listed.size = ops.size)
  (hstep : ∀ listed a w i o, ops[i]? = some o → listed.getD i true = false → (∀ e ∈ o.after, Region.binds .any e = true → listed.getD e.on false = true) → ShutL ops listed → St listed a w → wpListIn F n P ops (Exit.then (St (listed.setIfInBounds i true)) Q) [o] a w)
  (hend : ∀ listed a w, Region.ready .any ops listed = [] → St listed a w → Q .normal a w) :
  ∀ fuel listed a w, listed.toList.count false ≤ fuel → ShutL ops listed → St listed a w → wpAnyIn F n P .any ops Q fuel listed a w := by
 have hop : ∀ listed a w i, i ∈ Region.ready .any ops listed → ShutL ops listed → St listed a w → wpOpIn F n P ops Q i (St (listed.setIfInBounds i true)) a w := by
  intro listed a w i hi hcl hs
  obtain ⟨h1, o, ho, h2⟩ := mem_ready.1 hi
  have h3 := hstep listed a w i o ho h1 h2 hcl hs
  unfold wpOpIn
  simp only [ho]
  simp only [wpListIn] at h3
  split
  ·rename_i hw
   rw [if_pos hw] at h3
   unfold Oper.wpIn at h3 ⊢
   refine ⟨h3.1, ?_⟩
   have h4 := h3.2
   generalize (o.semAt F.round a.eval).run P w = r at h4 ⊢
   cases r with
   | ok x w' =>
    cases x <;> simp only [Oper.uponIn, Exit.then] at h4 ⊢ <;>
     first
      | exact h4
      | exact ⟨h4.1, CallsIn.mono h4.2 (fun e w'' he => by cases e <;> exact he)⟩
      | exact ⟨h4.1, RoundIn.mono h4.2 (fun e w'' he => by cases e <;> exact he)⟩
   | halt x w' => cases x <;> simp only [Oper.uponIn, Exit.then] at h4 ⊢ <;> exact h4
  ·rename_i hw
   rw [if_neg hw] at h3
   exact h3
 intro fuel
 induction fuel with
 | zero =>
  intro listed a w hf hcl hs
  have hnil : Region.ready .any ops listed = [] := by
   cases hr : Region.ready .any ops listed with
   | nil => rfl
   | cons i rs =>
    have hi : i ∈ Region.ready .any ops listed := by rw [hr]; simp
    have := openCount_set (mem_ready.1 hi).1
    omega
  exact ⟨hnil, hend listed a w hnil hs⟩
 | succ fuel ih =>
  intro listed a w hf hcl hs
  refine ⟨fun h0 => hend listed a w h0 hs, fun i hi => ?_⟩
  have hc := openCount_set (mem_ready.1 hi).1
  obtain ⟨_, o, ho, h2⟩ := mem_ready.1 hi
  exact wpOpIn_mono (fun a' w' h' => ih _ a' w' (by omega) (hcl.step ho h2) h') (hop listed a w i hi hcl hs)

/-- THE LAW. -/
theorem wpIn_region_inv {id : Nat} {a : Act} {w : World} (hm : P.follows .mixedOrders = true) (St : Array Bool → Act → World → Prop)
  (hsize : ∀ listed a w, St listed a w → listed.size = ops.size)
  (h0 : St (Array.replicate ops.size false) a w.drew)
  (hstep : ∀ listed a w i o, ops[i]? = some o → listed.getD i true = false → (∀ e ∈ o.after, Region.binds .any e = true → listed.getD e.on false = true) → St listed a w → wpListIn F n P ops (Exit.then (St (listed.setIfInBounds i true)) Q) [o] a w)
  (hend : ∀ listed a w, Region.ready .any ops listed = [] → St listed a w → Q .normal a w) : (Code.region id ops true).wpIn F n P Q a w :=
 wpIn_region_any hm (wpAnyIn_inv St hsize hstep hend _ _ _ _ (by rw [Array.toList_replicate, List.count_replicate]; simp) h0)

/-- The law once more: what has been carried out is shut. -/
theorem wpIn_region_inv2 {id : Nat} {a : Act} {w : World} (hm : P.follows .mixedOrders = true) (St : Array Bool → Act → World → Prop)
  (hsize : ∀ listed a w, St listed a w → listed.size = ops.size)
  (h0 : St (Array.replicate ops.size false) a w.drew)
  (hstep : ∀ listed a w i o, ops[i]? = some o → listed.getD i true = false → (∀ e ∈ o.after, Region.binds .any e = true → listed.getD e.on false = true) → ShutL ops listed → St listed a w → wpListIn F n P ops (Exit.then (St (listed.setIfInBounds i true)) Q) [o] a w)
  (hend : ∀ listed a w, Region.ready .any ops listed = [] → St listed a w → Q .normal a w) : (Code.region id ops true).wpIn F n P Q a w :=
 wpIn_region_any hm (wpAnyIn_inv2 St hsize hstep hend _ _ _ _ (by rw [Array.toList_replicate, List.count_replicate]; simp) (ShutL.none _ _) h0)

/-- What has been carried out, one operation more. -/
def done (L : Nat → Bool) (i : Nat) : Nat → Bool := fun k => if k = i then true else L k

/-- THE LAW, over the set of operations that have been carried out; 'act s': the frame, its slots s. -/
theorem wpIn_region_L {σ : Type} {id : Nat} {a : Act} {w : World} (hm : P.follows .mixedOrders = true) (act : σ → Act) (inv : (Nat → Bool) → σ → World → Prop)
  (h0 : ∃ s, a = act s ∧ inv (fun _ => false) s w.drew)
  (hstep : ∀ L i o s W, ops[i]? = some o → L i = false → (∀ e ∈ o.after, Region.binds .any e = true → L e.on = true) → inv L s W → wpListIn F n P ops (Exit.then (fun a' W' => ∃ s', a' = act s' ∧ inv (done L i) s' W') Q) [o] (act s) W)
  (hend : ∀ L s W, (∀ k, k < ops.size → L k = true) → inv L s W → Q .normal (act s) W) (hdag : ∀ L : Nat → Bool, (∀ i o, ops[i]? = some o → L i = false → ∃ e ∈ o.after, Region.binds .any e = true ∧ L e.on = false) → ∀ k, k < ops.size → L k = true) : (Code.region id ops true).wpIn F n P Q a w := by
 refine wpIn_region_inv hm (fun listed a W => listed.size = ops.size ∧ ∃ s, a = act s ∧ inv (fun k => listed.getD k false) s W) (fun _ _ _ h => h.1) ?_ ?_ ?_
 ·obtain ⟨s, h1, h2⟩ := h0
  refine ⟨by simp, s, h1, ?_⟩
  have : (fun k => (Array.replicate ops.size false).getD k false) = fun _ => false := by
   funext k
   rw [Array.getD_eq_getD_getElem?, Array.getElem?_replicate]
   split <;> rfl
  rw [this]; exact h2
 ·rintro listed a W i o ho hu hd ⟨hsz, s, rfl, hi⟩
  have hlt : i < listed.size := by rw [hsz]; exact (Array.getElem?_eq_some_iff.1 ho).1
  have hu' : listed.getD i false = false := by
   rw [Array.getD_eq_getD_getElem?, Array.getElem?_eq_getElem hlt] at hu ⊢
   simpa using hu
  have h := hstep (fun k => listed.getD k false) i o s W ho hu' hd hi
  have e : (fun k => (listed.setIfInBounds i true).getD k false) = done (fun k => listed.getD k false) i := by
   funext k
   unfold done
   by_cases hk : k = i
   ·subst hk
    rw [if_pos rfl, Array.getD_eq_getD_getElem?, Array.getElem?_setIfInBounds]
    simp [hlt]
   ·rw [if_neg hk, Array.getD_eq_getD_getElem?, Array.getElem?_setIfInBounds_ne (Ne.symm hk), ← Array.getD_eq_getD_getElem?]
  have hsz' : (listed.setIfInBounds i true).size = ops.size := by simpa using hsz
  simp only [e, hsz', true_and]
  exact h
 ·rintro listed a W hr ⟨hsz, s, rfl, hi⟩
  refine hend _ s W (hdag _ ?_) hi
  intro i o ho hu
  have hlt : i < listed.size := by rw [hsz]; exact (Array.getElem?_eq_some_iff.1 ho).1
  have hu' : listed.getD i true = false := by
   rw [Array.getD_eq_getD_getElem?, Array.getElem?_eq_getElem hlt] at hu ⊢
   simpa using hu
  have hno : ¬ i ∈ Region.ready .any ops listed := by rw [hr]; simp
  rw [mem_ready] at hno
  have h2 : ¬ ∀ e ∈ o.after, Region.binds .any e = true → listed.getD e.on false = true := fun h => hno ⟨hu', o, ho, h⟩
  have h3 : ∃ e, ¬ (e ∈ o.after → Region.binds .any e = true → listed.getD e.on false = true) := by
   refine Classical.byContradiction fun hc => h2 fun e => ?_
   exact Classical.byContradiction fun hc' => hc ⟨e, hc'⟩
  obtain ⟨e, he⟩ := h3
  have he1 : e ∈ o.after := Classical.byContradiction fun h => he fun h' => absurd h' h
  have he2 : Region.binds .any e = true := Classical.byContradiction fun h => he fun _ h' => absurd h' h
  have he3 : listed.getD e.on false = false := by
   cases hc : listed.getD e.on false with
   | false => rfl
   | true => exact absurd (fun _ _ => hc) he
  exact ⟨e, he1, he2, he3⟩

/-- The operations wait for earlier ones alone (where an edge binds at all). -/
def backB (ops : Array Oper) : Bool := (List.range ops.size).all fun i => ((ops[i]?).map fun o => o.after.all fun e => !Region.binds .any e || decide (e.on < i)).getD true
theorem dag_of_back (h : backB ops = true) (L : Nat → Bool) (hL : ∀ i o, ops[i]? = some o → L i = false → ∃ e ∈ o.after, Region.binds .any e = true ∧ L e.on = false) : ∀ k, k < ops.size → L k = true := by
 intro k
 induction k using Nat.strongRecOn with
 | _ k ih =>
  intro hk
  cases hc : L k with
  | true => rfl
  | false =>
   exfalso
   obtain ⟨e, he, hbnd, hf⟩ := hL k _ (Array.getElem?_eq_getElem hk) hc
   have hb := List.all_eq_true.1 h k (by simpa using hk)
   rw [Array.getElem?_eq_getElem hk] at hb
   simp only [Option.map_some, Option.getD_some] at hb
   rw [Array.all_eq_true_iff_forall_mem] at hb
   have hlt : e.on < k := by simpa [hbnd] using hb e he
   have := ih e.on hlt (by omega)
   rw [this] at hf
   cases hf

/-- One slot turned. -/
def upd (s : Nat → Value) (k : Nat) (v : Value) : Nat → Value := fun j => if j = k then v else s j

/-- What an operation waits for has been carried out. -/
def Waited (L : Nat → Bool) : List Edge → Prop
 | [] => True
 | e :: es => (Region.binds .any e = true → L e.on = true) ∧ Waited L es
theorem Waited.of {L : Nat → Bool} : ∀ {l : List Edge}, (∀ e ∈ l, Region.binds .any e = true → L e.on = true) → Waited L l
 | [], _ => trivial
 | e :: es, h => ⟨h e (by simp), Waited.of fun e' he => h e' (by simp [he])⟩

theorem Waited.at_ {L : Nat → Bool} : ∀ {l : List Edge}, Waited L l → ∀ (j : Nat), (l.any fun e => e.on == j && Region.binds .any e) = true → L j = true
 | [], _, j, h => by simp at h
 | e :: es, hw, j, h => by
  rw [List.any_cons, Bool.or_eq_true] at h
  rcases h with h | h
  ·simp only [Bool.and_eq_true, beq_iff_eq] at h
   rw [← h.1]; exact hw.1 h.2
  ·exact Waited.at_ hw.2 j h

/-- One obligation an operation. -/
def Steps {σ : Type} (F : Fence) (n : Nat) (P : Program) (ops : Array Oper) (act : σ → Act) (inv : (Nat → Bool) → σ → World → Prop) : Nat → List Oper → Prop
 | _, [] => True
 | i, o :: rest => (∀ L s W, L i = false → Waited L o.after.toList → inv L s W → ∀ (K : Act → World → Prop) (Q : Exit → Act → World → Prop), (∀ s' W', inv (done L i) s' W' → K (act s') W') → wpListIn F n P ops (Exit.then K Q) [o] (act s) W) ∧ Steps F n P ops act inv (i + 1) rest
theorem Steps.at_ {σ : Type} {act : σ → Act} {inv : (Nat → Bool) → σ → World → Prop} : ∀ {l : List Oper} {k i : Nat} {o : Oper}, Steps F n P ops act inv k l → l[i]? = some o →
  ∀ L s W, L (k + i) = false → Waited L o.after.toList → inv L s W → ∀ (K : Act → World → Prop) (Q : Exit → Act → World → Prop), (∀ s' W', inv (done L (k + i)) s' W' → K (act s') W') → wpListIn F n P ops (Exit.then K Q) [o] (act s) W
 | [], _, _, _, _, h => by simp at h
 | o' :: l, k, 0, o, hs, h => by simp at h; subst h; exact hs.1
 | o' :: l, k, i + 1, o, hs, h => by
  have := Steps.at_ (i := i) hs.2 (by simpa using h)
  rwa [show k + 1 + i = k + (i + 1) by omega] at this

end
end Go.Proofs.YtjdgdeiedkickaaDoor
/- A region that draws its order, by an invariant, outside a fence. -/
namespace Go.Proofs.YtjdgdeiedkickaaDoor
open Go.RowKit

section
variable {P : Program} {ops : Array Oper} {Q : Exit → Act → World → Prop}

/-- What is done has what it waits for. -/
def Down (l : List Oper) (L : Nat → Bool) : Prop := ∀ (j : Nat) o, l[j]? = some o → L j = true → Waited L o.after.toList
def afterB (l : List Oper) (j k : Nat) : Bool := match l[j]? with
 | some o => o.after.toList.any fun e => e.on == k && Region.binds .any e
 | none => false
theorem Down.at_ {l : List Oper} {L : Nat → Bool} (h : Down l L) (j k : Nat) (hj : L j = true) (hk : afterB l j k = true) : L k = true := by
 unfold afterB at hk
 split at hk
 ·rename_i o ho; exact (h j o ho hj).at_ k hk
 ·cases hk
theorem Down.no {l : List Oper} {L : Nat → Bool} (h : Down l L) (j k : Nat) (hj : L j = true) (hk : afterB l j k = true) (hf : L k = false) {p : Prop} : p := absurd ((h.at_ j k hj hk).symm.trans hf) (by decide)
theorem Waited.mono {L L' : Nat → Bool} (hL : ∀ k, L k = true → L' k = true) : ∀ {l : List Edge}, Waited L l → Waited L' l
 | [], _ => trivial
 | e :: es, h => ⟨fun hb => hL _ (h.1 hb), Waited.mono hL h.2⟩
theorem done_mono (L : Nat → Bool) (i k : Nat) (h : L k = true) : done L i k = true := by unfold done; split <;> simp_all
theorem Down.step {l : List Oper} {L : Nat → Bool} (h : Down l L) {i : Nat} {o : Oper} (ho : l[i]? = some o) (hw : Waited L o.after.toList) : Down l (done L i) := by
 intro j o' hj ht
 by_cases e : j = i
 ·subst e
  rw [ho] at hj
  cases hj
  exact hw.mono (done_mono L j)
 ·unfold done at ht
  rw [if_neg e] at ht
  exact (h j o' hj ht).mono (done_mono L i)

/-- One obligation an operation. -/
def StepsW {σ : Type} (P : Program) (ops : Array Oper) (D : (Nat → Bool) → Prop) (act : σ → Act) (inv : (Nat → Bool) → σ → World → Prop) : Nat → List Oper → Prop
 | _, [] => True
 | i, o :: rest => (∀ L s W, L i = false → Waited L o.after.toList → D L → inv L s W → ∀ (K : Act → World → Prop) (Q : Exit → Act → World → Prop), (∀ s' W', inv (done L i) s' W' → K (act s') W') → wpList P ops (Exit.then K Q) [o] (act s) W) ∧ StepsW P ops D act inv (i + 1) rest
theorem StepsW.at_ {σ : Type} {D : (Nat → Bool) → Prop} {act : σ → Act} {inv : (Nat → Bool) → σ → World → Prop} : ∀ {l : List Oper} {k i : Nat} {o : Oper}, StepsW P ops D act inv k l → l[i]? = some o →
  ∀ L s W, L (k + i) = false → Waited L o.after.toList → D L → inv L s W → ∀ (K : Act → World → Prop) (Q : Exit → Act → World → Prop), (∀ s' W', inv (done L (k + i)) s' W' → K (act s') W') → wpList P ops (Exit.then K Q) [o] (act s) W
 | [], _, _, _, _, h => by simp at h
 | o' :: l, k, 0, o, hs, h => by simp at h; subst h; exact hs.1
 | o' :: l, k, i + 1, o, hs, h => by
  have := StepsW.at_ (i := i) hs.2 (by simpa using h)
  rwa [show k + 1 + i = k + (i + 1) by omega] at this

end
end Go.Proofs.YtjdgdeiedkickaaDoor
/- A region that draws its order, inside a fence, by an invariant: what has been carried out has what it waits for. -/
namespace Go.Proofs.YtjdgdeiedkickaaDoor
open Go.RowKit

section
variable {F : Fence} {n : Nat} {P : Program} {Q : Exit → Act → World → Prop}
/-- One obligation an operation. -/
def StepsD {σ : Type} (F : Fence) (n : Nat) (P : Program) (ops : Array Oper) (D : (Nat → Bool) → Prop) (act : σ → Act) (inv : (Nat → Bool) → σ → World → Prop) : Nat → List Oper → Prop
 | _, [] => True
 | i, o :: rest => (∀ L s W, L i = false → Waited L o.after.toList → D L → inv L s W → ∀ (K : Act → World → Prop) (Q : Exit → Act → World → Prop), (∀ s' W', inv (done L i) s' W' → K (act s') W') → wpListIn F n P ops (Exit.then K Q) [o] (act s) W) ∧ StepsD F n P ops D act inv (i + 1) rest
theorem StepsD.at_ {σ : Type} {ops : Array Oper} {D : (Nat → Bool) → Prop} {act : σ → Act} {inv : (Nat → Bool) → σ → World → Prop} : ∀ {l : List Oper} {k i : Nat} {o : Oper}, StepsD F n P ops D act inv k l → l[i]? = some o →
  ∀ L s W, L (k + i) = false → Waited L o.after.toList → D L → inv L s W → ∀ (K : Act → World → Prop) (Q : Exit → Act → World → Prop), (∀ s' W', inv (done L (k + i)) s' W' → K (act s') W') → wpListIn F n P ops (Exit.then K Q) [o] (act s) W
 | [], _, _, _, _, h => by simp at h
 | o' :: l, k, 0, o, hs, h => by simp at h; subst h; exact hs.1
 | o' :: l, k, i + 1, o, hs, h => by
  have := StepsD.at_ (i := i) hs.2 (by simpa using h)
  rwa [show k + 1 + i = k + (i + 1) by omega] at this

/-- THE LAW. -/
theorem wpIn_region_stepsD {σ : Type} {id : Nat} {a : Act} {w : World} {l : List Oper} (hm : P.follows .mixedOrders = true) (hb : backB l.toArray = true) (act : σ → Act) (inv : (Nat → Bool) → σ → World → Prop) (s0 : σ)
  (ha : a = act s0) (h0 : inv (fun _ => false) s0 w.drew)
  (hstep : StepsD F n P l.toArray (Down l) act inv 0 l)
  (hend : ∀ L s W, (∀ k, k < l.length → L k = true) → inv L s W → Q .normal (act s) W) : (Code.region id l.toArray true).wpIn F n P Q a w := by
 refine wpIn_region_L hm act (fun L s W => Down l L ∧ inv L s W) ⟨s0, ha, (fun j o _ h => by cases h), h0⟩ ?_ ?_ (dag_of_back hb)
 ·rintro L i o s W ho hu hd ⟨hdn, hi⟩
  have hw : Waited L o.after.toList := Waited.of fun e he => hd e (by simpa using he)
  have := hstep.at_ (i := i) (o := o) (by simpa using ho) L s W (by simpa using hu) hw hdn hi
  simp only [Nat.zero_add] at this
  exact this _ Q fun s' W' h => ⟨s', rfl, hdn.step (by simpa using ho) hw, h⟩
 ·rintro L s W hall ⟨_, hi⟩
  exact hend L s W (fun k hk => hall k (by simpa using hk)) hi
end
end Go.Proofs.YtjdgdeiedkickaaDoor
/- A region that draws its order, inside a fence, in a round or not: a head whose operations leave one value in every world of a class, and a tail that waits for the head: one walk of the lexical order serves. -/
namespace Go.Proofs.YtjdgdeiedkickaaDoor
open Go.RowKit

section
variable {F : Fence} {n : Nat} {P : Program} {ops : Array Oper} {md : Region.Mode} {C : World → Prop}

/-- No operation is a defer statement. -/
def noDefer (ops : Array Oper) : Prop := ∀ (i : Nat) o, ops[i]? = some o → ∀ c, o.op ≠ .defer c
def noDeferB (l : List Oper) : Bool := l.all fun o => match o.op with
 | .defer _ => false
 | _ => true
theorem noDefer_of {l : List Oper} (h : noDeferB l = true) : noDefer l.toArray := by
 intro i o ho c hc
 have := List.all_eq_true.1 h o (by simpa using List.mem_of_getElem? (by simpa using ho))
 rw [hc] at this
 cases this

theorem wpIn_of_quiet' {o : Oper} {a : Act} {K : Act → Prop} {K' : Act → World → Prop} {Q' : Exit → Act → World → Prop} {w : World} (hnd : ∀ c, o.op ≠ .defer c) (hw : C w) (h : ∀ a w', C w' → K a → K' a w')
  (ha : o.askedIn F P a C) (hh : o.quietIn F n P a C K) : o.wpIn F n P a w K' Q' := by
 obtain ⟨v, h1, h2⟩ := hh
 have h3 := h1 w hw
 unfold Oper.quietAtIn at h3
 unfold Oper.wpIn
 refine ⟨ha w hw, ?_⟩
 rw [Oper.semAt_eq _ _ _ hnd]
 generalize (execOp a.eval o).run P w = r at *
 cases r with
 | ok x w' =>
  cases x <;> simp only [Oper.quietUponIn] at h3 <;> simp only [Oper.uponIn]
  case value u =>
   obtain ⟨e1, e2⟩ := h3
   rw [e1, e2]
   exact h _ _ hw h2
  case skip =>
   obtain ⟨e1, e2⟩ := h3
   rw [e1, ← e2]
   exact h _ _ hw h2
  case enter f args =>
   obtain ⟨e1, hd, hc⟩ := h3
   rw [e1]
   exact ⟨hd, hc.mono fun e w'' ⟨he, hw''⟩ => by subst he; exact h _ _ hw'' h2⟩
 | halt x w' => simp only [Oper.quietUponIn] at h3

theorem wpOpIn_of_qOpIn' {i : Nat} {a : Act} {K : Act → Prop} {K' : Act → World → Prop} {Q' : Exit → Act → World → Prop} {w : World} (hnd : noDefer ops) (hC : C w) (h : ∀ a w', C w' → K a → K' a w')
  (hh : qOpIn F n P ops C i K a) : wpOpIn F n P ops Q' i K' a w := by
 unfold qOpIn at hh
 unfold wpOpIn
 split
 ·rename_i ho; simp only [ho] at hh; exact h _ _ hC hh
 ·rename_i o ho
  simp only [ho] at hh
  obtain ⟨ha, hh⟩ := hh
  split
  ·rename_i hw; simp only [hw, if_true] at hh; exact wpIn_of_quiet' (hnd i o ho) hC h ha hh
  ·rename_i hw; simp only [hw] at hh; exact ⟨ha w hC, h _ _ hC hh⟩

/-- The head alone: whatever order is picked. -/
def wpHeadIn (F : Fence) (n : Nat) (P : Program) (md : Region.Mode) (ops : Array Oper) (C : World → Prop) (k : Nat) (L : Array Bool → Act → Prop) : Nat → Array Bool → Act → Prop
 | 0, listed, a => L listed a
 | f + 1, listed, a =>
  Region.ready md ops listed ≠ [] ∧ ∀ i ∈ Region.ready md ops listed, i < k ∧ qOpIn F n P ops C i (wpHeadIn F n P md ops C k L f (listed.setIfInBounds i true)) a

theorem wpAnyIn_of_head {k g : Nat} {L : Array Bool → Act → Prop} {Q' : Exit → Act → World → Prop} (hnd : noDefer ops) (hL : ∀ listed a w, C w → L listed a → wpAnyIn F n P md ops Q' g listed a w) :
  ∀ (f : Nat) (listed : Array Bool) (a : Act) (w : World), C w → wpHeadIn F n P md ops C k L f listed a → wpAnyIn F n P md ops Q' (f + g) listed a w
 | 0, listed, a, w, hw, h => by rw [Nat.zero_add]; exact hL _ _ _ hw h
 | f + 1, listed, a, w, hw, h => by
  rw [show f + 1 + g = (f + g) + 1 by omega]
  exact ⟨fun h0 => absurd h0 h.1, fun i hi => wpOpIn_of_qOpIn' hnd hw (fun a' w' hw' h' => wpAnyIn_of_head hnd hL f _ a' w' hw' h') (h.2 i hi).2⟩

theorem wpHeadIn_first {k i : Nat} {oi : Oper} {v : Value} {L : Array Bool → Act → Prop} (hi : ops[i]? = some oi) (hsel : ∀ (j : Nat) (o : Oper) cs b, ops[j]? = some o → o.op ≠ .select cs b)
  (hs : Region.sinkB md ops k = true) (hc : Region.chainB md ops k = true) (hn : k < ops.size) (hin : i < k)
  (hdone : ∀ listed a, L listed a → ∀ j ∈ Region.ready md ops listed, k ≤ j) :
  ∀ (f : Nat) (listed : Array Bool) (a : Act), HeadInv md ops k listed →
   (∀ j oj, ops[j]? = some oj → j ≠ i → listed.getD j true = false → (∀ e ∈ oj.after, Region.binds md e = true → e.on ≠ i) → oi.apart ops oj = true) →
   i ∈ Region.ready md ops listed → YieldsQuiet F n P ops C oi v a →
   wpHeadIn F n P md ops C k L f (listed.setIfInBounds i true) (a.put oi.dst v) → wpHeadIn F n P md ops C k L (f + 1) listed a := by
 intro f
 induction f with
 | zero =>
  intro listed a inv _ hr hy H
  have hun := (mem_ready.1 hr).1
  refine ⟨fun h => (by rw [h] at hr; cases hr), fun j hj => ?_⟩
  have hjn : j < k := by
   rcases Nat.lt_or_ge j k with h | h
   ·exact h
   ·exact absurd hj (tail_waits hs hc hn inv _ i rfl hin hun j h)
  refine ⟨hjn, ?_⟩
  by_cases hji : j = i
  ·subst hji; exact hy.qOpIn hi H
  ·have := hdone _ _ H j (ready_mono hj hji)
   omega
 | succ f ih =>
  intro listed a inv hfree hr hy H
  have hun := (mem_ready.1 hr).1
  refine ⟨fun h => (by rw [h] at hr; cases hr), fun j hj => ?_⟩
  have hjn : j < k := by
   rcases Nat.lt_or_ge j k with h | h
   ·exact h
   ·exact absurd hj (tail_waits hs hc hn inv _ i rfl hin hun j h)
  refine ⟨hjn, ?_⟩
  by_cases hji : j = i
  ·subst hji; exact hy.qOpIn hi H
  ·have h1 := (H.2 j (ready_mono hj hji)).2
   obtain ⟨hjun, oj, hoj, hall⟩ := mem_ready.1 hj
   have hnot : ∀ e ∈ oj.after, Region.binds md e = true → e.on ≠ i := fun e he hb heq => by
    have h1 := hall e he hb
    rw [heq, getD_both hun] at h1
    cases h1
   have h2 := qOpIn_put hoj (hfree j oj hoj hji hjun hnot) (fun cs b => hsel i oi cs b hi) (fun cs b => hsel j oj cs b hoj) hy h1
   have hfree' : ∀ k ok, ops[k]? = some ok → k ≠ i → (listed.setIfInBounds j true).getD k true = false →
     (∀ e ∈ ok.after, Region.binds md e = true → e.on ≠ i) → oi.apart ops ok = true := fun k ok hk hki hun hno => by
    refine hfree k ok hk hki ?_ hno
    by_cases hjk : j = k
    ·subst hjk; exact hjun
    ·rw [getD_set_ne true hjk] at hun; exact hun
   refine qOpIn_mono (fun a' h3 => ih (listed.setIfInBounds j true) a' (inv.set hj hjn) hfree' (ready_mono hr (Ne.symm hji)) h3.1 ?_) h2
   rw [Array.setIfInBounds_comm _ _ hji]
   exact h3.2

theorem wpAnyIn_of_seq {Q' : Exit → Act → World → Prop} : ∀ (l : List Oper) (k : Nat) (listed : Array Bool) (a : Act) (w : World), (∀ j, l[j]? = ops[k + j]?) →
  Region.seqB md ops l.length k listed = true → wpListIn F n P ops Q' l a w → wpAnyIn F n P md ops Q' l.length listed a w
 | [], _, _, _, _, _, hB, h => ⟨by simpa [Region.seqB] using hB, h⟩
 | o :: l, k, listed, a, w, hl, hB, h => by
  have h0 : ops[k]? = some o := by simpa using (hl 0).symm
  simp only [List.length_cons, Region.seqB, Bool.and_eq_true, decide_eq_true_eq] at hB
  refine ⟨fun h1 => (by rw [hB.1] at h1; cases h1), fun i hi => ?_⟩
  rw [hB.1] at hi
  have hik : i = k := by simpa using hi
  subst hik
  have hw : wpOpIn F n P ops Q' i (wpListIn F n P ops Q' l) a w := by unfold wpOpIn; simp only [h0]; exact h
  exact wpOpIn_mono (fun a' w' h' => wpAnyIn_of_seq l (i + 1) _ a' w' (fun j => by have := hl (j + 1); simpa [Nat.add_assoc, Nat.add_comm 1 j] using this) hB.2 h') hw

theorem wpHeadIn_lex {k g : Nat} {Lq : Act → Prop} (hsel : Region.noSelect ops = true) (hs : Region.sinkB md ops k = true) (hc : Region.chainB md ops k = true) (hn : k < ops.size) :
  ∀ (l : List Oper) (i : Nat) (listed : Array Bool) (a : Act), (∀ j, j < l.length → l[j]? = ops[i + j]?) → i + l.length = k → HeadInv md ops k listed →
  Region.lexHead md ops g l.length i listed = true → wpQuietIn F n P ops C Lq l a →
  wpHeadIn F n P md ops C k (fun listed' a' => Region.seqB md ops g k listed' = true ∧ Lq a') l.length listed a
 | [], i, listed, a, _, hk, _, hB, h => by
  have : i = k := by simpa using hk
  subst this
  exact ⟨by simpa [Region.lexHead] using hB, h⟩
 | o :: l, i, listed, a, hl, hk, inv, hB, h => by
  have h0 : ops[i]? = some o := by simpa using (hl 0 (by simp)).symm
  simp only [List.length_cons, Region.lexHead, Bool.and_eq_true] at hB
  obtain ⟨⟨hr, hf⟩, hB'⟩ := hB
  have hkn : i < k := by simp only [List.length_cons] at hk; omega
  have hr' : i ∈ Region.ready md ops listed := by simpa using hr
  have hst : qOpIn F n P ops C i (wpQuietIn F n P ops C Lq l) a := by unfold qOpIn; simp only [h0]; exact h
  obtain ⟨v, hy, hK⟩ := yieldsQuiet_of_qOpIn h0 hst
  exact wpHeadIn_first h0 (Region.noSelect_spec hsel) hs hc hn hkn (fun listed' a' hL => seqB_ready hL.1) l.length listed a inv (Region.free_spec h0 hf) hr' hy
   (wpHeadIn_lex hsel hs hc hn l (i + 1) _ _ (fun j hj => by have := hl (j + 1) (by simp; omega); simpa [Nat.add_assoc, Nat.add_comm 1 j] using this) (by simp only [List.length_cons] at hk; omega) (inv.set hr' hkn) hB' hK)

/-- THE LAW: a head of k operations, quiet in the class C; then a tail. -/
theorem wpIn_region_tail {id : Nat} {Q : Exit → Act → World → Prop} {a : Act} {w : World} {l : List Oper} (C : World → Prop) (k : Nat) (hm : P.follows .mixedOrders = true) (hnd : noDeferB l = true) (hB : Region.lexTailB .any l.toArray k = true) (hC : C w.drew)
  (h : wpQuietIn F n P l.toArray C (fun a' => ∀ w', C w' → wpListIn F n P l.toArray Q (l.drop k) a' w') (l.take k) a) : (Code.region id l.toArray true).wpIn F n P Q a w := by
 simp only [Region.lexTailB, Bool.and_eq_true, decide_eq_true_eq] at hB
 obtain ⟨⟨⟨⟨hsel, hn⟩, hs⟩, hc⟩, hlex⟩ := hB
 have hn' : k < l.length := by simpa using hn
 have htl : (l.take k).length = k := by simp; omega
 have hdl : (l.drop k).length = l.toArray.size - k := by simp
 have inv0 : HeadInv .any l.toArray k (Array.replicate l.toArray.size false) :=
  ⟨by simp, fun j oj _ hl => (by rw [getD_replicate_false] at hl; cases hl), fun t _ ht => getD_in (by simpa using ht) (getD_replicate_false _ _)⟩
 have H := wpHeadIn_lex (F := F) (n := n) (P := P) (C := C) (md := .any) (g := l.toArray.size - k) hsel hs hc hn (l.take k) 0 _ a (fun j hj => by
  have hj' : j < k := by rw [htl] at hj; exact hj
  simp [hj']) (by simpa using htl) inv0 (by rw [htl]; exact hlex) h
 refine wpIn_region_any hm ?_
 have := wpAnyIn_of_head (Q' := Q) (g := l.toArray.size - k) (noDefer_of hnd) (fun listed a' w' hw' hL => by
  have := wpAnyIn_of_seq (md := .any) (Q' := Q) (l.drop k) k listed a' w' (fun j => by simp [List.getElem?_drop]) (by rw [hdl]; exact hL.1) (hL.2 w' hw')
  rwa [hdl] at this) _ _ _ w.drew hC H
 rw [htl, show k + (l.toArray.size - k) = l.toArray.size by omega] at this
 exact this

end

/-- Worlds of a class, as letters: what is known of each is a rule of the walk. -/
abbrev Cls {σ : Type} (of : σ → World) : World → Prop := fun W => ∃ z : σ, W = of z
theorem cls_open {C : World → Prop} {w : World} (h : C w) {goal : Prop} (k : ∀ (σ : Type) (_ : Nonempty σ) (of : σ → World), (∀ z, C (of z)) → (∀ W, C W → Cls of W) → goal) : goal :=
 k { W : World // C W } ⟨⟨w, h⟩⟩ (fun z => z.1) (fun z => z.2) (fun W hW => ⟨⟨W, hW⟩, rfl⟩)
end Go.Proofs.YtjdgdeiedkickaaDoor
/- A region that draws its order: a head whose operations are quiet but for one that lays a new block, and a tail that waits for the head. -/
namespace Go.Proofs.YtjdgdeiedkickaaDoor
open Go.RowKit

def dstAt (l : List Oper) (i : Nat) : Option Tmp := (l[i]?).bind (·.dst)
/-- The frame a0, the slots of the operations S set. -/
structure Desc (l : List Oper) (k : Nat) (val : Nat → Value) (a0 : Act) (S : Nat → Bool) (a : Act) : Prop where
 defers : a.defers = a0.defers
 size : a.tmps.size = a0.tmps.size
 set_ : ∀ i, i < k → S i = true → ∀ d, dstAt l i = some d → a.tmps.getD d undef = val i
 other : ∀ t, (∀ i, i < k → S i = true → dstAt l i ≠ some t) → a.tmps.getD t undef = a0.tmps.getD t undef

/-- Each operation of the head has a slot of its own. -/
def Own1 (l : List Oper) (k : Nat) : Prop := ∀ i, i < k → ∃ d, dstAt l i = some d ∧ ∀ i', i' < k → dstAt l i' = some d → i' = i

section
variable {l : List Oper} {k : Nat} {val : Nat → Value} {a0 a a' : Act} {S S' : Nat → Bool}
theorem getD_set_same (t : Array Value) (d : Nat) (v : Value) (h : d < t.size) : (t.setIfInBounds d v).getD d undef = v := by
 rw [Array.getD_eq_getD_getElem?, Array.getElem?_setIfInBounds_self_of_lt h]; rfl
theorem getD_set_other (t : Array Value) {d e : Nat} (v : Value) (h : d ≠ e) : (t.setIfInBounds d v).getD e undef = t.getD e undef := by
 rw [Array.getD_eq_getD_getElem?, Array.getElem?_setIfInBounds_ne h, ← Array.getD_eq_getD_getElem?]
theorem Desc.step (h : Desc l k val a0 S a) (ho : Own1 l k) {i : Nat} (hi : i < k) {d : Tmp} (hd : dstAt l i = some d) (hsz : d < a0.tmps.size) : Desc l k val a0 (done S i) (a.put (some d) (val i)) := by
 refine ⟨h.defers, by simp [Act.put, h.size], fun i' hi' hS d' hd' => ?_, fun t ht => ?_⟩
 ·by_cases e : i' = i
  ·subst e
   rw [hd] at hd'
   cases hd'
   exact getD_set_same _ _ _ (by rw [h.size]; exact hsz)
  ·have hne : d ≠ d' := by
    intro e'
    subst e'
    obtain ⟨d2, h1, h2⟩ := ho i hi
    rw [hd] at h1
    cases h1
    exact e (h2 i' hi' hd')
   rw [show (a.put (some d) (val i)).tmps = a.tmps.setIfInBounds d (val i) from rfl, getD_set_other _ _ hne]
   exact h.set_ i' hi' (by simpa [done, e] using hS) d' hd'
 ·have hne : d ≠ t := fun e => ht i hi (by simp [done]) (by rw [hd, e])
  rw [show (a.put (some d) (val i)).tmps = a.tmps.setIfInBounds d (val i) from rfl, getD_set_other _ _ hne]
  refine h.other t fun i' hi' hS => ht i' hi' ?_
  unfold done
  split
  ·rfl
  ·exact hS
theorem Desc.agree (h : Desc l k val a0 S a) (h' : Desc l k val a0 S' a') (ho : Own1 l k) (t : Tmp) (hS : ∀ i, i < k → dstAt l i = some t → S i = S' i) : a.tmps.getD t undef = a'.tmps.getD t undef := by
 by_cases hex : ∃ i, i < k ∧ dstAt l i = some t ∧ S i = true
 ·obtain ⟨i, hi, hd, hs⟩ := hex
  rw [h.set_ i hi hs t hd, h'.set_ i hi (by rw [← hS i hi hd]; exact hs) t hd]
 ·have hno : ∀ i, i < k → S i = true → dstAt l i ≠ some t := fun i hi hs hd => hex ⟨i, hi, hd, hs⟩
  rw [h.other t hno, h'.other t (fun i hi hs hd => hno i hi (by rw [hS i hi hd]; exact hs) hd)]
theorem Desc.vals {val' : Nat → Value} (h : Desc l k val a0 S a) (hv : ∀ i, i < k → S i = true → val i = val' i) : Desc l k val' a0 S a := ⟨h.defers, h.size, fun i hi hs d hd => (h.set_ i hi hs d hd).trans (hv i hi hs), h.other⟩
theorem Desc.sets {S'' : Nat → Bool} (h : Desc l k val a0 S a) (hv : ∀ i, i < k → S i = S'' i) : Desc l k val a0 S'' a := ⟨h.defers, h.size, fun i hi hs => h.set_ i hi ((hv i hi).trans hs), fun t ht => h.other t fun i hi hs => ht i hi ((hv i hi).symm.trans hs)⟩
end

section
variable {F : Fence} {n : Nat} {P : Program} {ops : Array Oper} {o : Oper} {a a' : Act}
theorem eval_agree {x : Operand} (h : ∀ t, x = .tmp t → a.tmps.getD t undef = a'.tmps.getD t undef) : a.eval x = a'.eval x := by
 cases x with
 | tmp t => exact h t rfl
 | _ => rfl
theorem execOp_agree (hs : ∀ cs b, o.op ≠ .select cs b) (h : ∀ t ∈ o.looksAt ops, a.tmps.getD t undef = a'.tmps.getD t undef) : execOp a.eval o = execOp a'.eval o :=
 execOp_congr o hs fun x hx => eval_agree fun t e => h t (by
  subst e
  exact List.mem_append_left _ (List.mem_filterMap.2 ⟨.tmp t, by simpa using hx, rfl⟩))
theorem about_agree (w : World) (h : ∀ t ∈ o.looksAt ops, a.tmps.getD t undef = a'.tmps.getD t undef) : o.about P w a.eval = o.about P w a'.eval :=
 about_congr o w fun x hx => eval_agree fun t e => h t (by
  subst e
  exact List.mem_append_left _ (List.mem_filterMap.2 ⟨.tmp t, by simpa using hx, rfl⟩))
theorem wanted_agree (hz : a.tmps.size = a'.tmps.size) (h : ∀ t ∈ o.looksAt ops, a.tmps.getD t undef = a'.tmps.getD t undef) : Region.wanted o (yielded ops a.tmps) = Region.wanted o (yielded ops a'.tmps) := by
 unfold Region.wanted
 cases hg : o.guard with
 | none => rfl
 | some g =>
  obtain ⟨g, b⟩ := g
  have e : yielded ops a.tmps g = yielded ops a'.tmps g := by
   unfold yielded
   cases hd : (ops[g]?).bind (·.dst) with
   | none => rfl
   | some d =>
    have hm : d ∈ o.looksAt ops := by
     unfold Oper.looksAt
     rw [hg]
     exact List.mem_append_right _ (by simp [hd])
    have h1 := h d hm
    have h2 : a.tmps[d]? = a'.tmps[d]? := by
     rcases Nat.lt_or_ge d a.tmps.size with hlt | hge
     ·have hlt' : d < a'.tmps.size := by rw [← hz]; exact hlt
      simpa [hlt, hlt'] using h1
     ·have hge' : a'.tmps.size ≤ d := by rw [← hz]; exact hge
      rw [Array.getElem?_eq_none hge, Array.getElem?_eq_none hge']
    simp [h2]
  simp only [e]
theorem yields_agree {C : World → Prop} {v : Value} (hs : ∀ cs b, o.op ≠ .select cs b) (hz : a.tmps.size = a'.tmps.size) (h : ∀ t ∈ o.looksAt ops, a.tmps.getD t undef = a'.tmps.getD t undef) (hy : YieldsQuiet F n P ops C o v a) : YieldsQuiet F n P ops C o v a' := by
 refine hy.of_same (execOp_agree hs h).symm (wanted_agree hz h).symm (fun w => (about_agree w h).symm)

end

section
variable {F : Fence} {n : Nat} {P : Program} {Q : Exit → Act → World → Prop} {l : List Oper} {k j : Nat}
/-- The values of the head, by its last frame. -/
def valOf (l : List Oper) (AF : Act) (i : Nat) : Value := AF.tmps.getD ((dstAt l i).getD 0) undef

theorem ready_nil_all {ops : Array Oper} {listed : Array Bool} (hb : backB ops = true) (hsz : listed.size = ops.size) (hr : Region.ready .any ops listed = []) : ∀ i, i < ops.size → listed.getD i false = true := by
 refine dag_of_back hb (fun i => listed.getD i false) ?_
 intro i o ho hu
 have hlt : i < listed.size := by rw [hsz]; exact (Array.getElem?_eq_some_iff.1 ho).1
 have hu' : listed.getD i true = false := getD_in hlt hu
 have hno : ¬ i ∈ Region.ready .any ops listed := by rw [hr]; simp
 rw [mem_ready] at hno
 have h2 : ¬ ∀ e ∈ o.after, Region.binds .any e = true → listed.getD e.on false = true := fun h => hno ⟨hu', o, ho, h⟩
 refine Classical.byContradiction fun hc => h2 fun e he hbnd => ?_
 cases hc' : listed.getD e.on false with
 | true => rfl
 | false => exact absurd ⟨e, he, hbnd, hc'⟩ hc

/-- Whether the new block is there yet. -/
def FCls (V : World) (ty : TypeId) (cs : Array Value) (ob : Option Nat) (W : World) : Prop := Below V.heap.size V W ∧ ∀ b, ob = some b → V.heap.size ≤ b ∧ Blk W b ty cs
theorem FCls.grow {V : World} {ty : TypeId} {cs : Array Value} {ob : Option Nat} {W W' : World} (h : FCls V ty cs ob W) (hb : Below W.heap.size W W') : FCls V ty cs ob W' :=
 ⟨h.1.trans (hb.mono h.1.size), fun b e => ⟨(h.2 b e).1, (h.2 b e).2.below hb (h.2 b e).2.lt⟩⟩

end
end Go.Proofs.YtjdgdeiedkickaaDoor
/- A region that draws its order: quiet operations, one that lays a new block (or none), and effects one behind the other; quiet ones may come late. -/
namespace Go.Proofs.YtjdgdeiedkickaaDoor
open Go.RowKit

def pick (l : List Oper) (qs : List Nat) : List Oper := qs.filterMap fun i => l[i]?
def upS (l : List Nat) : Bool := match l with
 | [] => true
 | x :: r => r.all (fun y => decide (x < y)) && upS r
theorem upS_pair : ∀ {l : List Nat}, upS l = true → l.Pairwise (· < ·)
 | [], _ => .nil
 | x :: r, h => by
  simp only [upS, Bool.and_eq_true] at h
  exact .cons (fun y hy => by simpa using List.all_eq_true.1 h.1 y hy) (upS_pair h.2)

/-- The slots are there. -/
def slotsM (l : List Oper) (sz : Nat) : Bool := (List.range l.length).all fun i => ((dstAt l i).map fun d => decide (d < sz)).getD true

section
variable {F : Fence} {n : Nat} {P : Program} {l : List Oper} {qs es : List Nat} {j : Nat}
/-- The frame with the slots of the quiet operations S set. -/
structure DescM (l : List Oper) (qs : List Nat) (val : Nat → Value) (a0 : Act) (S : Nat → Bool) (a : Act) : Prop where
 defers : a.defers = a0.defers
 size : a.tmps.size = a0.tmps.size
 set_ : ∀ i ∈ qs, S i = true → ∀ d, dstAt l i = some d → a.tmps.getD d undef = val i
 other : ∀ t, (∀ i ∈ qs, S i = true → dstAt l i ≠ some t) → a.tmps.getD t undef = a0.tmps.getD t undef
def OwnQ (l : List Oper) (qs : List Nat) : Prop := ∀ i ∈ qs, ∃ d, dstAt l i = some d ∧ ∀ i' ∈ qs, dstAt l i' = some d → i' = i
section
variable {val : Nat → Value} {a0 a a' : Act} {S S' : Nat → Bool}
theorem DescM.step (h : DescM l qs val a0 S a) (ho : OwnQ l qs) {i : Nat} (hi : i ∈ qs) {d : Tmp} (hd : dstAt l i = some d) (hsz : d < a0.tmps.size) : DescM l qs val a0 (done S i) (a.put (some d) (val i)) := by
 refine ⟨h.defers, by simp [Act.put, h.size], fun i' hi' hS d' hd' => ?_, fun t ht => ?_⟩
 ·by_cases e : i' = i
  ·subst e
   rw [hd] at hd'
   cases hd'
   exact getD_set_same _ _ _ (by rw [h.size]; exact hsz)
  ·have hne : d ≠ d' := by
    intro e'
    subst e'
    obtain ⟨d2, h1, h2⟩ := ho i hi
    rw [hd] at h1
    cases h1
    exact e (h2 i' hi' hd')
   rw [show (a.put (some d) (val i)).tmps = a.tmps.setIfInBounds d (val i) from rfl, getD_set_other _ _ hne]
   exact h.set_ i' hi' (by simpa [done, e] using hS) d' hd'
 ·have hne : d ≠ t := fun e => ht i hi (by simp [done]) (by rw [hd, e])
  rw [show (a.put (some d) (val i)).tmps = a.tmps.setIfInBounds d (val i) from rfl, getD_set_other _ _ hne]
  refine h.other t fun i' hi' hS => ht i' hi' ?_
  unfold done
  split
  ·rfl
  ·exact hS
theorem DescM.vals {val' : Nat → Value} (h : DescM l qs val a0 S a) (hv : ∀ i ∈ qs, S i = true → val i = val' i) : DescM l qs val' a0 S a := ⟨h.defers, h.size, fun i hi hs d hd => (h.set_ i hi hs d hd).trans (hv i hi hs), h.other⟩
theorem DescM.sets {S'' : Nat → Bool} (h : DescM l qs val a0 S a) (hv : ∀ i ∈ qs, S i = S'' i) : DescM l qs val a0 S'' a := ⟨h.defers, h.size, fun i hi hs => h.set_ i hi ((hv i hi).trans hs), fun t ht => h.other t fun i hi hs => ht i hi ((hv i hi).symm.trans hs)⟩
end

/-- Two frames that are alike but for some slots. -/
structure Rel (M : Tmp → Prop) (a A : Act) : Prop where
 defers : a.defers = A.defers
 size : a.tmps.size = A.tmps.size
 same : ∀ t, ¬ M t → a.tmps.getD t undef = A.tmps.getD t undef

theorem wpListIn_rel {ops : Array Oper} {o : Oper} {a A : Act} {W : World} {M : Tmp → Prop} {K K' : Act → World → Prop} {Q : Exit → Act → World → Prop} (hsel : ∀ cs b, o.op ≠ .select cs b) (hnd : ∀ c, o.op ≠ .defer c) (hdst : o.dst = none) (hR : Rel M a A) (hag : ∀ t ∈ o.looksAt ops, ¬ M t)
  (h : wpListIn F n P ops (Exit.then K (fun _ _ _ => False)) [o] A W) (hK : ∀ A' a' W', A'.tmps = A.tmps → a'.tmps = a.tmps → a'.defers = A'.defers → K A' W' → K' a' W') : wpListIn F n P ops (Exit.then K' Q) [o] a W := by
 have hag' : ∀ t ∈ o.looksAt ops, A.tmps.getD t undef = a.tmps.getD t undef := fun t ht => (hR.same t (hag t ht)).symm
 simp only [wpListIn] at h ⊢
 rw [wanted_agree hR.size.symm hag'] at h
 split
 ·rename_i hw
  rw [if_pos hw] at h
  unfold Oper.wpIn at h ⊢
  rw [Oper.semAt_eq _ _ _ hnd] at h ⊢
  rw [execOp_agree hsel hag'] at h
  refine ⟨fun f hf => h.1 f (by rw [about_agree W hag']; exact hf), ?_⟩
  have h4 := h.2
  generalize (execOp a.eval o).run P W = r at h4 ⊢
  cases r with
  | ok x w' =>
   cases x <;> simp only [Oper.uponIn, Exit.then, hdst, Act.put] at h4 ⊢ <;>
    first
     | exact hK _ _ _ rfl rfl hR.defers h4
     | (refine hK _ _ _ ?_ ?_ ?_ h4 <;> simp [hR.defers]; done)
     | exact ⟨h4.1, CallsIn.mono h4.2 (fun e w'' he => by cases e <;> first | exact hK _ _ _ rfl rfl hR.defers he | exact False.elim he | (obtain ⟨_, _, he⟩ := he; exact False.elim he))⟩
     | exact ⟨h4.1, RoundIn.mono h4.2 (fun e w'' he => by cases e <;> first | exact hK _ _ _ rfl rfl hR.defers he | exact False.elim he | (obtain ⟨_, _, he⟩ := he; exact False.elim he))⟩
     | exact ⟨h4.1, RowsIn.mono h4.2 (fun v w'' he => hK _ _ _ rfl rfl hR.defers he)⟩
     | exact h4
     | exact False.elim h4
  | halt x w' => cases x <;> simp only [Oper.uponIn, Exit.then] at h4 ⊢ <;> first | exact h4 | exact False.elim h4
 ·rename_i hw
  rw [if_neg hw] at h
  refine ⟨fun f hf => h.1 f (by rw [about_agree W hag']; exact hf), ?_⟩
  have h2 := h.2
  rw [hdst] at h2 ⊢
  exact hK _ _ _ rfl rfl hR.defers h2

theorem pick_cons {l : List Oper} {i : Nat} {o : Oper} {r : List Nat} (h : l[i]? = some o) : pick l (i :: r) = o :: pick l r := by
 unfold pick
 rw [List.filterMap_cons, h]

/-- By a mask. -/
def pickB : List Oper → List Bool → List Oper
 | o :: l, true :: bs => o :: pickB l bs
 | _ :: l, false :: bs => pickB l bs
 | _, _ => []
end
end Go.Proofs.YtjdgdeiedkickaaDoor
/- A region that draws its order: quiet operations, calls that make memory (a chain, each with what it hands back), one that lays a new block (or none), and effects at the end. One walk by stages serves. -/
namespace Go.Proofs.YtjdgdeiedkickaaDoor
open Go.RowKit

/-- The numbers of a mask. -/
def idxs : Nat → List Bool → List Nat
 | _, [] => []
 | k, true :: m => k :: idxs (k + 1) m
 | k, false :: m => idxs (k + 1) m
theorem pickB_idxs : ∀ (l : List Oper) (m : List Bool) (pre : List Oper), m.length ≤ l.length → pickB l m = pick (pre ++ l) (idxs pre.length m)
 | [], [], pre, _ => by simp [pickB, idxs, pick]
 | o :: l, [], pre, _ => by simp [pickB, idxs, pick]
 | [], b :: m, pre, h => by simp at h
 | o :: l, true :: m, pre, h => by
  have ih := pickB_idxs l m (pre ++ [o]) (by simpa using h)
  have e : (pre ++ o :: l)[pre.length]? = some o := by simp
  rw [idxs, pick_cons e, pickB, ih]
  simp
 | o :: l, false :: m, pre, h => by
  have ih := pickB_idxs l m (pre ++ [o]) (by simpa using h)
  rw [idxs, pickB, ih]
  simp
theorem pickB_all (l : List Oper) (m : List Bool) (h : m.length ≤ l.length) : pickB l m = pick l (idxs 0 m) := by
 simpa using pickB_idxs l m [] h

/-- The order of the walk: stage by stage. -/
def xsOf : List (List Bool × Nat) → List Bool → List Nat
 | [], fin => idxs 0 fin
 | (m, x) :: r, fin => idxs 0 m ++ x :: xsOf r fin

/-- Operations that ask nothing of the world. -/
def lateB (o : Oper) : Bool := match o.op with
 | .move _ | .assign _ | .extract _ _ => true
 | _ => false
def readsB (l : List Oper) (i : Nat) (pre : List Nat) : Bool := ((l[i]?).map fun o => (o.looksAt l.toArray).all fun t => (List.range l.length).all fun i' => dstAt l i' != some t || (afterB l i i' && pre.contains i')).getD false
def depsB (l : List Oper) : List Nat → List Nat → Bool
 | _, [] => true
 | pre, i :: post => readsB l i pre && depsB l (pre ++ [i]) post
/-- Likewise; or a slot is read that one writes which stands behind the reader. -/
def reads2B (l : List Oper) (i : Nat) (pre post : List Nat) : Bool := ((l[i]?).map fun o => (o.looksAt l.toArray).all fun t => (List.range l.length).all fun i' => dstAt l i' != some t || (afterB l i i' && pre.contains i') || (afterB l i' i && post.contains i')).getD false
def deps2B (l : List Oper) : List Nat → List Nat → Bool
 | _, [] => true
 | pre, i :: post => reads2B l i pre post && deps2B l (pre ++ [i]) post
/-- One stands behind another, or behind one that stands behind it. -/
def after2B (l : List Oper) (j k : Nat) : Bool := afterB l j k || (List.range l.length).any fun m => afterB l j m && afterB l m k
theorem after2_listed {l : List Oper} {listed : Array Bool} {i k : Nat} (h : after2B l i k = true) (hw : ∀ i', afterB l i i' = true → listed.getD i' false = true) (hs : ShutL l.toArray listed) : listed.getD k false = true := by
 unfold after2B at h
 rw [Bool.or_eq_true] at h
 rcases h with h | h
 ·exact hw k h
 ·obtain ⟨m, hm, h2⟩ := List.any_eq_true.1 h
  rw [Bool.and_eq_true] at h2
  have h3 := hw m h2.1
  have h4 := h2.2
  unfold afterB at h4
  split at h4
  ·rename_i o ho
   obtain ⟨e, he, h5⟩ := List.any_eq_true.1 h4
   simp only [Bool.and_eq_true, beq_iff_eq] at h5
   rw [← h5.1]
   exact hs m o (by simpa using ho) h3 e (by simpa using he) h5.2
  ·cases h4
def ordB (l : List Oper) (ws : List Nat) : List Nat → Bool
 | [] => true
 | x :: post => (!ws.contains x || post.all fun i => (x :: post).any fun m => afterB l i m) && ordB l ws post
def flowB (l : List Oper) (xs ws es : List Nat) (j : Nat) : Bool :=
 upS es && backB l.toArray && Region.noSelect l.toArray && noDeferB l &&
 (xs.all fun i => decide (i < l.length) && i != j && !es.contains i) && (es.all fun i => decide (i < l.length) && i != j) &&
 ((List.range l.length).all fun i => xs.contains i || es.contains i || i == j) &&
 ((List.range l.length).all fun i => es.contains i || ((dstAt l i).isSome && ((List.range l.length).all fun i' => i == i' || dstAt l i != dstAt l i'))) &&
 deps2B l [] xs && (es.all fun e => readsB l e (if j < l.length then j :: xs else xs)) &&
 (es.all fun e => es.all fun e' => decide (e ≤ e') || afterB l e e') && (es.all fun e => decide (l.length ≤ j) || afterB l e j) &&
 (xs.all fun i => (((l[i]?).map lateB).getD false && !ws.contains i) || es.all fun e => after2B l e i) && (es.all fun e => (dstAt l e).isNone) && ordB l ws xs && decide xs.Nodup
structure FlowOk (l : List Oper) (xs ws es : List Nat) (j : Nat) : Prop where
 upE : es.Pairwise (· < ·)
 back : backB l.toArray = true
 nosel : Region.noSelect l.toArray = true
 nodef : noDeferB l = true
 x : ∀ i ∈ xs, i < l.length ∧ i ≠ j ∧ i ∉ es
 e : ∀ i ∈ es, i < l.length ∧ i ≠ j
 part : ∀ i, i < l.length → i ∈ xs ∨ i ∈ es ∨ i = j
 own : ∀ i, i < l.length → i ∉ es → ∃ d, dstAt l i = some d ∧ ∀ i', i' < l.length → dstAt l i' = some d → i' = i
 deps : ∀ pre i post, xs = pre ++ i :: post → ∀ o, l[i]? = some o → ∀ t ∈ o.looksAt l.toArray, ∀ i', i' < l.length → dstAt l i' = some t → (afterB l i i' = true ∧ i' ∈ pre) ∨ (afterB l i' i = true ∧ i' ∈ post)
 depsE : ∀ i ∈ es, ∀ o, l[i]? = some o → ∀ t ∈ o.looksAt l.toArray, ∀ i', i' < l.length → dstAt l i' = some t → afterB l i i' = true
 chain : ∀ e ∈ es, ∀ e' ∈ es, e' < e → afterB l e e' = true
 fresh : ∀ e ∈ es, j < l.length → afterB l e j = true
 late : ∀ i ∈ xs, ∀ o, l[i]? = some o → (lateB o = true ∧ i ∉ ws) ∨ ∀ e ∈ es, after2B l e i = true
 edst : ∀ e ∈ es, dstAt l e = none
 ord : ∀ pre x post, xs = pre ++ x :: post → x ∈ ws → ∀ i ∈ post, ∃ m ∈ x :: post, afterB l i m = true
 nodup : xs.Nodup
theorem readsB_spec {l : List Oper} {i : Nat} {pre : List Nat} (h : readsB l i pre = true) : ∀ o, l[i]? = some o → ∀ t ∈ o.looksAt l.toArray, ∀ i', i' < l.length → dstAt l i' = some t → afterB l i i' = true ∧ i' ∈ pre := by
 intro o ho t ht i' hi' hd
 unfold readsB at h
 rw [ho] at h
 simp only [Option.map_some, Option.getD_some] at h
 have h' := List.all_eq_true.1 (List.all_eq_true.1 h t ht) i' (List.mem_range.2 hi')
 simp only [Bool.or_eq_true, bne_iff_ne, Bool.and_eq_true, List.contains_eq_mem, decide_eq_true_eq] at h'
 rcases h' with h' | h'
 ·exact absurd hd h'
 ·exact h'
theorem reads2B_spec {l : List Oper} {i : Nat} {pre post : List Nat} (h : reads2B l i pre post = true) : ∀ o, l[i]? = some o → ∀ t ∈ o.looksAt l.toArray, ∀ i', i' < l.length → dstAt l i' = some t → (afterB l i i' = true ∧ i' ∈ pre) ∨ (afterB l i' i = true ∧ i' ∈ post) := by
 intro o ho t ht i' hi' hd
 unfold reads2B at h
 rw [ho] at h
 simp only [Option.map_some, Option.getD_some] at h
 have h' := List.all_eq_true.1 (List.all_eq_true.1 h t ht) i' (List.mem_range.2 hi')
 simp only [Bool.or_eq_true, bne_iff_ne, Bool.and_eq_true, List.contains_eq_mem, decide_eq_true_eq] at h'
 rcases h' with (h' | h') | h'
 ·exact absurd hd h'
 ·exact .inl h'
 ·exact .inr h'
theorem deps2B_spec {l : List Oper} : ∀ (xs acc : List Nat), deps2B l acc xs = true → ∀ pre i post, xs = pre ++ i :: post → reads2B l i (acc ++ pre) post = true
 | [], acc, _, pre, i, post, e => by simp at e
 | x :: xs, acc, h, pre, i, post, e => by
  simp only [deps2B, Bool.and_eq_true] at h
  cases pre with
  | nil => simp at e; obtain ⟨rfl, rfl⟩ := e; simpa using h.1
  | cons p pre =>
   simp at e
   obtain ⟨rfl, rfl⟩ := e
   have := deps2B_spec _ _ h.2 pre i post rfl
   simpa using this
/-- What stands behind one that is open, is open. -/
theorem behind_open {l : List Oper} {listed : Array Bool} {i : Nat} (hs : ShutL l.toArray listed) (hf : listed.getD i false = false) : ∀ i', afterB l i' i = true → listed.getD i' false = false := by
 intro i' h
 cases hc : listed.getD i' false with
 | false => rfl
 | true =>
  unfold afterB at h
  split at h
  ·rename_i o ho
   obtain ⟨e, he, h5⟩ := List.any_eq_true.1 h
   simp only [Bool.and_eq_true, beq_iff_eq] at h5
   have := hs i' o (by simpa using ho) hc e (by simpa using he) h5.2
   rw [h5.1, hf] at this
   cases this
  ·cases h
theorem ordB_spec {l : List Oper} {ws : List Nat} : ∀ (xs : List Nat), ordB l ws xs = true → ∀ pre x post, xs = pre ++ x :: post → x ∈ ws → ∀ i ∈ post, ∃ m ∈ x :: post, afterB l i m = true
 | [], _, pre, x, post, e => by simp at e
 | y :: xs, h, pre, x, post, e => by
  simp only [ordB, Bool.and_eq_true] at h
  cases pre with
  | nil =>
   simp at e
   obtain ⟨rfl, rfl⟩ := e
   intro hx i hi
   have h1 := h.1
   simp only [Bool.or_eq_true, Bool.not_eq_true', List.contains_eq_mem, decide_eq_false_iff_not] at h1
   have h2 := h1.resolve_left (fun hn => hn hx)
   obtain ⟨m, hm, h3⟩ := List.any_eq_true.1 (List.all_eq_true.1 h2 i hi)
   exact ⟨m, hm, h3⟩
  | cons p pre =>
   simp at e
   obtain ⟨rfl, rfl⟩ := e
   exact ordB_spec _ h.2 pre x post rfl
theorem flowOk {l : List Oper} {xs ws es : List Nat} {j : Nat} (h : flowB l xs ws es j = true) : FlowOk l xs ws es j := by
 unfold flowB at h
 simp only [Bool.and_eq_true] at h
 obtain ⟨⟨⟨⟨⟨⟨⟨⟨⟨⟨⟨⟨⟨⟨⟨h1, h2⟩, h3⟩, h4⟩, h5⟩, h6⟩, h7⟩, h8⟩, h9⟩, h10⟩, h11⟩, h12⟩, h13⟩, h14⟩, h15⟩, h16⟩ := h
 refine ⟨upS_pair h1, h2, h3, h4, fun i hi => ?_, fun i hi => ?_, fun i hi => ?_, fun i hi hne => ?_, fun pre i post e o ho t ht i' hi' hd => ?_, fun i hi o ho t ht i' hi' hd => ?_, fun e he e' he' hlt => ?_, fun e he hj => ?_, fun i hi o ho => ?_, fun e he => ?_, ordB_spec _ h15, of_decide_eq_true h16⟩
 ·have := List.all_eq_true.1 h5 i hi
  simp only [Bool.and_eq_true, decide_eq_true_eq, bne_iff_ne, Bool.not_eq_true', List.contains_eq_mem, decide_eq_false_iff_not] at this
  exact ⟨this.1.1, this.1.2, this.2⟩
 ·have := List.all_eq_true.1 h6 i hi
  simp only [Bool.and_eq_true, decide_eq_true_eq, bne_iff_ne] at this
  exact this
 ·have := List.all_eq_true.1 h7 i (List.mem_range.2 hi)
  simp only [Bool.or_eq_true, List.contains_eq_mem, decide_eq_true_eq, beq_iff_eq] at this
  rcases this with (h | h) | h
  ·exact .inl h
  ·exact .inr (.inl h)
  ·exact .inr (.inr h)
 ·have h := List.all_eq_true.1 h8 i (List.mem_range.2 hi)
  simp only [Bool.or_eq_true, List.contains_eq_mem, decide_eq_true_eq] at h
  rcases h with h | h
  ·exact absurd h hne
  ·simp only [Bool.and_eq_true] at h
   obtain ⟨d, hd⟩ := Option.isSome_iff_exists.1 h.1
   refine ⟨d, hd, fun i' hi' hd' => ?_⟩
   have h' := List.all_eq_true.1 h.2 i' (List.mem_range.2 hi')
   simp only [Bool.or_eq_true, beq_iff_eq, bne_iff_ne] at h'
   rcases h' with h' | h'
   ·exact h'.symm
   ·exact absurd (hd.trans hd'.symm) h'
 ·exact reads2B_spec (by simpa using deps2B_spec _ _ h9 pre i post e) o ho t ht i' hi' hd
 ·exact (readsB_spec (List.all_eq_true.1 h10 i hi) o ho t ht i' hi' hd).1
 ·have := List.all_eq_true.1 (List.all_eq_true.1 h11 e he) e' he'
  simp only [Bool.or_eq_true, decide_eq_true_eq] at this
  exact this.resolve_left (by omega)
 ·have := List.all_eq_true.1 h12 e he
  simp only [Bool.or_eq_true, decide_eq_true_eq] at this
  exact this.resolve_left (by omega)
 ·have := List.all_eq_true.1 h13 i hi
  rw [ho] at this
  simp only [Option.map_some, Option.getD_some, Bool.or_eq_true, Bool.and_eq_true, Bool.not_eq_true', List.contains_eq_mem, decide_eq_false_iff_not] at this
  rcases this with h | h
  ·exact .inl h
  ·exact .inr fun e he => List.all_eq_true.1 h e he
 ·have := List.all_eq_true.1 h14 e he
  simpa using this

/-- A frame: S's slots as in A, the others as in 'base'. -/
structure Mixed (l : List Oper) (S : Nat → Prop) (A base a : Act) : Prop where
 defers : a.defers = base.defers
 size : a.tmps.size = base.tmps.size
 in_ : ∀ i, S i → ∀ t, dstAt l i = some t → a.tmps.getD t undef = A.tmps.getD t undef
 out : ∀ t, (∀ i, S i → dstAt l i ≠ some t) → a.tmps.getD t undef = base.tmps.getD t undef

section
variable {F : Fence} {n : Nat} {P : Program} {l : List Oper}
section
variable {S S' : Nat → Prop} {A A' base a : Act}
theorem Mixed.nil (h : ∀ i, ¬ S i) : Mixed l S A base base := ⟨rfl, rfl, fun i hi => absurd hi (h i), fun _ _ => rfl⟩
theorem Mixed.congr (h : Mixed l S A base a) (hS : ∀ i, S i ↔ S' i) : Mixed l S' A base a := ⟨h.defers, h.size, fun i hi => h.in_ i ((hS i).2 hi), fun t ht => h.out t fun i hi => ht i ((hS i).1 hi)⟩
theorem Mixed.change (h : Mixed l S A base a) (hA : ∀ i, S i → ∀ t, dstAt l i = some t → A.tmps.getD t undef = A'.tmps.getD t undef) : Mixed l S A' base a := ⟨h.defers, h.size, fun i hi t ht => (h.in_ i hi t ht).trans (hA i hi t ht), h.out⟩
/-- One more. -/
theorem Mixed.step (h : Mixed l S A base a) {i : Nat} {d : Tmp} (hd : dstAt l i = some d) (hu : ∀ i', S i' → dstAt l i' = some d → i' = i) (hsz : d < base.tmps.size) : Mixed l (fun k => S k ∨ k = i) A base (a.put (some d) (A.tmps.getD d undef)) := by
 have hp : (a.put (some d) (A.tmps.getD d undef)).tmps = a.tmps.setIfInBounds d (A.tmps.getD d undef) := rfl
 refine ⟨h.defers, by rw [hp]; simpa using h.size, fun k hk t ht => ?_, fun t ht => ?_⟩
 ·by_cases e : t = d
  ·subst e
   rw [hp, getD_set_same _ _ _ (by rw [h.size]; exact hsz)]
  ·rw [hp, getD_set_other _ _ (Ne.symm e)]
   rcases hk with hk | rfl
   ·exact h.in_ k hk t ht
   ·rw [hd] at ht; exact absurd (Option.some.inj ht).symm e
 ·have e : d ≠ t := fun e => ht i (.inr rfl) (by rw [hd, e])
  rw [hp, getD_set_other _ _ e]
  exact h.out t fun k hk => ht k (.inl hk)
/-- Two of them, one on the other. -/
theorem Mixed.trans (h : Mixed l S A' A a) (k : Mixed l S' A' base A) : Mixed l (fun i => S i ∨ S' i) A' base a := by
 refine ⟨h.defers.trans k.defers, h.size.trans k.size, fun i hi t ht => ?_, fun t ht => ?_⟩
 ·by_cases hex : ∃ i', S i' ∧ dstAt l i' = some t
  ·obtain ⟨i', h1, h2⟩ := hex
   exact h.in_ i' h1 t h2
  ·rw [h.out t (fun i' h1 h2 => hex ⟨i', h1, h2⟩)]
   rcases hi with hi | hi
   ·exact absurd ⟨i, hi, ht⟩ hex
   ·exact k.in_ i hi t ht
 ·rw [h.out t (fun i hi => ht i (.inl hi))]
  exact k.out t fun i hi => ht i (.inr hi)
end

/-- The walk of a run of quiet operations. -/
theorem quiet_seq {C : World → Prop} {A : Act} : ∀ (qs : List Nat) (base : Act), (∀ i ∈ qs, i < l.length ∧ ∃ d, dstAt l i = some d ∧ d < base.tmps.size ∧ ∀ i' ∈ qs, dstAt l i' = some d → i' = i) → qs.Nodup →
  wpQuietIn F n P l.toArray C (fun a2 => a2 = A) (pick l qs) base →
  Mixed l (· ∈ qs) A base A ∧ ∀ pre i post, qs = pre ++ i :: post → ∀ o, l[i]? = some o → ∃ LF, Mixed l (· ∈ pre) A base LF ∧ YieldsQuiet F n P l.toArray C o (valOf l A i) LF
 | [], base, _, _, h => by
  have e : base = A := h
  subst e
  exact ⟨Mixed.nil (by simp), fun pre i post e => by simp at e⟩
 | i0 :: qs, base, hq, hnd, h => by
  obtain ⟨hlt, d, hd, hsz, hun⟩ := hq i0 (by simp)
  have ho : l[i0]? = some l[i0] := List.getElem?_eq_getElem hlt
  rw [pick_cons ho] at h
  have hdo : (l[i0]).dst = some d := by unfold dstAt at hd; rw [ho] at hd; exact hd
  have main : ∃ v, YieldsQuiet F n P l.toArray C l[i0] v base ∧ wpQuietIn F n P l.toArray C (fun a2 => a2 = A) (pick l qs) (base.put (some d) v) := by
   obtain ⟨ha, h2⟩ := h
   by_cases hw : Region.wanted l[i0] (yielded l.toArray base.tmps) = true
   ·rw [if_pos hw] at h2
    obtain ⟨v, h3, h4⟩ := h2
    exact ⟨v, ⟨ha, .inl ⟨hw, h3⟩⟩, by rw [← hdo]; exact h4⟩
   ·rw [if_neg hw] at h2
    exact ⟨undef, ⟨ha, .inr ⟨by simpa using hw, rfl⟩⟩, by rw [← hdo]; exact h2⟩
  obtain ⟨v, hy, hr⟩ := main
  rw [List.nodup_cons] at hnd
  have hbs : (base.put (some d) v).tmps.size = base.tmps.size := by simp [Act.put]
  have hpt : (base.put (some d) v).tmps = base.tmps.setIfInBounds d v := rfl
  obtain ⟨i1, i2⟩ := quiet_seq qs (base.put (some d) v) (fun i hi => by
   obtain ⟨g1, d', g2, g3, g4⟩ := hq i (by simp [hi])
   exact ⟨g1, d', g2, by rw [hbs]; exact g3, fun i' hi' => g4 i' (by simp [hi'])⟩) hnd.2 hr
  have hnod : ∀ i ∈ qs, dstAt l i ≠ some d := fun i hi e => by
   have := hun i (by simp [hi]) e
   subst this
   exact hnd.1 hi
  have hAd : A.tmps.getD d undef = v := by
   rw [i1.out d hnod, hpt, getD_set_same _ _ _ hsz]
  have hv : valOf l A i0 = v := by unfold valOf; rw [hd]; exact hAd
  have up : ∀ {S : Nat → Prop} {LF : Act}, (∀ i, S i → i ∈ qs) → Mixed l S A (base.put (some d) v) LF → Mixed l (fun k => k = i0 ∨ S k) A base LF := by
   intro S LF hS hm
   refine ⟨hm.defers, hm.size.trans hbs, fun i hi t ht => ?_, fun t ht => ?_⟩
   ·rcases hi with rfl | hi
    ·rw [hd] at ht; cases ht
     rw [hm.out d (fun i' hi' => hnod i' (hS i' hi')), hpt, getD_set_same _ _ _ hsz, hAd]
    ·exact hm.in_ i hi t ht
   ·have e : d ≠ t := fun e => ht i0 (.inl rfl) (by rw [hd, e])
    rw [hm.out t (fun i hi => ht i (.inr hi)), hpt, getD_set_other _ _ e]
  refine ⟨(up (fun i hi => hi) i1).congr (by simp), fun pre i post e o hol => ?_⟩
  cases pre with
  | nil =>
   simp at e
   obtain ⟨rfl, rfl⟩ := e
   rw [ho] at hol
   cases hol
   exact ⟨base, Mixed.nil (by simp), by rw [hv]; exact hy⟩
  | cons p pre =>
   simp at e
   obtain ⟨rfl, rfl⟩ := e
   obtain ⟨LF, h5, h6⟩ := i2 pre i post rfl o hol
   exact ⟨LF, (up (fun k hk => by simp [hk]) h5).congr (by simp), h6⟩

theorem wpListIn_relD {ops : Array Oper} {o : Oper} {a A : Act} {W : World} {K K' : Act → World → Prop} {Q : Exit → Act → World → Prop} (hsel : ∀ cs b, o.op ≠ .select cs b) (hnd : ∀ c, o.op ≠ .defer c) (hz : a.tmps.size = A.tmps.size) (hag : ∀ t ∈ o.looksAt ops, A.tmps.getD t undef = a.tmps.getD t undef)
  (h : wpListIn F n P ops (Exit.then K (fun _ _ _ => False)) [o] A W) (hK : ∀ A' a' W' v, A'.tmps = (A.put o.dst v).tmps → a'.tmps = (a.put o.dst v).tmps → (A'.defers = A.defers → a'.defers = a.defers) → K A' W' → K' a' W') : wpListIn F n P ops (Exit.then K' Q) [o] a W := by
 have pd : ∀ (x : Act) (v : Value), (x.put o.dst v).defers = x.defers := fun x v => by cases o.dst <;> rfl
 simp only [wpListIn] at h ⊢
 rw [wanted_agree hz.symm hag] at h
 split
 ·rename_i hw
  rw [if_pos hw] at h
  unfold Oper.wpIn at h ⊢
  rw [Oper.semAt_eq _ _ _ hnd] at h ⊢
  rw [execOp_agree hsel hag] at h
  refine ⟨fun f hf => h.1 f (by rw [about_agree W hag]; exact hf), ?_⟩
  have h4 := h.2
  generalize (execOp a.eval o).run P W = r at h4 ⊢
  cases r with
  | ok x w' =>
   cases x <;> simp only [Oper.uponIn, Exit.then] at h4 ⊢ <;>
    first
     | exact hK _ _ _ _ rfl rfl (fun _ => pd a _) h4
     | exact hK _ _ _ undef (by cases o.dst <;> rfl) (by cases o.dst <;> rfl) (fun e => by
       have e2 : ∀ (x : Act) (v : Value), (x.put o.dst v).defers = x.defers := pd
       rw [e2] at e
       exact absurd e (by simp)) h4
     | exact ⟨h4.1, CallsIn.mono h4.2 (fun e w'' he => by cases e <;> first | exact hK _ _ _ _ rfl rfl (fun _ => pd a _) he | exact False.elim he | (obtain ⟨_, _, he⟩ := he; exact False.elim he))⟩
     | exact ⟨h4.1, RoundIn.mono h4.2 (fun e w'' he => by cases e <;> first | exact hK _ _ _ _ rfl rfl (fun _ => pd a _) he | exact False.elim he | (obtain ⟨_, _, he⟩ := he; exact False.elim he))⟩
     | exact ⟨h4.1, RowsIn.mono h4.2 (fun v w'' he => hK _ _ _ _ rfl rfl (fun _ => pd a _) he)⟩
     | exact h4
     | exact False.elim h4
  | halt x w' => cases x <;> simp only [Oper.uponIn, Exit.then] at h4 ⊢ <;> first | exact h4 | exact False.elim h4
 ·rename_i hw
  rw [if_neg hw] at h
  refine ⟨fun f hf => h.1 f (by rw [about_agree W hag]; exact hf), ?_⟩
  exact hK _ _ _ undef rfl rfl (fun _ => pd a _) h.2

/-- What asks nothing of the world yields its value in every world. -/
def YieldsAll (F : Fence) (P : Program) (ops : Array Oper) (o : Oper) (v : Value) (a : Act) : Prop :=
 (∀ W f, o.about P W a.eval = some f → F.fn f) ∧ ((Region.wanted o (yielded ops a.tmps) = true ∧ ∀ W, (execOp a.eval o).run P W = .ok (.value v) W) ∨ (Region.wanted o (yielded ops a.tmps) = false ∧ v = undef))
theorem late_yields {ops : Array Oper} {C : World → Prop} {o : Oper} {v : Value} {a : Act} (hl : lateB o = true) (hC : ∃ W, C W) (hy : YieldsQuiet F n P ops C o v a) : YieldsAll F P ops o v a := by
 obtain ⟨W0, hW0⟩ := hC
 obtain ⟨dst, op, type, pos, after, guard⟩ := o
 refine ⟨fun W f hf => ?_, ?_⟩
 ·unfold lateB at hl
  cases op <;> simp only at hl <;> first | (cases hl; done) | (have h0 : (none : Option FuncId) = some f := hf; cases h0)
 ·rcases hy.2 with ⟨hw, hv⟩ | h
  ·refine .inl ⟨hw, fun W => ?_⟩
   have h3 := hv W0 hW0
   unfold Oper.quietAtIn at h3
   unfold lateB at hl
   cases op <;> simp only at hl <;> first | (cases hl; done) | skip
   ·simp only [execOp, Sem.run_pure, Oper.quietUponIn] at h3 ⊢
    rw [h3.2]
   ·simp only [execOp, Sem.run_pure, Oper.quietUponIn] at h3 ⊢
    rw [h3.2]
   ·rename_i t ix
    simp only [execOp] at h3 ⊢
    unfold Instr.extract at h3 ⊢
    cases hv : a.eval t <;> rw [hv] at h3 <;> simp only [Sem.run_bind] at h3 ⊢
    case tuple xs =>
     cases hx : xs[ix]? <;> simp [hx, Sem.run_pure, Result.andThen, Oper.quietUponIn] at h3 ⊢
     exact h3
    all_goals simp [Result.andThen, Oper.quietUponIn] at h3
  ·exact .inr h
theorem YieldsAll.agree {ops : Array Oper} {o : Oper} {v : Value} {a a' : Act} (hy : YieldsAll F P ops o v a) (hs : ∀ cs b, o.op ≠ .select cs b) (hz : a.tmps.size = a'.tmps.size) (h : ∀ t ∈ o.looksAt ops, a.tmps.getD t undef = a'.tmps.getD t undef) : YieldsAll F P ops o v a' := by
 unfold YieldsAll at hy ⊢
 rw [← execOp_agree hs h, ← wanted_agree hz h]
 exact ⟨fun W f hf => hy.1 W f (by rw [about_agree W h]; exact hf), hy.2⟩
end
end Go.Proofs.YtjdgdeiedkickaaDoor
