/- A region that draws its order, by an invariant: whatever has been carried out, each operation that may come up keeps it. -/
import Derived.RangeFuncNested
import Derived.RangeFuncBound
import Derived.RangeFuncCalls
import Derived.RangeFuncLeaves
import Derived.Shelf.Abstract
import Derived.Shelf.RegionOpen
import Derived.WalkKit
import Derived.OwnWalkIn
import Derived.TacticsInMore
import Derived.LoopNIn
import Derived.LoopIn
import Derived.Test.YtahkjagjcogeiaaDoorMem
namespace Go.Proofs.YtahkjagjcogeiaaDoor
open Go.RowKit
set_option linter.unusedVariables false

section
variable {F : Fence} {n : Nat} {P : Program} {ops : Array Oper} {Q : Exit → Act → World → Prop}

theorem openCount_set {listed : Array Bool} {i : Nat} (hi : listed.getD i true = false) : ((listed.setIfInBounds i true).toList.count false) + 1 ≤ listed.toList.count false := by
  have hlt : i < listed.size := by
    rcases Nat.lt_or_ge i listed.size with h | h
    · exact h
    · rw [Array.getD_eq_getD_getElem?, Array.getElem?_eq_none h] at hi; cases hi
  have hv : listed.toList[i]'(by simpa using hlt) = false := by
    rw [Array.getD_eq_getD_getElem?, Array.getElem?_eq_getElem hlt] at hi
    simpa using hi
  have h1 : 0 < listed.toList.count false := List.count_pos_iff.2 (by rw [← hv]; exact List.getElem_mem _)
  have h2 := List.count_set (a := true) (b := false) (l := listed.toList) (i := i) (by simpa using hlt)
  rw [hv] at h2
  rw [Array.toList_setIfInBounds, h2]
  simp only [BEq.rfl, if_true]
  have h3 : (true == false) = false := rfl
  simp only [h3, Bool.false_eq_true, if_false]
  omega

theorem wpAnyIn_inv (St : Array Bool → Act → World → Prop)
    (hsize : ∀ listed a w, St listed a w → listed.size = ops.size)
    (hstep : ∀ listed a w i o, ops[i]? = some o → listed.getD i true = false → (∀ e ∈ o.after, Region.binds .any e = true → listed.getD e.on false = true) → St listed a w → wpListIn F n P ops (Exit.then (St (listed.setIfInBounds i true)) Q) [o] a w)
    (hend : ∀ listed a w, Region.ready .any ops listed = [] → St listed a w → Q .normal a w) :
    ∀ fuel listed a w, listed.toList.count false ≤ fuel → St listed a w → wpAnyIn F n P .any ops Q fuel listed a w := by
  have hop : ∀ listed a w i, i ∈ Region.ready .any ops listed → St listed a w → wpOpIn F n P ops Q i (St (listed.setIfInBounds i true)) a w := by
    intro listed a w i hi hs
    obtain ⟨h1, o, ho, h2⟩ := mem_ready.1 hi
    have h3 := hstep listed a w i o ho h1 h2 hs
    unfold wpOpIn
    simp only [ho]
    simp only [wpListIn] at h3
    split
    · rename_i hw
      rw [if_pos hw] at h3
      unfold Oper.wpIn at h3 ⊢
      refine ⟨h3.1, ?_⟩
      have h4 := h3.2
      generalize (o.semAt F.round a.eval).run P w = r at h4 ⊢
      cases r with
      | ok x w' =>
        cases x <;> simp only [Oper.uponIn, Exit.then] at h4 ⊢ <;>
          first
            | exact h4
            | exact ⟨h4.1, CallsIn.mono h4.2 (fun e w'' he => by cases e <;> exact he)⟩
            | exact ⟨h4.1, RoundIn.mono h4.2 (fun e w'' he => by cases e <;> exact he)⟩
      | halt x w' => cases x <;> simp only [Oper.uponIn, Exit.then] at h4 ⊢ <;> exact h4
    · rename_i hw
      rw [if_neg hw] at h3
      exact h3
  intro fuel
  induction fuel with
  | zero =>
    intro listed a w hf hs
    have hnil : Region.ready .any ops listed = [] := by
      cases hr : Region.ready .any ops listed with
      | nil => rfl
      | cons i rs =>
        have hi : i ∈ Region.ready .any ops listed := by rw [hr]; simp
        have := openCount_set (mem_ready.1 hi).1
        omega
    exact ⟨hnil, hend listed a w hnil hs⟩
  | succ fuel ih =>
    intro listed a w hf hs
    refine ⟨fun h0 => hend listed a w h0 hs, fun i hi => ?_⟩
    have hc := openCount_set (mem_ready.1 hi).1
    exact wpOpIn_mono (fun a' w' h' => ih _ a' w' (by omega) h') (hop listed a w i hi hs)

/-- THE LAW. -/
theorem wpIn_region_inv {id : Nat} {a : Act} {w : World} (hm : P.follows .mixedOrders = true) (St : Array Bool → Act → World → Prop)
    (hsize : ∀ listed a w, St listed a w → listed.size = ops.size)
    (h0 : St (Array.replicate ops.size false) a w.drew)
    (hstep : ∀ listed a w i o, ops[i]? = some o → listed.getD i true = false → (∀ e ∈ o.after, Region.binds .any e = true → listed.getD e.on false = true) → St listed a w → wpListIn F n P ops (Exit.then (St (listed.setIfInBounds i true)) Q) [o] a w)
    (hend : ∀ listed a w, Region.ready .any ops listed = [] → St listed a w → Q .normal a w) : (Code.region id ops true).wpIn F n P Q a w :=
  wpIn_region_any hm (wpAnyIn_inv St hsize hstep hend _ _ _ _ (by rw [Array.toList_replicate, List.count_replicate]; simp) h0)

/-- What has been carried out, one operation more. -/
def done (L : Nat → Bool) (i : Nat) : Nat → Bool := fun k => if k = i then true else L k

/-- THE LAW, over the set of operations that have been carried out; 'act s': the frame, its slots s. -/
theorem wpIn_region_L {σ : Type} {id : Nat} {a : Act} {w : World} (hm : P.follows .mixedOrders = true) (act : σ → Act) (inv : (Nat → Bool) → σ → World → Prop)
    (h0 : ∃ s, a = act s ∧ inv (fun _ => false) s w.drew)
    (hstep : ∀ L i o s W, ops[i]? = some o → L i = false → (∀ e ∈ o.after, Region.binds .any e = true → L e.on = true) → inv L s W → wpListIn F n P ops (Exit.then (fun a' W' => ∃ s', a' = act s' ∧ inv (done L i) s' W') Q) [o] (act s) W)
    (hend : ∀ L s W, (∀ k, k < ops.size → L k = true) → inv L s W → Q .normal (act s) W) (hdag : ∀ L : Nat → Bool, (∀ i o, ops[i]? = some o → L i = false → ∃ e ∈ o.after, Region.binds .any e = true ∧ L e.on = false) → ∀ k, k < ops.size → L k = true) : (Code.region id ops true).wpIn F n P Q a w := by
  refine wpIn_region_inv hm (fun listed a W => listed.size = ops.size ∧ ∃ s, a = act s ∧ inv (fun k => listed.getD k false) s W) (fun _ _ _ h => h.1) ?_ ?_ ?_
  · obtain ⟨s, h1, h2⟩ := h0
    refine ⟨by simp, s, h1, ?_⟩
    have : (fun k => (Array.replicate ops.size false).getD k false) = fun _ => false := by
      funext k
      rw [Array.getD_eq_getD_getElem?, Array.getElem?_replicate]
      split <;> rfl
    rw [this]; exact h2
  · rintro listed a W i o ho hu hd ⟨hsz, s, rfl, hi⟩
    have hlt : i < listed.size := by rw [hsz]; exact (Array.getElem?_eq_some_iff.1 ho).1
    have hu' : listed.getD i false = false := by
      rw [Array.getD_eq_getD_getElem?, Array.getElem?_eq_getElem hlt] at hu ⊢
      simpa using hu
    have h := hstep (fun k => listed.getD k false) i o s W ho hu' hd hi
    have e : (fun k => (listed.setIfInBounds i true).getD k false) = done (fun k => listed.getD k false) i := by
      funext k
      unfold done
      by_cases hk : k = i
      · subst hk
        rw [if_pos rfl, Array.getD_eq_getD_getElem?, Array.getElem?_setIfInBounds]
        simp [hlt]
      · rw [if_neg hk, Array.getD_eq_getD_getElem?, Array.getElem?_setIfInBounds_ne (Ne.symm hk), ← Array.getD_eq_getD_getElem?]
    have hsz' : (listed.setIfInBounds i true).size = ops.size := by simpa using hsz
    simp only [e, hsz', true_and]
    exact h
  · rintro listed a W hr ⟨hsz, s, rfl, hi⟩
    refine hend _ s W (hdag _ ?_) hi
    intro i o ho hu
    have hlt : i < listed.size := by rw [hsz]; exact (Array.getElem?_eq_some_iff.1 ho).1
    have hu' : listed.getD i true = false := by
      rw [Array.getD_eq_getD_getElem?, Array.getElem?_eq_getElem hlt] at hu ⊢
      simpa using hu
    have hno : ¬ i ∈ Region.ready .any ops listed := by rw [hr]; simp
    rw [mem_ready] at hno
    have h2 : ¬ ∀ e ∈ o.after, Region.binds .any e = true → listed.getD e.on false = true := fun h => hno ⟨hu', o, ho, h⟩
    have h3 : ∃ e, ¬ (e ∈ o.after → Region.binds .any e = true → listed.getD e.on false = true) := by
      refine Classical.byContradiction fun hc => h2 fun e => ?_
      exact Classical.byContradiction fun hc' => hc ⟨e, hc'⟩
    obtain ⟨e, he⟩ := h3
    have he1 : e ∈ o.after := Classical.byContradiction fun h => he fun h' => absurd h' h
    have he2 : Region.binds .any e = true := Classical.byContradiction fun h => he fun _ h' => absurd h' h
    have he3 : listed.getD e.on false = false := by
      cases hc : listed.getD e.on false with
      | false => rfl
      | true => exact absurd (fun _ _ => hc) he
    exact ⟨e, he1, he2, he3⟩

/-- The operations wait for earlier ones alone. -/
def backB (ops : Array Oper) : Bool := (List.range ops.size).all fun i => ((ops[i]?).map fun o => o.after.all fun e => decide (e.on < i)).getD true
theorem dag_of_back (h : backB ops = true) (L : Nat → Bool) (hL : ∀ i o, ops[i]? = some o → L i = false → ∃ e ∈ o.after, Region.binds .any e = true ∧ L e.on = false) : ∀ k, k < ops.size → L k = true := by
  intro k
  induction k using Nat.strongRecOn with
  | _ k ih =>
    intro hk
    cases hc : L k with
    | true => rfl
    | false =>
      exfalso
      obtain ⟨e, he, _, hf⟩ := hL k _ (Array.getElem?_eq_getElem hk) hc
      have hb := List.all_eq_true.1 h k (by simpa using hk)
      rw [Array.getElem?_eq_getElem hk] at hb
      simp only [Option.map_some, Option.getD_some] at hb
      rw [Array.all_eq_true_iff_forall_mem] at hb
      have hlt : e.on < k := by simpa using hb e he
      have := ih e.on hlt (by omega)
      rw [this] at hf
      cases hf

/-- One slot turned. -/
def upd (s : Nat → Value) (k : Nat) (v : Value) : Nat → Value := fun j => if j = k then v else s j

/-- What an operation waits for has been carried out. -/
def Waited (L : Nat → Bool) : List Edge → Prop
  | [] => True
  | e :: es => (Region.binds .any e = true → L e.on = true) ∧ Waited L es
theorem Waited.of {L : Nat → Bool} : ∀ {l : List Edge}, (∀ e ∈ l, Region.binds .any e = true → L e.on = true) → Waited L l
  | [], _ => trivial
  | e :: es, h => ⟨h e (by simp), Waited.of fun e' he => h e' (by simp [he])⟩

theorem Waited.at_ {L : Nat → Bool} : ∀ {l : List Edge}, Waited L l → ∀ (j : Nat), (l.any fun e => e.on == j && Region.binds .any e) = true → L j = true
  | [], _, j, h => by simp at h
  | e :: es, hw, j, h => by
    rw [List.any_cons, Bool.or_eq_true] at h
    rcases h with h | h
    · simp only [Bool.and_eq_true, beq_iff_eq] at h
      rw [← h.1]; exact hw.1 h.2
    · exact Waited.at_ hw.2 j h

/-- One obligation an operation. -/
def Steps {σ : Type} (F : Fence) (n : Nat) (P : Program) (ops : Array Oper) (act : σ → Act) (inv : (Nat → Bool) → σ → World → Prop) : Nat → List Oper → Prop
  | _, [] => True
  | i, o :: rest => (∀ L s W, L i = false → Waited L o.after.toList → inv L s W → ∀ (K : Act → World → Prop) (Q : Exit → Act → World → Prop), (∀ s' W', inv (done L i) s' W' → K (act s') W') → wpListIn F n P ops (Exit.then K Q) [o] (act s) W) ∧ Steps F n P ops act inv (i + 1) rest
theorem Steps.at_ {σ : Type} {act : σ → Act} {inv : (Nat → Bool) → σ → World → Prop} : ∀ {l : List Oper} {k i : Nat} {o : Oper}, Steps F n P ops act inv k l → l[i]? = some o →
    ∀ L s W, L (k + i) = false → Waited L o.after.toList → inv L s W → ∀ (K : Act → World → Prop) (Q : Exit → Act → World → Prop), (∀ s' W', inv (done L (k + i)) s' W' → K (act s') W') → wpListIn F n P ops (Exit.then K Q) [o] (act s) W
  | [], _, _, _, _, h => by simp at h
  | o' :: l, k, 0, o, hs, h => by simp at h; subst h; exact hs.1
  | o' :: l, k, i + 1, o, hs, h => by
    have := Steps.at_ (i := i) hs.2 (by simpa using h)
    rwa [show k + 1 + i = k + (i + 1) by omega] at this

/-- THE LAW, one obligation an operation. -/
theorem wpIn_region_steps {σ : Type} {id : Nat} {a : Act} {w : World} {l : List Oper} (hm : P.follows .mixedOrders = true) (hb : backB l.toArray = true) (act : σ → Act) (inv : (Nat → Bool) → σ → World → Prop) (s0 : σ)
    (ha : a = act s0) (h0 : inv (fun _ => false) s0 w.drew)
    (hstep : Steps F n P l.toArray act inv 0 l)
    (hend : ∀ L s W, (∀ k, k < l.length → L k = true) → inv L s W → Q .normal (act s) W) : (Code.region id l.toArray true).wpIn F n P Q a w := by
  refine wpIn_region_L hm act inv ⟨s0, ha, h0⟩ ?_ ?_ (dag_of_back hb)
  · intro L i o s W ho hu hd hi
    have := hstep.at_ (i := i) (o := o) (by simpa using ho) L s W (by simpa using hu) (Waited.of fun e he => hd e (by simpa using he)) hi
    simp only [Nat.zero_add] at this
    exact this _ Q fun s' W' h => ⟨s', rfl, h⟩
  · intro L s W hall hi
    exact hend L s W (fun k hk => hall k (by simpa using hk)) hi
end
end Go.Proofs.YtahkjagjcogeiaaDoor
