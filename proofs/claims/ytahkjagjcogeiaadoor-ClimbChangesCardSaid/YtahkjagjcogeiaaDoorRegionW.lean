/- A region that draws its order, by an invariant, outside a fence. -/
import Derived.Test.YtahkjagjcogeiaaDoorRegion
namespace Go.Proofs.YtahkjagjcogeiaaDoor
open Go.RowKit
set_option linter.unusedVariables false

section
variable {P : Program} {ops : Array Oper} {Q : Exit → Act → World → Prop}

theorem wpAny_inv (St : Array Bool → Act → World → Prop)
    (hstep : ∀ listed a w i o, ops[i]? = some o → listed.getD i true = false → (∀ e ∈ o.after, Region.binds .any e = true → listed.getD e.on false = true) → St listed a w → wpList P ops (Exit.then (St (listed.setIfInBounds i true)) Q) [o] a w)
    (hend : ∀ listed a w, Region.ready .any ops listed = [] → St listed a w → Q .normal a w) :
    ∀ fuel listed a w, listed.toList.count false ≤ fuel → St listed a w → wpAny P .any ops Q fuel listed a w := by
  have hop : ∀ listed a w i, i ∈ Region.ready .any ops listed → St listed a w → wpOp P ops Q i (St (listed.setIfInBounds i true)) a w := by
    intro listed a w i hi hs
    obtain ⟨h1, o, ho, h2⟩ := mem_ready.1 hi
    have h3 := hstep listed a w i o ho h1 h2 hs
    unfold wpOp
    simp only [ho]
    simp only [wpList] at h3
    split
    · rename_i hw
      rw [if_pos hw] at h3
      rcases h3 with h3 | ⟨h3, h4⟩
      · left
        unfold Oper.wp at h3 ⊢
        generalize (execOp a.eval o).run P w = r at h3 ⊢
        cases r with
        | ok x w' =>
          cases x <;> simp only [Oper.upon, Exit.then] at h3 ⊢ <;>
            first
              | exact h3
              | exact Calls.mono h3 (fun e w'' he => by cases e <;> exact he)
        | halt x w' => cases x <;> simp only [Oper.upon, Exit.then] at h3 ⊢ <;> exact h3
      · right
        exact ⟨h3, h4⟩
    · rename_i hw
      rw [if_neg hw] at h3
      exact h3
  intro fuel
  induction fuel with
  | zero =>
    intro listed a w hf hs
    have hnil : Region.ready .any ops listed = [] := by
      cases hr : Region.ready .any ops listed with
      | nil => rfl
      | cons i rs =>
        have hi : i ∈ Region.ready .any ops listed := by rw [hr]; simp
        have := openCount_set (mem_ready.1 hi).1
        omega
    exact ⟨hnil, hend listed a w hnil hs⟩
  | succ fuel ih =>
    intro listed a w hf hs
    refine ⟨fun h0 => hend listed a w h0 hs, fun i hi => ?_⟩
    have hc := openCount_set (mem_ready.1 hi).1
    exact wpOp_mono (fun a' w' h' => ih _ a' w' (by omega) h') (hop listed a w i hi hs)

/-- What is done has what it waits for. -/
def Down (l : List Oper) (L : Nat → Bool) : Prop := ∀ (j : Nat) o, l[j]? = some o → L j = true → Waited L o.after.toList
def afterB (l : List Oper) (j k : Nat) : Bool := match l[j]? with
  | some o => o.after.toList.any fun e => e.on == k && Region.binds .any e
  | none => false
theorem Down.at_ {l : List Oper} {L : Nat → Bool} (h : Down l L) (j k : Nat) (hj : L j = true) (hk : afterB l j k = true) : L k = true := by
  unfold afterB at hk
  split at hk
  · rename_i o ho; exact (h j o ho hj).at_ k hk
  · cases hk
theorem Down.no {l : List Oper} {L : Nat → Bool} (h : Down l L) (j k : Nat) (hj : L j = true) (hk : afterB l j k = true) (hf : L k = false) {p : Prop} : p := absurd ((h.at_ j k hj hk).symm.trans hf) (by decide)
theorem Waited.mono {L L' : Nat → Bool} (hL : ∀ k, L k = true → L' k = true) : ∀ {l : List Edge}, Waited L l → Waited L' l
  | [], _ => trivial
  | e :: es, h => ⟨fun hb => hL _ (h.1 hb), Waited.mono hL h.2⟩
theorem done_mono (L : Nat → Bool) (i k : Nat) (h : L k = true) : done L i k = true := by unfold done; split <;> simp_all
theorem Down.step {l : List Oper} {L : Nat → Bool} (h : Down l L) {i : Nat} {o : Oper} (ho : l[i]? = some o) (hw : Waited L o.after.toList) : Down l (done L i) := by
  intro j o' hj ht
  by_cases e : j = i
  · subst e
    rw [ho] at hj
    cases hj
    exact hw.mono (done_mono L j)
  · unfold done at ht
    rw [if_neg e] at ht
    exact (h j o' hj ht).mono (done_mono L i)

/-- One obligation an operation. -/
def StepsW {σ : Type} (P : Program) (ops : Array Oper) (D : (Nat → Bool) → Prop) (act : σ → Act) (inv : (Nat → Bool) → σ → World → Prop) : Nat → List Oper → Prop
  | _, [] => True
  | i, o :: rest => (∀ L s W, L i = false → Waited L o.after.toList → D L → inv L s W → ∀ (K : Act → World → Prop) (Q : Exit → Act → World → Prop), (∀ s' W', inv (done L i) s' W' → K (act s') W') → wpList P ops (Exit.then K Q) [o] (act s) W) ∧ StepsW P ops D act inv (i + 1) rest
theorem StepsW.at_ {σ : Type} {D : (Nat → Bool) → Prop} {act : σ → Act} {inv : (Nat → Bool) → σ → World → Prop} : ∀ {l : List Oper} {k i : Nat} {o : Oper}, StepsW P ops D act inv k l → l[i]? = some o →
    ∀ L s W, L (k + i) = false → Waited L o.after.toList → D L → inv L s W → ∀ (K : Act → World → Prop) (Q : Exit → Act → World → Prop), (∀ s' W', inv (done L (k + i)) s' W' → K (act s') W') → wpList P ops (Exit.then K Q) [o] (act s) W
  | [], _, _, _, _, h => by simp at h
  | o' :: l, k, 0, o, hs, h => by simp at h; subst h; exact hs.1
  | o' :: l, k, i + 1, o, hs, h => by
    have := StepsW.at_ (i := i) hs.2 (by simpa using h)
    rwa [show k + 1 + i = k + (i + 1) by omega] at this

/-- THE LAW, one obligation an operation. -/
theorem wp_region_steps {σ : Type} {id : Nat} {a : Act} {w : World} {l : List Oper} (hm : P.follows .mixedOrders = true) (hb : backB l.toArray = true) (act : σ → Act) (inv : (Nat → Bool) → σ → World → Prop) (s0 : σ)
    (ha : a = act s0) (h0 : inv (fun _ => false) s0 w.drew)
    (hstep : StepsW P l.toArray (Down l) act inv 0 l)
    (hend : ∀ L s W, (∀ k, k < l.length → L k = true) → inv L s W → Q .normal (act s) W) : (Code.region id l.toArray true).wp P Q a w := by
  refine wp_region_any hm (wpAny_inv (fun listed a W => listed.size = l.length ∧ Down l (fun k => listed.getD k false) ∧ ∃ s, a = act s ∧ inv (fun k => listed.getD k false) s W) ?_ ?_ _ _ _ _ (by rw [Array.toList_replicate, List.count_replicate]; simp) ?_)
  · rintro listed a W i o ho hu hd ⟨hsz, hdn, s, rfl, hi⟩
    have hlt : i < listed.size := by rw [hsz]; simpa using (Array.getElem?_eq_some_iff.1 ho).1
    have hu' : listed.getD i false = false := by
      rw [Array.getD_eq_getD_getElem?, Array.getElem?_eq_getElem hlt] at hu ⊢
      simpa using hu
    have h := hstep.at_ (i := i) (o := o) (by simpa using ho) (fun k => listed.getD k false) s W (by simpa using hu') (Waited.of fun e he => hd e (by simpa using he)) hdn hi
    simp only [Nat.zero_add] at h
    refine h _ Q ?_
    intro s' W' h'
    have e : (fun k => (listed.setIfInBounds i true).getD k false) = done (fun k => listed.getD k false) i := by
      funext k
      unfold done
      by_cases hk : k = i
      · subst hk
        rw [if_pos rfl, Array.getD_eq_getD_getElem?, Array.getElem?_setIfInBounds]
        simp [hlt]
      · rw [if_neg hk, Array.getD_eq_getD_getElem?, Array.getElem?_setIfInBounds_ne (Ne.symm hk), ← Array.getD_eq_getD_getElem?]
    refine ⟨by simpa using hsz, ?_, s', rfl, ?_⟩
    · rw [e]; exact hdn.step (by simpa using ho) (Waited.of fun e he => hd e (by simpa using he))
    · rw [e]; exact h'
  · rintro listed a W hr ⟨hsz, _, s, rfl, hi⟩
    refine hend _ s W ?_ hi
    have := dag_of_back hb (fun k => listed.getD k false) ?_
    · intro k hk; exact this k (by simpa using hk)
    · intro i o ho hu
      have hlt : i < listed.size := by rw [hsz]; simpa using (Array.getElem?_eq_some_iff.1 ho).1
      have hu' : listed.getD i true = false := by
        rw [Array.getD_eq_getD_getElem?, Array.getElem?_eq_getElem hlt] at hu ⊢
        simpa using hu
      have hno : ¬ i ∈ Region.ready .any l.toArray listed := by rw [hr]; simp
      rw [mem_ready] at hno
      have h2 : ¬ ∀ e ∈ o.after, Region.binds .any e = true → listed.getD e.on false = true := fun h => hno ⟨hu', o, ho, h⟩
      refine Classical.byContradiction fun hc => h2 fun e he hbnd => ?_
      cases hc' : listed.getD e.on false with
      | true => rfl
      | false => exact absurd ⟨e, he, hbnd, hc'⟩ hc
  · have : (fun k => (Array.replicate l.toArray.size false).getD k false) = fun _ => false := by
      funext k
      rw [Array.getD_eq_getD_getElem?, Array.getElem?_replicate]
      split <;> rfl
    refine ⟨by simp, ?_, s0, ha, ?_⟩
    · rw [this]; intro j o _ h; cases h
    · rw [this]; exact h0
end
end Go.Proofs.YtahkjagjcogeiaaDoor
