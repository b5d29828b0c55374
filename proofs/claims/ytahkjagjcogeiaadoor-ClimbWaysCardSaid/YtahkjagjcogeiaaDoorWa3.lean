/- Part 3 of the texts of this claim, joined. -/
import Derived.Sort.BigQuietIn
import Derived.StillTail
import Derived.Test.YtahkjagjcogeiaaDoorWa2
/- A region that draws its order, inside a fence, in a round or not: a head whose operations leave one value in every world of a class, and a tail that waits for the head: one walk of the lexical order serves. -/
namespace Go.Proofs.YtahkjagjcogeiaaDoor
open Go.RowKit
set_option linter.unusedVariables false

section
variable {F : Fence} {n : Nat} {P : Program} {ops : Array Oper} {md : Region.Mode} {C : World → Prop}

/-- No operation is a defer statement. -/
def noDefer (ops : Array Oper) : Prop := ∀ (i : Nat) o, ops[i]? = some o → ∀ c, o.op ≠ .defer c
def noDeferB (l : List Oper) : Bool := l.all fun o => match o.op with
  | .defer _ => false
  | _ => true
theorem noDefer_of {l : List Oper} (h : noDeferB l = true) : noDefer l.toArray := by
  intro i o ho c hc
  have := List.all_eq_true.1 h o (by simpa using List.mem_of_getElem? (by simpa using ho))
  rw [hc] at this
  cases this

theorem wpIn_of_quiet' {o : Oper} {a : Act} {K : Act → Prop} {K' : Act → World → Prop} {Q' : Exit → Act → World → Prop} {w : World} (hnd : ∀ c, o.op ≠ .defer c) (hw : C w) (h : ∀ a w', C w' → K a → K' a w')
    (ha : o.askedIn F P a C) (hh : o.quietIn F n P a C K) : o.wpIn F n P a w K' Q' := by
  obtain ⟨v, h1, h2⟩ := hh
  have h3 := h1 w hw
  unfold Oper.quietAtIn at h3
  unfold Oper.wpIn
  refine ⟨ha w hw, ?_⟩
  rw [Oper.semAt_eq _ _ _ hnd]
  generalize (execOp a.eval o).run P w = r at *
  cases r with
  | ok x w' =>
    cases x <;> simp only [Oper.quietUponIn] at h3 <;> simp only [Oper.uponIn]
    case value u =>
      obtain ⟨e1, e2⟩ := h3
      rw [e1, e2]
      exact h _ _ hw h2
    case skip =>
      obtain ⟨e1, e2⟩ := h3
      rw [e1, ← e2]
      exact h _ _ hw h2
    case enter f args =>
      obtain ⟨e1, hd, hc⟩ := h3
      rw [e1]
      exact ⟨hd, hc.mono fun e w'' ⟨he, hw''⟩ => by subst he; exact h _ _ hw'' h2⟩
  | halt x w' => simp only [Oper.quietUponIn] at h3

theorem wpOpIn_of_qOpIn' {i : Nat} {a : Act} {K : Act → Prop} {K' : Act → World → Prop} {Q' : Exit → Act → World → Prop} {w : World} (hnd : noDefer ops) (hC : C w) (h : ∀ a w', C w' → K a → K' a w')
    (hh : qOpIn F n P ops C i K a) : wpOpIn F n P ops Q' i K' a w := by
  unfold qOpIn at hh
  unfold wpOpIn
  split
  · rename_i ho; simp only [ho] at hh; exact h _ _ hC hh
  · rename_i o ho
    simp only [ho] at hh
    obtain ⟨ha, hh⟩ := hh
    split
    · rename_i hw; simp only [hw, if_true] at hh; exact wpIn_of_quiet' (hnd i o ho) hC h ha hh
    · rename_i hw; simp only [hw] at hh; exact ⟨ha w hC, h _ _ hC hh⟩

theorem wpAnyIn_of_quiet' {Q : Act → Prop} {Q' : Exit → Act → World → Prop} (hnd : noDefer ops) (hQ : ∀ a w, C w → Q a → Q' .normal a w) : ∀ (fuel : Nat) (listed : Array Bool) (a : Act) (w : World), C w →
    wpAnyQIn F n P md ops C Q fuel listed a → wpAnyIn F n P md ops Q' fuel listed a w
  | 0, _, _, _, hw, h => ⟨h.1, hQ _ _ hw h.2⟩
  | fuel + 1, _, _, _, hw, h => ⟨fun h0 => hQ _ _ hw (h.1 h0), fun i hi => wpOpIn_of_qOpIn' hnd hw (fun a' w' hw' => wpAnyIn_of_quiet' hnd hQ fuel _ a' w' hw') (h.2 i hi)⟩

/-- The head alone: whatever order is picked. -/
def wpHeadIn (F : Fence) (n : Nat) (P : Program) (md : Region.Mode) (ops : Array Oper) (C : World → Prop) (k : Nat) (L : Array Bool → Act → Prop) : Nat → Array Bool → Act → Prop
  | 0, listed, a => L listed a
  | f + 1, listed, a =>
    Region.ready md ops listed ≠ [] ∧ ∀ i ∈ Region.ready md ops listed, i < k ∧ qOpIn F n P ops C i (wpHeadIn F n P md ops C k L f (listed.setIfInBounds i true)) a

theorem wpAnyIn_of_head {k g : Nat} {L : Array Bool → Act → Prop} {Q' : Exit → Act → World → Prop} (hnd : noDefer ops) (hL : ∀ listed a w, C w → L listed a → wpAnyIn F n P md ops Q' g listed a w) :
    ∀ (f : Nat) (listed : Array Bool) (a : Act) (w : World), C w → wpHeadIn F n P md ops C k L f listed a → wpAnyIn F n P md ops Q' (f + g) listed a w
  | 0, listed, a, w, hw, h => by rw [Nat.zero_add]; exact hL _ _ _ hw h
  | f + 1, listed, a, w, hw, h => by
    rw [show f + 1 + g = (f + g) + 1 by omega]
    exact ⟨fun h0 => absurd h0 h.1, fun i hi => wpOpIn_of_qOpIn' hnd hw (fun a' w' hw' h' => wpAnyIn_of_head hnd hL f _ a' w' hw' h') (h.2 i hi).2⟩

theorem wpHeadIn_first {k i : Nat} {oi : Oper} {v : Value} {L : Array Bool → Act → Prop} (hi : ops[i]? = some oi) (hsel : ∀ (j : Nat) (o : Oper) cs b, ops[j]? = some o → o.op ≠ .select cs b)
    (hs : Region.sinkB md ops k = true) (hc : Region.chainB md ops k = true) (hn : k < ops.size) (hin : i < k)
    (hdone : ∀ listed a, L listed a → ∀ j ∈ Region.ready md ops listed, k ≤ j) :
    ∀ (f : Nat) (listed : Array Bool) (a : Act), HeadInv md ops k listed →
      (∀ j oj, ops[j]? = some oj → j ≠ i → listed.getD j true = false → (∀ e ∈ oj.after, Region.binds md e = true → e.on ≠ i) → oi.apart ops oj = true) →
      i ∈ Region.ready md ops listed → YieldsQuiet F n P ops C oi v a →
      wpHeadIn F n P md ops C k L f (listed.setIfInBounds i true) (a.put oi.dst v) → wpHeadIn F n P md ops C k L (f + 1) listed a := by
  intro f
  induction f with
  | zero =>
    intro listed a inv _ hr hy H
    have hun := (mem_ready.1 hr).1
    refine ⟨fun h => (by rw [h] at hr; cases hr), fun j hj => ?_⟩
    have hjn : j < k := by
      rcases Nat.lt_or_ge j k with h | h
      · exact h
      · exact absurd hj (tail_waits hs hc hn inv _ i rfl hin hun j h)
    refine ⟨hjn, ?_⟩
    by_cases hji : j = i
    · subst hji; exact hy.qOpIn hi H
    · have := hdone _ _ H j (ready_mono hj hji)
      omega
  | succ f ih =>
    intro listed a inv hfree hr hy H
    have hun := (mem_ready.1 hr).1
    refine ⟨fun h => (by rw [h] at hr; cases hr), fun j hj => ?_⟩
    have hjn : j < k := by
      rcases Nat.lt_or_ge j k with h | h
      · exact h
      · exact absurd hj (tail_waits hs hc hn inv _ i rfl hin hun j h)
    refine ⟨hjn, ?_⟩
    by_cases hji : j = i
    · subst hji; exact hy.qOpIn hi H
    · have h1 := (H.2 j (ready_mono hj hji)).2
      obtain ⟨hjun, oj, hoj, hall⟩ := mem_ready.1 hj
      have hnot : ∀ e ∈ oj.after, Region.binds md e = true → e.on ≠ i := fun e he hb heq => by
        have h1 := hall e he hb
        rw [heq, getD_both hun] at h1
        cases h1
      have h2 := qOpIn_put hoj (hfree j oj hoj hji hjun hnot) (fun cs b => hsel i oi cs b hi) (fun cs b => hsel j oj cs b hoj) hy h1
      have hfree' : ∀ k ok, ops[k]? = some ok → k ≠ i → (listed.setIfInBounds j true).getD k true = false →
          (∀ e ∈ ok.after, Region.binds md e = true → e.on ≠ i) → oi.apart ops ok = true := fun k ok hk hki hun hno => by
        refine hfree k ok hk hki ?_ hno
        by_cases hjk : j = k
        · subst hjk; exact hjun
        · rw [getD_set_ne true hjk] at hun; exact hun
      refine qOpIn_mono (fun a' h3 => ih (listed.setIfInBounds j true) a' (inv.set hj hjn) hfree' (ready_mono hr (Ne.symm hji)) h3.1 ?_) h2
      rw [Array.setIfInBounds_comm _ _ hji]
      exact h3.2

theorem wpAnyIn_of_seq {Q' : Exit → Act → World → Prop} : ∀ (l : List Oper) (k : Nat) (listed : Array Bool) (a : Act) (w : World), (∀ j, l[j]? = ops[k + j]?) →
    Region.seqB md ops l.length k listed = true → wpListIn F n P ops Q' l a w → wpAnyIn F n P md ops Q' l.length listed a w
  | [], _, _, _, _, _, hB, h => ⟨by simpa [Region.seqB] using hB, h⟩
  | o :: l, k, listed, a, w, hl, hB, h => by
    have h0 : ops[k]? = some o := by simpa using (hl 0).symm
    simp only [List.length_cons, Region.seqB, Bool.and_eq_true, decide_eq_true_eq] at hB
    refine ⟨fun h1 => (by rw [hB.1] at h1; cases h1), fun i hi => ?_⟩
    rw [hB.1] at hi
    have hik : i = k := by simpa using hi
    subst hik
    have hw : wpOpIn F n P ops Q' i (wpListIn F n P ops Q' l) a w := by unfold wpOpIn; simp only [h0]; exact h
    exact wpOpIn_mono (fun a' w' h' => wpAnyIn_of_seq l (i + 1) _ a' w' (fun j => by have := hl (j + 1); simpa [Nat.add_assoc, Nat.add_comm 1 j] using this) hB.2 h') hw

theorem wpHeadIn_lex {k g : Nat} {Lq : Act → Prop} (hsel : Region.noSelect ops = true) (hs : Region.sinkB md ops k = true) (hc : Region.chainB md ops k = true) (hn : k < ops.size) :
    ∀ (l : List Oper) (i : Nat) (listed : Array Bool) (a : Act), (∀ j, j < l.length → l[j]? = ops[i + j]?) → i + l.length = k → HeadInv md ops k listed →
    Region.lexHead md ops g l.length i listed = true → wpQuietIn F n P ops C Lq l a →
    wpHeadIn F n P md ops C k (fun listed' a' => Region.seqB md ops g k listed' = true ∧ Lq a') l.length listed a
  | [], i, listed, a, _, hk, _, hB, h => by
    have : i = k := by simpa using hk
    subst this
    exact ⟨by simpa [Region.lexHead] using hB, h⟩
  | o :: l, i, listed, a, hl, hk, inv, hB, h => by
    have h0 : ops[i]? = some o := by simpa using (hl 0 (by simp)).symm
    simp only [List.length_cons, Region.lexHead, Bool.and_eq_true] at hB
    obtain ⟨⟨hr, hf⟩, hB'⟩ := hB
    have hkn : i < k := by simp only [List.length_cons] at hk; omega
    have hr' : i ∈ Region.ready md ops listed := by simpa using hr
    have hst : qOpIn F n P ops C i (wpQuietIn F n P ops C Lq l) a := by unfold qOpIn; simp only [h0]; exact h
    obtain ⟨v, hy, hK⟩ := yieldsQuiet_of_qOpIn h0 hst
    exact wpHeadIn_first h0 (Region.noSelect_spec hsel) hs hc hn hkn (fun listed' a' hL => seqB_ready hL.1) l.length listed a inv (Region.free_spec h0 hf) hr' hy
      (wpHeadIn_lex hsel hs hc hn l (i + 1) _ _ (fun j hj => by have := hl (j + 1) (by simp; omega); simpa [Nat.add_assoc, Nat.add_comm 1 j] using this) (by simp only [List.length_cons] at hk; omega) (inv.set hr' hkn) hB' hK)

/-- THE LAW: a head of k operations, quiet in the class C; then a tail. -/
theorem wpIn_region_tail {id : Nat} {Q : Exit → Act → World → Prop} {a : Act} {w : World} {l : List Oper} (C : World → Prop) (k : Nat) (hm : P.follows .mixedOrders = true) (hnd : noDeferB l = true) (hB : Region.lexTailB .any l.toArray k = true) (hC : C w.drew)
    (h : wpQuietIn F n P l.toArray C (fun a' => ∀ w', C w' → wpListIn F n P l.toArray Q (l.drop k) a' w') (l.take k) a) : (Code.region id l.toArray true).wpIn F n P Q a w := by
  simp only [Region.lexTailB, Bool.and_eq_true, decide_eq_true_eq] at hB
  obtain ⟨⟨⟨⟨hsel, hn⟩, hs⟩, hc⟩, hlex⟩ := hB
  have hn' : k < l.length := by simpa using hn
  have htl : (l.take k).length = k := by simp; omega
  have hdl : (l.drop k).length = l.toArray.size - k := by simp
  have inv0 : HeadInv .any l.toArray k (Array.replicate l.toArray.size false) :=
    ⟨by simp, fun j oj _ hl => (by rw [getD_replicate_false] at hl; cases hl), fun t _ ht => getD_in (by simpa using ht) (getD_replicate_false _ _)⟩
  have H := wpHeadIn_lex (F := F) (n := n) (P := P) (C := C) (md := .any) (g := l.toArray.size - k) hsel hs hc hn (l.take k) 0 _ a (fun j hj => by
    have hj' : j < k := by rw [htl] at hj; exact hj
    simp [hj']) (by simpa using htl) inv0 (by rw [htl]; exact hlex) h
  refine wpIn_region_any hm ?_
  have := wpAnyIn_of_head (Q' := Q) (g := l.toArray.size - k) (noDefer_of hnd) (fun listed a' w' hw' hL => by
    have := wpAnyIn_of_seq (md := .any) (Q' := Q) (l.drop k) k listed a' w' (fun j => by simp [List.getElem?_drop]) (by rw [hdl]; exact hL.1) (hL.2 w' hw')
    rwa [hdl] at this) _ _ _ w.drew hC H
  rw [htl, show k + (l.toArray.size - k) = l.toArray.size by omega] at this
  exact this

/-- THE LAW: all operations quiet in the class C. -/
theorem wpIn_region_class {id : Nat} {Q : Exit → Act → World → Prop} {a : Act} {w : World} {l : List Oper} (C : World → Prop) (hm : P.follows .mixedOrders = true) (hnd : noDeferB l = true) (hB : Region.lexB .any l.toArray = true) (hC : C w.drew)
    (h : wpQuietIn F n P l.toArray C (fun a' => ∀ w', C w' → Q .normal a' w') l a) : (Code.region id l.toArray true).wpIn F n P Q a w := by
  simp only [Region.lexB, Bool.and_eq_true] at hB
  refine wpIn_region_any hm (wpAnyIn_of_quiet' (Q := fun a' => ∀ w', C w' → Q .normal a' w') (noDefer_of hnd) (fun _ w' hw' h => h w' hw') _ _ _ _ hC ?_)
  have := wpAnyQIn_lex (F := F) (n := n) (P := P) (C := C) (md := .any) hB.1 l 0 (Array.replicate l.toArray.size false) a (by simp) (by simpa using hB.2) h
  simpa using this
end

/-- Worlds of a class, as letters: what is known of each is a rule of the walk. -/
abbrev Cls {σ : Type} (of : σ → World) : World → Prop := fun W => ∃ z : σ, W = of z
theorem cls_open {C : World → Prop} {w : World} (h : C w) {goal : Prop} (k : ∀ (σ : Type) (_ : Nonempty σ) (of : σ → World), (∀ z, C (of z)) → (∀ W, C W → Cls of W) → goal) : goal :=
  k { W : World // C W } ⟨⟨w, h⟩⟩ (fun z => z.1) (fun z => z.2) (fun W hW => ⟨⟨W, hW⟩, rfl⟩)
end Go.Proofs.YtahkjagjcogeiaaDoor
/- A region that draws its order: a head whose operations are quiet but for one that lays a new block, and a tail that waits for the head. -/
namespace Go.Proofs.YtahkjagjcogeiaaDoor
open Go.RowKit
set_option linter.unusedVariables false

def dstAt (l : List Oper) (i : Nat) : Option Tmp := (l[i]?).bind (·.dst)
/-- The frame a0, the slots of the operations S set. -/
structure Desc (l : List Oper) (k : Nat) (val : Nat → Value) (a0 : Act) (S : Nat → Bool) (a : Act) : Prop where
  defers : a.defers = a0.defers
  size : a.tmps.size = a0.tmps.size
  set_ : ∀ i, i < k → S i = true → ∀ d, dstAt l i = some d → a.tmps.getD d undef = val i
  other : ∀ t, (∀ i, i < k → S i = true → dstAt l i ≠ some t) → a.tmps.getD t undef = a0.tmps.getD t undef

/-- Each operation of the head has a slot of its own. -/
def Own1 (l : List Oper) (k : Nat) : Prop := ∀ i, i < k → ∃ d, dstAt l i = some d ∧ ∀ i', i' < k → dstAt l i' = some d → i' = i

section
variable {l : List Oper} {k : Nat} {val : Nat → Value} {a0 a a' : Act} {S S' : Nat → Bool}
theorem Desc.init (hS : ∀ i, i < k → S i = false) : Desc l k val a0 S a0 := ⟨rfl, rfl, (fun i hi h => by rw [hS i hi] at h; cases h), fun _ _ => rfl⟩
theorem getD_set_same (t : Array Value) (d : Nat) (v : Value) (h : d < t.size) : (t.setIfInBounds d v).getD d undef = v := by
  rw [Array.getD_eq_getD_getElem?, Array.getElem?_setIfInBounds_self_of_lt h]; rfl
theorem getD_set_other (t : Array Value) {d e : Nat} (v : Value) (h : d ≠ e) : (t.setIfInBounds d v).getD e undef = t.getD e undef := by
  rw [Array.getD_eq_getD_getElem?, Array.getElem?_setIfInBounds_ne h, ← Array.getD_eq_getD_getElem?]
theorem Desc.step (h : Desc l k val a0 S a) (ho : Own1 l k) {i : Nat} (hi : i < k) {d : Tmp} (hd : dstAt l i = some d) (hsz : d < a0.tmps.size) : Desc l k val a0 (done S i) (a.put (some d) (val i)) := by
  refine ⟨h.defers, by simp [Act.put, h.size], fun i' hi' hS d' hd' => ?_, fun t ht => ?_⟩
  · by_cases e : i' = i
    · subst e
      rw [hd] at hd'
      cases hd'
      exact getD_set_same _ _ _ (by rw [h.size]; exact hsz)
    · have hne : d ≠ d' := by
        intro e'
        subst e'
        obtain ⟨d2, h1, h2⟩ := ho i hi
        rw [hd] at h1
        cases h1
        exact e (h2 i' hi' hd')
      rw [show (a.put (some d) (val i)).tmps = a.tmps.setIfInBounds d (val i) from rfl, getD_set_other _ _ hne]
      exact h.set_ i' hi' (by simpa [done, e] using hS) d' hd'
  · have hne : d ≠ t := fun e => ht i hi (by simp [done]) (by rw [hd, e])
    rw [show (a.put (some d) (val i)).tmps = a.tmps.setIfInBounds d (val i) from rfl, getD_set_other _ _ hne]
    refine h.other t fun i' hi' hS => ht i' hi' ?_
    unfold done
    split
    · rfl
    · exact hS
theorem Desc.agree (h : Desc l k val a0 S a) (h' : Desc l k val a0 S' a') (ho : Own1 l k) (t : Tmp) (hS : ∀ i, i < k → dstAt l i = some t → S i = S' i) : a.tmps.getD t undef = a'.tmps.getD t undef := by
  by_cases hex : ∃ i, i < k ∧ dstAt l i = some t ∧ S i = true
  · obtain ⟨i, hi, hd, hs⟩ := hex
    rw [h.set_ i hi hs t hd, h'.set_ i hi (by rw [← hS i hi hd]; exact hs) t hd]
  · have hno : ∀ i, i < k → S i = true → dstAt l i ≠ some t := fun i hi hs hd => hex ⟨i, hi, hd, hs⟩
    rw [h.other t hno, h'.other t (fun i hi hs hd => hno i hi (by rw [hS i hi hd]; exact hs) hd)]
theorem Desc.eq (h : Desc l k val a0 S a) (h' : Desc l k val a0 S a') (ho : Own1 l k) : a = a' := by
  obtain ⟨t, d⟩ := a
  obtain ⟨t', d'⟩ := a'
  have e1 : d = d' := by have := h.defers; have := h'.defers; simp_all
  have e2 : t = t' := by
    have s1 : t.size = a0.tmps.size := h.size
    have s2 : t'.size = a0.tmps.size := h'.size
    apply Array.ext (by omega)
    intro i h1 h2
    have := h.agree h' ho i (fun _ _ _ => rfl)
    simpa [h1, h2] using this
  rw [e1, e2]
theorem Desc.vals {val' : Nat → Value} (h : Desc l k val a0 S a) (hv : ∀ i, i < k → S i = true → val i = val' i) : Desc l k val' a0 S a := ⟨h.defers, h.size, fun i hi hs d hd => (h.set_ i hi hs d hd).trans (hv i hi hs), h.other⟩
theorem Desc.sets {S'' : Nat → Bool} (h : Desc l k val a0 S a) (hv : ∀ i, i < k → S i = S'' i) : Desc l k val a0 S'' a := ⟨h.defers, h.size, fun i hi hs => h.set_ i hi ((hv i hi).trans hs), fun t ht => h.other t fun i hi hs => ht i hi ((hv i hi).symm.trans hs)⟩
end

section
variable {F : Fence} {n : Nat} {P : Program} {ops : Array Oper} {o : Oper} {a a' : Act}
theorem eval_agree {x : Operand} (h : ∀ t, x = .tmp t → a.tmps.getD t undef = a'.tmps.getD t undef) : a.eval x = a'.eval x := by
  cases x with
  | tmp t => exact h t rfl
  | _ => rfl
theorem execOp_agree (hs : ∀ cs b, o.op ≠ .select cs b) (h : ∀ t ∈ o.looksAt ops, a.tmps.getD t undef = a'.tmps.getD t undef) : execOp a.eval o = execOp a'.eval o :=
  execOp_congr o hs fun x hx => eval_agree fun t e => h t (by
    subst e
    exact List.mem_append_left _ (List.mem_filterMap.2 ⟨.tmp t, by simpa using hx, rfl⟩))
theorem about_agree (w : World) (h : ∀ t ∈ o.looksAt ops, a.tmps.getD t undef = a'.tmps.getD t undef) : o.about P w a.eval = o.about P w a'.eval :=
  about_congr o w fun x hx => eval_agree fun t e => h t (by
    subst e
    exact List.mem_append_left _ (List.mem_filterMap.2 ⟨.tmp t, by simpa using hx, rfl⟩))
theorem wanted_agree (hz : a.tmps.size = a'.tmps.size) (h : ∀ t ∈ o.looksAt ops, a.tmps.getD t undef = a'.tmps.getD t undef) : Region.wanted o (yielded ops a.tmps) = Region.wanted o (yielded ops a'.tmps) := by
  unfold Region.wanted
  cases hg : o.guard with
  | none => rfl
  | some g =>
    obtain ⟨g, b⟩ := g
    have e : yielded ops a.tmps g = yielded ops a'.tmps g := by
      unfold yielded
      cases hd : (ops[g]?).bind (·.dst) with
      | none => rfl
      | some d =>
        have hm : d ∈ o.looksAt ops := by
          unfold Oper.looksAt
          rw [hg]
          exact List.mem_append_right _ (by simp [hd])
        have h1 := h d hm
        have h2 : a.tmps[d]? = a'.tmps[d]? := by
          rcases Nat.lt_or_ge d a.tmps.size with hlt | hge
          · have hlt' : d < a'.tmps.size := by rw [← hz]; exact hlt
            simpa [hlt, hlt'] using h1
          · have hge' : a'.tmps.size ≤ d := by rw [← hz]; exact hge
            rw [Array.getElem?_eq_none hge, Array.getElem?_eq_none hge']
        simp [h2]
    simp only [e]
theorem yields_agree {C : World → Prop} {v : Value} (hs : ∀ cs b, o.op ≠ .select cs b) (hz : a.tmps.size = a'.tmps.size) (h : ∀ t ∈ o.looksAt ops, a.tmps.getD t undef = a'.tmps.getD t undef) (hy : YieldsQuiet F n P ops C o v a) : YieldsQuiet F n P ops C o v a' := by
  refine hy.of_same (execOp_agree hs h).symm (wanted_agree hz h).symm (fun w => (about_agree w h).symm)

/-- Values put in, one behind another. -/
def putAll : Act → List Oper → List Value → Act
  | a, o :: l, v :: vs => putAll (a.put o.dst v) l vs
  | a, _, _ => a
theorem putAll_snoc : ∀ {l : List Oper} {vs : List Value} {a : Act} {m : Nat} {o : Oper} {v : Value}, l[m]? = some o → vs[m]? = some v → putAll a (l.take (m + 1)) (vs.take (m + 1)) = (putAll a (l.take m) (vs.take m)).put o.dst v
  | [], _, _, _, _, _, h, _ => by simp at h
  | _ :: _, [], _, _, _, _, _, h => by simp at h
  | o' :: l, v' :: vs, a, 0, o, v, h, h' => by simp at h h'; subst h h'; simp [putAll]
  | o' :: l, v' :: vs, a, m + 1, o, v, h, h' => by
    simp only [List.take_succ_cons, putAll]
    exact putAll_snoc (by simpa using h) (by simpa using h')
theorem lex_vals {C : World → Prop} {Q : Act → Prop} : ∀ (seg : List Oper) (a : Act), wpQuietIn F n P ops C Q seg a →
    ∃ vs : List Value, vs.length = seg.length ∧ Q (putAll a seg vs) ∧ ∀ i o v, seg[i]? = some o → vs[i]? = some v → YieldsQuiet F n P ops C o v (putAll a (seg.take i) (vs.take i))
  | [], a, h => ⟨[], rfl, h, fun i o v ho => by simp at ho⟩
  | o :: seg, a, h => by
    obtain ⟨ha, h2⟩ := h
    have main : ∃ v, YieldsQuiet F n P ops C o v a ∧ wpQuietIn F n P ops C Q seg (a.put o.dst v) := by
      by_cases hw : Region.wanted o (yielded ops a.tmps) = true
      · rw [if_pos hw] at h2
        obtain ⟨v, h3, h4⟩ := h2
        exact ⟨v, ⟨ha, .inl ⟨hw, h3⟩⟩, h4⟩
      · rw [if_neg hw] at h2
        exact ⟨undef, ⟨ha, .inr ⟨by simpa using hw, rfl⟩⟩, h2⟩
    obtain ⟨v, hy, h4⟩ := main
    obtain ⟨vs, h5, h6, h7⟩ := lex_vals seg _ h4
    refine ⟨v :: vs, by simp [h5], h6, fun i o' v' ho hv => ?_⟩
    cases i with
    | zero => simp at ho hv; subst ho hv; exact hy
    | succ i => exact h7 i o' v' (by simpa using ho) (by simpa using hv)
end

/-- The look of such a region. -/
def freshB (l : List Oper) (k j : Nat) : Bool :=
  decide (j < k) && decide (k < l.length) && backB l.toArray && Region.noSelect l.toArray && noDeferB l && Region.sinkB .any l.toArray k && Region.chainB .any l.toArray k &&
  ((List.range k).all fun i => (dstAt l i).isSome && ((List.range k).all fun i' => i == i' || dstAt l i != dstAt l i')) &&
  ((List.range k).all fun i => ((l[i]?).map fun o => (o.looksAt l.toArray).all fun t => (List.range k).all fun i' => dstAt l i' != some t || (i' != j && afterB l i i')).getD false)
/-- The slots are there. -/
def slotsB (l : List Oper) (k sz : Nat) : Bool := (List.range k).all fun i => ((dstAt l i).map fun d => decide (d < sz)).getD false

section
variable {F : Fence} {n : Nat} {P : Program} {Q : Exit → Act → World → Prop} {l : List Oper} {k j : Nat}
structure FreshOk (l : List Oper) (k j : Nat) : Prop where
  jk : j < k
  kl : k < l.length
  back : backB l.toArray = true
  nosel : Region.noSelect l.toArray = true
  nodef : noDeferB l = true
  sink : Region.sinkB .any l.toArray k = true
  chain : Region.chainB .any l.toArray k = true
  own : Own1 l k
  deps : ∀ i, i < k → ∀ o, l[i]? = some o → ∀ t ∈ o.looksAt l.toArray, ∀ i', i' < k → dstAt l i' = some t → i' ≠ j ∧ afterB l i i' = true
theorem freshOk (h : freshB l k j = true) : FreshOk l k j := by
  unfold freshB at h
  simp only [Bool.and_eq_true, decide_eq_true_eq] at h
  obtain ⟨⟨⟨⟨⟨⟨⟨⟨h1, h2⟩, h3⟩, h4⟩, h5⟩, h6⟩, h7⟩, h8⟩, h9⟩ := h
  refine ⟨h1, h2, h3, h4, h5, h6, h7, fun i hi => ?_, fun i hi o ho t ht i' hi' hd => ?_⟩
  · have h := List.all_eq_true.1 h8 i (List.mem_range.2 hi)
    simp only [Bool.and_eq_true] at h
    obtain ⟨d, hd⟩ := Option.isSome_iff_exists.1 h.1
    refine ⟨d, hd, fun i' hi' hd' => ?_⟩
    have h' := List.all_eq_true.1 h.2 i' (List.mem_range.2 hi')
    simp only [Bool.or_eq_true, beq_iff_eq, bne_iff_ne] at h'
    rcases h' with h' | h'
    · exact h'.symm
    · exact absurd (hd.trans hd'.symm) h'
  · have h := List.all_eq_true.1 h9 i (List.mem_range.2 hi)
    rw [ho] at h
    simp only [Option.map_some, Option.getD_some] at h
    have h' := List.all_eq_true.1 (List.all_eq_true.1 h t ht) i' (List.mem_range.2 hi')
    simp only [Bool.or_eq_true, bne_iff_ne, Bool.and_eq_true] at h'
    rcases h' with h' | h'
    · exact absurd hd h'
    · exact h'

theorem afterB_lt (hb : backB l.toArray = true) {i i' : Nat} (h : afterB l i i' = true) : i' < i := by
  unfold afterB at h
  split at h
  · rename_i o ho
    have hi := (List.getElem?_eq_some_iff.1 ho).1
    obtain ⟨e, he, h2⟩ := List.any_eq_true.1 h
    simp only [Bool.and_eq_true, beq_iff_eq] at h2
    have h3 := List.all_eq_true.1 hb i (by simpa using hi)
    rw [show l.toArray[i]? = some o by simpa using ho] at h3
    simp only [Option.map_some, Option.getD_some] at h3
    rw [Array.all_eq_true_iff_forall_mem] at h3
    have h4 := h3 e (by simpa using he)
    simp only [h2.2, Bool.not_true, Bool.false_or, decide_eq_true_eq] at h4
    omega
  · cases h

/-- The values of the head, by its last frame. -/
def valOf (l : List Oper) (AF : Act) (i : Nat) : Value := AF.tmps.getD ((dstAt l i).getD 0) undef

/-- What the walk of the head shows: each operation but j yields its value, in every class of worlds that is shut under growth. -/
theorem head_yields (ok : FreshOk l k j) {a0 AF : Act} {C : World → Prop} (hs : slotsB l k a0.tmps.size = true)
    (h : wpQuietIn F n P l.toArray C (fun a1 => wpQuietIn F n P l.toArray C (fun a2 => a2 = AF) ((l.take k).drop (j + 1)) a1) (l.take j) a0) :
    Desc l k (valOf l AF) a0 (fun i => decide (i < k) && decide (i ≠ j)) AF ∧
    ∀ i, i < k → i ≠ j → ∀ o, l[i]? = some o → ∃ LF, Desc l k (valOf l AF) a0 (fun i' => decide (i' < i) && decide (i' ≠ j)) LF ∧ YieldsQuiet F n P l.toArray C o (valOf l AF i) LF := by
  have hkl := ok.kl
  have hjk := ok.jk
  have hslot : ∀ i, i < k → ∀ d, dstAt l i = some d → d < a0.tmps.size := fun i hi d hd => by
    have := List.all_eq_true.1 hs i (List.mem_range.2 hi)
    rw [hd] at this
    simpa using this
  obtain ⟨vs1, l1, h2, y1⟩ := lex_vals _ _ h
  obtain ⟨vs2, l2, h3, y2⟩ := lex_vals _ _ h2
  have n1 : vs1.length = j := by rw [l1]; simp; omega
  have n2 : vs2.length = k - (j + 1) := by rw [l2]; simp; omega
  obtain ⟨val, hval⟩ : ∃ val : Nat → Value, val = fun i => if i < j then vs1.getD i undef else vs2.getD (i - (j + 1)) undef := ⟨_, rfl⟩
  have D1 : ∀ m, m ≤ j → Desc l k val a0 (fun i' => decide (i' < m) && decide (i' ≠ j)) (putAll a0 ((l.take j).take m) (vs1.take m)) := by
    intro m
    induction m with
    | zero => intro _; simp only [List.take_zero, putAll]; exact Desc.init (fun i _ => by simp)
    | succ m ih =>
      intro hm
      have ho : (l.take j)[m]? = some (l[m]'(by omega)) := by rw [List.getElem?_take_of_lt (by omega)]; exact List.getElem?_eq_getElem _
      have hv : vs1[m]? = some (vs1[m]'(by omega)) := List.getElem?_eq_getElem _
      rw [putAll_snoc ho hv]
      obtain ⟨d, hd, _⟩ := ok.own m (by omega)
      have hdd : (l[m]'(by omega)).dst = some d := by
        unfold dstAt at hd
        rw [List.getElem?_eq_getElem (by omega)] at hd
        exact hd
      have hvm : val m = vs1[m]'(by omega) := by rw [hval]; simp only; rw [if_pos (by omega), List.getD_eq_getElem?_getD, hv]; rfl
      rw [hdd, ← hvm]
      refine ((ih (by omega)).step ok.own (i := m) (by omega) hd (hslot m (by omega) d hd)).sets fun i hi => ?_
      unfold done
      by_cases e : i = m
      · rw [if_pos e, Bool.eq_iff_iff]; simp only [Bool.and_eq_true, decide_eq_true_eq, true_iff]; omega
      · rw [if_neg e, Bool.eq_iff_iff]; simp only [Bool.and_eq_true, decide_eq_true_eq]; omega
  have D2 : ∀ m, m ≤ k - (j + 1) → Desc l k val a0 (fun i' => decide (i' < j + 1 + m) && decide (i' ≠ j)) (putAll (putAll a0 (l.take j) vs1) (((l.take k).drop (j + 1)).take m) (vs2.take m)) := by
    intro m
    induction m with
    | zero =>
      intro _
      simp only [List.take_zero, putAll]
      have h0 := D1 j (Nat.le_refl _)
      have e1 : (l.take j).take j = l.take j := List.take_of_length_le (by rw [List.length_take]; omega)
      have e2 : vs1.take j = vs1 := List.take_of_length_le (by omega)
      rw [e1, e2] at h0
      exact h0.sets fun i hi => by rw [Bool.eq_iff_iff]; simp only [Bool.and_eq_true, decide_eq_true_eq]; omega
    | succ m ih =>
      intro hm
      have hlm : j + 1 + m < l.length := by omega
      have ho : ((l.take k).drop (j + 1))[m]? = some (l[j + 1 + m]'hlm) := by rw [List.getElem?_drop, List.getElem?_take_of_lt (by omega)]; exact List.getElem?_eq_getElem _
      have hv : vs2[m]? = some (vs2[m]'(by omega)) := List.getElem?_eq_getElem _
      rw [putAll_snoc ho hv]
      obtain ⟨d, hd, _⟩ := ok.own (j + 1 + m) (by omega)
      have hdd : (l[j + 1 + m]'hlm).dst = some d := by
        unfold dstAt at hd
        rw [List.getElem?_eq_getElem hlm] at hd
        exact hd
      have hvm : val (j + 1 + m) = vs2[m]'(by omega) := by rw [hval]; simp only; rw [if_neg (by omega), show j + 1 + m - (j + 1) = m by omega, List.getD_eq_getElem?_getD, hv]; rfl
      rw [hdd, ← hvm]
      refine ((ih (by omega)).step ok.own (i := j + 1 + m) (by omega) hd (hslot _ (by omega) d hd)).sets fun i hi => ?_
      unfold done
      by_cases e : i = j + 1 + m
      · rw [if_pos e, Bool.eq_iff_iff]; simp only [Bool.and_eq_true, decide_eq_true_eq, true_iff]; omega
      · rw [if_neg e, Bool.eq_iff_iff]; simp only [Bool.and_eq_true, decide_eq_true_eq]; omega
  have DF : Desc l k val a0 (fun i => decide (i < k) && decide (i ≠ j)) AF := by
    have h0 := D2 (k - (j + 1)) (Nat.le_refl _)
    have e1 : ((l.take k).drop (j + 1)).take (k - (j + 1)) = (l.take k).drop (j + 1) := List.take_of_length_le (by rw [List.length_drop, List.length_take]; omega)
    have e2 : vs2.take (k - (j + 1)) = vs2 := List.take_of_length_le (by omega)
    rw [e1, e2, h3] at h0
    exact h0.sets fun i hi => by rw [Bool.eq_iff_iff]; simp only [Bool.and_eq_true, decide_eq_true_eq]; omega
  have hvv : ∀ i, i < k → i ≠ j → val i = valOf l AF i := fun i hi hij => by
    obtain ⟨d, hd, _⟩ := ok.own i hi
    unfold valOf
    rw [hd]
    exact (DF.set_ i hi (by simp [hi, hij]) d hd).symm
  refine ⟨DF.vals fun i hi hs => hvv i hi (by simpa using (Bool.and_eq_true_iff.1 hs).2), fun i hi hij o ho => ?_⟩
  rcases Nat.lt_or_ge i j with hlt | hge
  · have hv : vs1[i]? = some (vs1[i]'(by omega)) := List.getElem?_eq_getElem _
    have hy := y1 i o _ (by rw [List.getElem?_take_of_lt hlt]; exact ho) hv
    have hvm : val i = vs1[i]'(by omega) := by rw [hval]; simp only; rw [if_pos hlt, List.getD_eq_getElem?_getD, hv]; rfl
    rw [← hvm, hvv i hi hij] at hy
    exact ⟨_, (D1 i (by omega)).vals fun i' hi' hs => hvv i' hi' (by simpa using (Bool.and_eq_true_iff.1 hs).2), hy⟩
  · obtain ⟨m, rfl⟩ : ∃ m, i = j + 1 + m := ⟨i - (j + 1), by omega⟩
    have hv : vs2[m]? = some (vs2[m]'(by omega)) := List.getElem?_eq_getElem _
    have hy := y2 m o _ (by rw [List.getElem?_drop, List.getElem?_take_of_lt (by omega)]; exact ho) hv
    have hvm : val (j + 1 + m) = vs2[m]'(by omega) := by rw [hval]; simp only; rw [if_neg (by omega), show j + 1 + m - (j + 1) = m by omega, List.getD_eq_getElem?_getD, hv]; rfl
    rw [← hvm, hvv _ hi hij] at hy
    exact ⟨_, (D2 m (by omega)).vals fun i' hi' hs => hvv i' hi' (by simpa using (Bool.and_eq_true_iff.1 hs).2), hy⟩

theorem ready_nil_all {ops : Array Oper} {listed : Array Bool} (hb : backB ops = true) (hsz : listed.size = ops.size) (hr : Region.ready .any ops listed = []) : ∀ i, i < ops.size → listed.getD i false = true := by
  refine dag_of_back hb (fun i => listed.getD i false) ?_
  intro i o ho hu
  have hlt : i < listed.size := by rw [hsz]; exact (Array.getElem?_eq_some_iff.1 ho).1
  have hu' : listed.getD i true = false := getD_in hlt hu
  have hno : ¬ i ∈ Region.ready .any ops listed := by rw [hr]; simp
  rw [mem_ready] at hno
  have h2 : ¬ ∀ e ∈ o.after, Region.binds .any e = true → listed.getD e.on false = true := fun h => hno ⟨hu', o, ho, h⟩
  refine Classical.byContradiction fun hc => h2 fun e he hbnd => ?_
  cases hc' : listed.getD e.on false with
  | true => rfl
  | false => exact absurd ⟨e, he, hbnd, hc'⟩ hc

/-- The first of a list of operations. -/
theorem wpListIn_head {ops : Array Oper} {o : Oper} {rest : List Oper} {a : Act} {w : World} {K : Act → World → Prop} (h : wpListIn F n P ops Q (o :: rest) a w) (hK : ∀ a' w', wpListIn F n P ops Q rest a' w' → K a' w') : wpListIn F n P ops (Exit.then K Q) [o] a w := by
  simp only [wpListIn] at h ⊢
  split
  · rename_i hw
    rw [if_pos hw] at h
    unfold Oper.wpIn at h ⊢
    refine ⟨h.1, ?_⟩
    have h4 := h.2
    generalize (o.semAt F.round a.eval).run P w = r at h4 ⊢
    cases r with
    | ok x w' =>
      cases x <;> simp only [Oper.uponIn, Exit.then] at h4 ⊢ <;>
        first
          | exact hK _ _ h4
          | exact ⟨h4.1, CallsIn.mono h4.2 (fun e w'' he => by cases e <;> first | exact hK _ _ he | exact he)⟩
          | exact ⟨h4.1, RoundIn.mono h4.2 (fun e w'' he => by cases e <;> first | exact hK _ _ he | exact he)⟩
          | exact ⟨h4.1, RowsIn.mono h4.2 (fun v w'' he => hK _ _ he)⟩
          | exact h4
    | halt x w' => cases x <;> simp only [Oper.uponIn, Exit.then] at h4 ⊢ <;> exact h4
  · rename_i hw
    rw [if_neg hw] at h
    exact ⟨h.1, hK _ _ h.2⟩

/-- Whether the new block is there yet. -/
def FCls (V : World) (ty : TypeId) (cs : Array Value) (ob : Option Nat) (W : World) : Prop := Below V.heap.size V W ∧ ∀ b, ob = some b → V.heap.size ≤ b ∧ Blk W b ty cs
theorem FCls.grow {V : World} {ty : TypeId} {cs : Array Value} {ob : Option Nat} {W W' : World} (h : FCls V ty cs ob W) (hb : Below W.heap.size W W') : FCls V ty cs ob W' :=
  ⟨h.1.trans (hb.mono h.1.size), fun b e => ⟨(h.2 b e).1, (h.2 b e).2.below hb (h.2 b e).2.lt⟩⟩

/-- THE LAW: a head whose operations are quiet, but for number j, which lays a new block; then a tail. -/
theorem wpIn_region_fresh {id : Nat} {a0 AF : Act} {w V : World} {oj : Oper} {dj : Tmp} (fv : Nat → Value) (ty : TypeId) (cs : Array Value) (k j : Nat)
    (hm : P.follows .mixedOrders = true) (hB : freshB l k j = true) (hs : slotsB l k a0.tmps.size = true) (hoj : l[j]? = some oj) (hdj : oj.dst = some dj) (hgj : oj.guard = none) (hV : Below V.heap.size V w.drew)
    (hq : ∀ C : World → Prop, (∀ W, C W → Below V.heap.size V W) → (∀ W W', C W → Below W.heap.size W W' → C W') → wpQuietIn F n P l.toArray C (fun a1 => wpQuietIn F n P l.toArray C (fun a2 => a2 = AF) ((l.take k).drop (j + 1)) a1) (l.take j) a0)
    (hfresh : ∀ W, Below V.heap.size V W → (∀ f, oj.about P W AF.eval = some f → F.fn f) ∧ (execOp AF.eval oj).run P W = .ok (.value (fv W.heap.size)) (W.alloc (.cells cs ty)))
    (htail : ∀ b W, Below V.heap.size V W → V.heap.size ≤ b → Blk W b ty cs → wpListIn F n P l.toArray Q (l.drop k) (AF.put (some dj) (fv b)) W) : (Code.region id l.toArray true).wpIn F n P Q a0 w := by
  have ok := freshOk hB
  have hnd : noDefer l.toArray := noDefer_of ok.nodef
  have hkl := ok.kl
  have hjk := ok.jk
  have hslot : ∀ i, i < k → ∀ d, dstAt l i = some d → d < a0.tmps.size := fun i hi d hd => by
    have := List.all_eq_true.1 hs i (List.mem_range.2 hi)
    rw [hd] at this
    simpa using this
  have hdj' : dstAt l j = some dj := by unfold dstAt; rw [hoj]; exact hdj
  have hyl : ∀ C : World → Prop, (∀ W, C W → Below V.heap.size V W) → (∀ W W', C W → Below W.heap.size W W' → C W') → _ := fun C h1 h2 => head_yields ok hs (hq C h1 h2)
  have DF := (hyl (fun W => Below V.heap.size V W) (fun _ h => h) (fun W W' h k => h.trans (k.mono h.size))).1
  let vb : Option Nat → Nat → Value := fun ob i => if i = j then fv (ob.getD 0) else valOf l AF i
  let St : Array Bool → Act → World → Prop := fun listed a W =>
    (HeadInv .any l.toArray k listed ∧ (∃ i, i < k ∧ listed.getD i false = false) ∧ ∃ ob : Option Nat, listed.getD j false = ob.isSome ∧ FCls V ty cs ob W ∧ Desc l k (vb ob) a0 (fun i => listed.getD i false) a) ∨
    ∃ m, k ≤ m ∧ m ≤ l.length ∧ listed.size = l.length ∧ (∀ i, i < m → listed.getD i false = true) ∧ (∀ t, m ≤ t → t < l.length → listed.getD t true = false) ∧ wpListIn F n P l.toArray Q (l.drop m) a W
  -- where the head goes on, or is over
  have hgo : ∀ (listed : Array Bool) (a : Act) (W : World) (ob : Option Nat), HeadInv .any l.toArray k listed → listed.getD j false = ob.isSome → FCls V ty cs ob W → Desc l k (vb ob) a0 (fun i => listed.getD i false) a → St listed a W := by
    intro listed a W ob inv hj hc hD
    by_cases hex : ∃ i, i < k ∧ listed.getD i false = false
    · exact .inl ⟨inv, hex, ob, hj, hc, hD⟩
    · have hall : ∀ i, i < k → listed.getD i false = true := fun i hi => by
        cases h : listed.getD i false with
        | true => rfl
        | false => exact absurd ⟨i, hi, h⟩ hex
      rw [hall j hjk] at hj
      obtain ⟨b, rfl⟩ := Option.isSome_iff_exists.1 hj.symm
      obtain ⟨h1, h2⟩ := hc
      obtain ⟨h3, h4⟩ := h2 b rfl
      have hT : Desc l k (vb (some b)) a0 (done (fun i => decide (i < k) && decide (i ≠ j)) j) (AF.put (some dj) (vb (some b) j)) :=
        (DF.vals (val' := vb (some b)) fun i hi hS => by
          have : i ≠ j := by simpa using (Bool.and_eq_true_iff.1 hS).2
          show valOf l AF i = if i = j then _ else _
          rw [if_neg this]).step ok.own hjk hdj' (hslot j hjk dj hdj')
      have hEq : a = AF.put (some dj) (vb (some b) j) := hD.eq (hT.sets fun i hi => by
        rw [hall i hi]
        unfold done
        split
        · rfl
        · rename_i hne; simp [hi, hne]) ok.own
      have hvj : vb (some b) j = fv b := by show (if j = j then _ else _) = _; rw [if_pos rfl]; rfl
      rw [hvj] at hEq
      subst hEq
      exact .inr ⟨k, Nat.le_refl _, by omega, by rw [inv.size]; simp, hall, fun t ht hlt => inv.tail t ht (by simpa using hlt), htail b W h1 h3 h4⟩
  refine wpIn_region_inv hm St ?_ ?_ ?_ ?_
  · rintro listed a W (⟨inv, _⟩ | ⟨m, _, _, h, _⟩)
    · exact inv.size
    · simpa using h
  · refine .inl ⟨⟨by simp, fun j oj _ hl => (by rw [getD_replicate_false] at hl; cases hl), fun t _ ht => getD_in (by simpa using ht) (getD_replicate_false _ _)⟩, ⟨j, hjk, getD_replicate_false _ _⟩, none, getD_replicate_false _ _, ⟨hV, fun b e => by cases e⟩, Desc.init fun i _ => getD_replicate_false _ _⟩
  · rintro listed a W i o ho hu hd (⟨inv, ⟨i0, hi0, hf0⟩, ob, hj, hc, hD⟩ | ⟨m, hkm, hml, hsz, hall, hrest, hwp⟩)
    · have hiN : i < l.toArray.size := (Array.getElem?_eq_some_iff.1 ho).1
      have hmem : i ∈ Region.ready .any l.toArray listed := mem_ready.2 ⟨hu, o, ho, hd⟩
      have hik : i < k := by
        rcases Nat.lt_or_ge i k with h | h
        · exact h
        · exact absurd hmem (tail_waits ok.sink ok.chain (by simpa using hkl) inv _ i0 rfl hi0 (getD_in (by rw [inv.size]; simp; omega) hf0) i h)
      have inv' := inv.set hmem hik
      have hol : l[i]? = some o := by simpa using ho
      have hwait : ∀ i', afterB l i i' = true → listed.getD i' false = true := fun i' h => by
        unfold afterB at h
        rw [hol] at h
        obtain ⟨e, he, h2⟩ := List.any_eq_true.1 h
        simp only [Bool.and_eq_true, beq_iff_eq] at h2
        rw [← h2.1]
        exact hd e (by simpa using he) h2.2
      have hset : ∀ i', (listed.setIfInBounds i true).getD i' false = done (fun i => listed.getD i false) i i' := fun i' => by
        unfold done
        by_cases e : i' = i
        · subst e
          rw [if_pos rfl, Array.getD_eq_getD_getElem?, Array.getElem?_setIfInBounds]
          have : i' < listed.size := by rw [inv.size]; exact hiN
          simp [this]
        · rw [if_neg e, getD_set_ne false (Ne.symm e)]
      have hfalse : listed.getD i false = false := getD_both hu
      by_cases e : i = j
      · subst e
        obtain rfl : oj = o := Option.some.inj (hoj.symm.trans hol)
        have hag : ∀ t ∈ oj.looksAt l.toArray, a.tmps.getD t undef = AF.tmps.getD t undef := fun t ht => by
          have hDF' : Desc l k (vb ob) a0 (fun i' => decide (i' < k) && decide (i' ≠ i)) AF := DF.vals fun i' hi' hS => by
            have : i' ≠ i := by simpa using (Bool.and_eq_true_iff.1 hS).2
            show valOf l AF i' = if i' = i then _ else _
            rw [if_neg this]
          refine hD.agree hDF' ok.own t fun i' hi' hd' => ?_
          obtain ⟨h1, h2⟩ := ok.deps i hik oj hol t ht i' hi' hd'
          rw [hwait i' h2]
          simp [hi', h1]
        obtain ⟨hab, hrun⟩ := hfresh W hc.1
        have hsel : ∀ cs b, oj.op ≠ .select cs b := fun cs b => Region.noSelect_spec ok.nosel i oj cs b ho
        have hwant : Region.wanted oj (yielded l.toArray a.tmps) = true := by unfold Region.wanted; rw [hgj]
        simp only [wpListIn]
        rw [if_pos hwant]
        unfold Oper.wpIn
        refine ⟨fun f hf => hab f (by rw [← about_agree W hag]; exact hf), ?_⟩
        rw [Oper.semAt_eq _ _ _ (hnd i oj ho), execOp_agree hsel hag, hrun]
        show Exit.then _ Q .normal _ _
        have hob : ob = none := by
          rw [hfalse] at hj
          cases ob with
          | none => rfl
          | some b => cases hj
        subst hob
        refine hgo _ _ _ (some W.heap.size) inv' (by rw [hset]; simp [done]) ⟨hc.1.alloc hc.1.size _, fun b hb => by cases hb; exact ⟨hc.1.size, Blk.new W _ _⟩⟩ ?_
        have hD' : Desc l k (vb (some W.heap.size)) a0 (fun i => listed.getD i false) a := hD.vals fun i' hi' hS => by
          have hne : i' ≠ i := fun e => by subst e; rw [hfalse] at hS; cases hS
          show (if i' = i then _ else _) = if i' = i then _ else _
          rw [if_neg hne, if_neg hne]
        have h5 := hD'.step ok.own hik hdj' (hslot i hik dj hdj')
        have hvj : vb (some W.heap.size) i = fv W.heap.size := by show (if i = i then _ else _) = _; rw [if_pos rfl]; rfl
        rw [hvj] at h5
        rw [hdj]
        exact h5.sets fun i' _ => (hset i').symm
      · have hy := (hyl (FCls V ty cs ob) (fun _ h => h.1) (fun W W' h k => h.grow k)).2 i hik e o hol
        obtain ⟨LF, hLF, hyq⟩ := hy
        have hsel : ∀ cs b, o.op ≠ .select cs b := fun cs b => Region.noSelect_spec ok.nosel i o cs b ho
        have hLF' : Desc l k (vb ob) a0 (fun i' => decide (i' < i) && decide (i' ≠ j)) LF := hLF.vals fun i' hi' hS => by
          have : i' ≠ j := by simpa using (Bool.and_eq_true_iff.1 hS).2
          show valOf l AF i' = if i' = j then _ else _
          rw [if_neg this]
        have hag : ∀ t ∈ o.looksAt l.toArray, LF.tmps.getD t undef = a.tmps.getD t undef := fun t ht => by
          refine hLF'.agree hD ok.own t fun i' hi' hd' => ?_
          obtain ⟨h1, h2⟩ := ok.deps i hik o hol t ht i' hi' hd'
          have h3 := afterB_lt ok.back h2
          rw [hwait i' h2]
          simp [h3, h1]
        have hya := yields_agree hsel (hLF'.size.trans hD.size.symm) hag hyq
        obtain ⟨d, hdi, _⟩ := ok.own i hik
        have hdo : o.dst = some d := by unfold dstAt at hdi; rw [hol] at hdi; exact hdi
        have hvi : vb ob i = valOf l AF i := by show (if i = j then _ else _) = _; rw [if_neg e]
        have hnext : ∀ W', FCls V ty cs ob W' → St (listed.setIfInBounds i true) (a.put o.dst (valOf l AF i)) W' := fun W' hW' => by
          refine hgo _ _ _ ob inv' (by rw [hset]; unfold done; rw [if_neg (Ne.symm e)]; exact hj) hW' ?_
          have h5 := hD.step ok.own hik hdi (hslot i hik d hdi)
          rw [hvi] at h5
          rw [hdo]
          exact h5.sets fun i' _ => (hset i').symm
        simp only [wpListIn]
        rcases hya.2 with ⟨hw, hv⟩ | ⟨hw, hv⟩
        · rw [if_pos hw]
          exact wpIn_of_quiet' (K := fun a' => a' = a.put o.dst (valOf l AF i)) (hnd i o ho) hc (fun a' W' hW' ha' => by subst ha'; exact hnext W' hW') hya.1 ⟨_, hv, rfl⟩
        · rw [if_neg (by rw [hw]; simp)]
          refine ⟨hya.1 W hc, ?_⟩
          have := hnext W hc
          rw [hv] at this
          exact this
    · have hiN : i < l.length := by simpa using (Array.getElem?_eq_some_iff.1 ho).1
      have hfalse : listed.getD i false = false := getD_both hu
      have him : m ≤ i := by
        rcases Nat.lt_or_ge i m with h | h
        · rw [hall i h] at hfalse; cases hfalse
        · exact h
      have hie : i = m := by
        rcases Nat.eq_or_lt_of_le him with h | h
        · exact h.symm
        · exfalso
          have h1 := List.all_eq_true.1 ok.chain i (List.mem_range.2 (by simpa using hiN))
          simp only [Bool.or_eq_true, decide_eq_true_eq] at h1
          rcases h1 with h1 | h1
          · omega
          · obtain ⟨o', ho', e, he, hb, hon⟩ := Region.waitsFor_spec h1
            obtain rfl : o' = o := Option.some.inj (ho'.symm.trans ho)
            have h2 := hd e he hb
            rw [hon, getD_both (hrest (i - 1) (by omega) (by omega))] at h2
            cases h2
      subst hie
      have hdrop : l.drop i = o :: l.drop (i + 1) := by
        obtain ⟨h1, h2⟩ := List.getElem?_eq_some_iff.1 (show l[i]? = some o by simpa using ho)
        rw [List.drop_eq_getElem_cons h1, h2]
      rw [hdrop] at hwp
      refine wpListIn_head hwp fun a' W' h' => .inr ⟨i + 1, by omega, by omega, by simpa using hsz, fun i' hi' => ?_, fun t ht hlt => ?_, h'⟩
      · by_cases e : i' = i
        · subst e
          have : i' < listed.size := by omega
          rw [Array.getD_eq_getD_getElem?, Array.getElem?_setIfInBounds]
          simp [this]
        · rw [getD_set_ne false (Ne.symm e)]
          exact hall i' (by omega)
      · rw [getD_set_ne true (by omega)]
        exact hrest t (by omega) hlt
  · rintro listed a W hr (⟨inv, ⟨i0, hi0, hf0⟩, _⟩ | ⟨m, hkm, hml, hsz, hall, hrest, hwp⟩)
    · have := ready_nil_all ok.back inv.size hr i0 (by simp; omega)
      rw [this] at hf0
      cases hf0
    · have hmN : m = l.length := by
        rcases Nat.eq_or_lt_of_le hml with h | h
        · exact h
        · exfalso
          have h1 := ready_nil_all ok.back (by simpa using hsz) hr m (by simpa using h)
          rw [getD_both (hrest m (Nat.le_refl _) h)] at h1
          cases h1
      subst hmN
      rw [List.drop_length] at hwp
      exact hwp
end
end Go.Proofs.YtahkjagjcogeiaaDoor
/- A region that draws its order: quiet operations, one that lays a new block (or none), and effects one behind the other; quiet ones may come late. -/
namespace Go.Proofs.YtahkjagjcogeiaaDoor
open Go.RowKit
set_option linter.unusedVariables false

def pick (l : List Oper) (qs : List Nat) : List Oper := qs.filterMap fun i => l[i]?
def upS (l : List Nat) : Bool := match l with
  | [] => true
  | x :: r => r.all (fun y => decide (x < y)) && upS r
theorem upS_pair : ∀ {l : List Nat}, upS l = true → l.Pairwise (· < ·)
  | [], _ => .nil
  | x :: r, h => by
    simp only [upS, Bool.and_eq_true] at h
    exact .cons (fun y hy => by simpa using List.all_eq_true.1 h.1 y hy) (upS_pair h.2)

/-- Operations that make no call. -/
def floatB (o : Oper) : Bool := match o.op with
  | .move _ | .assign _ | .pick _ _ _ | .build _ _ | .load _ _ | .binOp _ _ _ _ _ | .unOp _ _ _ | .fieldAddr _ _ _ | .field _ _ _ | .indexAddr _ _ _ | .index _ _ _ | .extract _ _ => true
  | _ => false
theorem value_noenter {P : Program} {w w' : World} {s : Sem Value} {f : FuncId} {args : Array Value} (h : ((do pure (Next.value (← s))) : Sem Next).run P w = .ok (.enter f args) w') : False := by
  rw [Sem.run_bind] at h
  cases hs : s.run P w with
  | ok x w2 => rw [hs] at h; simp [Result.andThen, Sem.run_pure] at h
  | halt x w2 => rw [hs] at h; simp [Result.andThen] at h
theorem float_noenter {P : Program} {ρ : Operand → Value} {o : Oper} {w w' : World} {f : FuncId} {args : Array Value} (hf : floatB o = true) (h : (execOp ρ o).run P w = .ok (.enter f args) w') : False := by
  obtain ⟨dst, op, type, pos, after, guard⟩ := o
  unfold floatB at hf
  cases op <;> simp only at hf <;> first | cases hf | skip
  all_goals
    simp only [execOp] at h
    first
      | exact value_noenter h
      | (simp [Sem.run_pure] at h; done)
      | (rw [Sem.run_bind] at h
         generalize (asBool _).run P w = r at h
         cases r <;> simp [Result.andThen, Sem.run_pure] at h)

/-- The look of such a region: quiet ones qs, effects es, the new block's j (beyond the end: none). -/
def mixB (l : List Oper) (qs es : List Nat) (j : Nat) : Bool :=
  upS qs && upS es && backB l.toArray && Region.noSelect l.toArray && noDeferB l &&
  (qs.all fun i => decide (i < l.length) && i != j && !es.contains i) && (es.all fun i => decide (i < l.length) && i != j) &&
  ((List.range l.length).all fun i => qs.contains i || es.contains i || i == j) &&
  ((List.range l.length).all fun i => es.contains i || ((dstAt l i).isSome && ((List.range l.length).all fun i' => i == i' || dstAt l i != dstAt l i'))) &&
  ((List.range l.length).all fun i => ((l[i]?).map fun o => (o.looksAt l.toArray).all fun t => (List.range l.length).all fun i' => dstAt l i' != some t || (afterB l i i' && (es.contains i || qs.contains i'))).getD false) &&
  (es.all fun e => es.all fun e' => decide (e ≤ e') || afterB l e e') && (es.all fun e => decide (l.length ≤ j) || afterB l e j) &&
  (qs.all fun i => ((l[i]?).map floatB).getD false || es.all fun e => afterB l e i) && (es.all fun e => (dstAt l e).isNone)
structure MixOk (l : List Oper) (qs es : List Nat) (j : Nat) : Prop where
  up : qs.Pairwise (· < ·)
  upE : es.Pairwise (· < ·)
  back : backB l.toArray = true
  nosel : Region.noSelect l.toArray = true
  nodef : noDeferB l = true
  q : ∀ i ∈ qs, i < l.length ∧ i ≠ j ∧ i ∉ es
  e : ∀ i ∈ es, i < l.length ∧ i ≠ j
  part : ∀ i, i < l.length → i ∈ qs ∨ i ∈ es ∨ i = j
  own : ∀ i, i < l.length → i ∉ es → ∃ d, dstAt l i = some d ∧ ∀ i', i' < l.length → dstAt l i' = some d → i' = i
  deps : ∀ i, i < l.length → ∀ o, l[i]? = some o → ∀ t ∈ o.looksAt l.toArray, ∀ i', i' < l.length → dstAt l i' = some t → afterB l i i' = true ∧ (i ∉ es → i' ∈ qs)
  chain : ∀ e ∈ es, ∀ e' ∈ es, e' < e → afterB l e e' = true
  fresh : ∀ e ∈ es, j < l.length → afterB l e j = true
  floats : ∀ i ∈ qs, ∀ o, l[i]? = some o → floatB o = true ∨ ∀ e ∈ es, afterB l e i = true
  edst : ∀ e ∈ es, dstAt l e = none
theorem mixOk {l : List Oper} {qs es : List Nat} {j : Nat} (h : mixB l qs es j = true) : MixOk l qs es j := by
  unfold mixB at h
  simp only [Bool.and_eq_true] at h
  obtain ⟨⟨⟨⟨⟨⟨⟨⟨⟨⟨⟨⟨⟨h1, h2⟩, h3⟩, h4⟩, h5⟩, h6⟩, h7⟩, h8⟩, h9⟩, h10⟩, h11⟩, h12⟩, h13⟩, h14⟩ := h
  refine ⟨upS_pair h1, upS_pair h2, h3, h4, h5, fun i hi => ?_, fun i hi => ?_, fun i hi => ?_, fun i hi hne => ?_, fun i hi o ho t ht i' hi' hd => ?_, fun e he e' he' hlt => ?_, fun e he hj => ?_, fun i hi o ho => ?_, fun e he => ?_⟩
  · have := List.all_eq_true.1 h6 i hi
    simp only [Bool.and_eq_true, decide_eq_true_eq, bne_iff_ne, Bool.not_eq_true', List.contains_eq_mem, decide_eq_false_iff_not] at this
    exact ⟨this.1.1, this.1.2, this.2⟩
  · have := List.all_eq_true.1 h7 i hi
    simp only [Bool.and_eq_true, decide_eq_true_eq, bne_iff_ne] at this
    exact this
  · have := List.all_eq_true.1 h8 i (List.mem_range.2 hi)
    simp only [Bool.or_eq_true, List.contains_eq_mem, decide_eq_true_eq, beq_iff_eq] at this
    rcases this with (h | h) | h
    · exact .inl h
    · exact .inr (.inl h)
    · exact .inr (.inr h)
  · have h := List.all_eq_true.1 h9 i (List.mem_range.2 hi)
    simp only [Bool.or_eq_true, List.contains_eq_mem, decide_eq_true_eq] at h
    rcases h with h | h
    · exact absurd h hne
    · simp only [Bool.and_eq_true] at h
      obtain ⟨d, hd⟩ := Option.isSome_iff_exists.1 h.1
      refine ⟨d, hd, fun i' hi' hd' => ?_⟩
      have h' := List.all_eq_true.1 h.2 i' (List.mem_range.2 hi')
      simp only [Bool.or_eq_true, beq_iff_eq, bne_iff_ne] at h'
      rcases h' with h' | h'
      · exact h'.symm
      · exact absurd (hd.trans hd'.symm) h'
  · have h := List.all_eq_true.1 h10 i (List.mem_range.2 hi)
    rw [ho] at h
    simp only [Option.map_some, Option.getD_some] at h
    have h' := List.all_eq_true.1 (List.all_eq_true.1 h t ht) i' (List.mem_range.2 hi')
    simp only [Bool.or_eq_true, bne_iff_ne, Bool.and_eq_true, List.contains_eq_mem, decide_eq_true_eq] at h'
    rcases h' with h' | h'
    · exact absurd hd h'
    · exact ⟨h'.1, fun hn => h'.2.resolve_left hn⟩
  · have := List.all_eq_true.1 (List.all_eq_true.1 h11 e he) e' he'
    simp only [Bool.or_eq_true, decide_eq_true_eq] at this
    exact this.resolve_left (by omega)
  · have := List.all_eq_true.1 h12 e he
    simp only [Bool.or_eq_true, decide_eq_true_eq] at this
    exact this.resolve_left (by omega)
  · have := List.all_eq_true.1 h13 i hi
    rw [ho] at this
    simp only [Option.map_some, Option.getD_some, Bool.or_eq_true] at this
    rcases this with h | h
    · exact .inl h
    · exact .inr fun e he => List.all_eq_true.1 h e he
  · have := List.all_eq_true.1 h14 e he
    simpa using this

/-- The slots are there. -/
def slotsM (l : List Oper) (sz : Nat) : Bool := (List.range l.length).all fun i => ((dstAt l i).map fun d => decide (d < sz)).getD true

section
variable {F : Fence} {n : Nat} {P : Program} {l : List Oper} {qs es : List Nat} {j : Nat}
/-- The frame with the slots of the quiet operations S set. -/
structure DescM (l : List Oper) (qs : List Nat) (val : Nat → Value) (a0 : Act) (S : Nat → Bool) (a : Act) : Prop where
  defers : a.defers = a0.defers
  size : a.tmps.size = a0.tmps.size
  set_ : ∀ i ∈ qs, S i = true → ∀ d, dstAt l i = some d → a.tmps.getD d undef = val i
  other : ∀ t, (∀ i ∈ qs, S i = true → dstAt l i ≠ some t) → a.tmps.getD t undef = a0.tmps.getD t undef
def OwnQ (l : List Oper) (qs : List Nat) : Prop := ∀ i ∈ qs, ∃ d, dstAt l i = some d ∧ ∀ i' ∈ qs, dstAt l i' = some d → i' = i
theorem MixOk.ownQ (ok : MixOk l qs es j) : OwnQ l qs := fun i hi => by
  obtain ⟨d, hd, h⟩ := ok.own i (ok.q i hi).1 (ok.q i hi).2.2
  exact ⟨d, hd, fun i' hi' hd' => h i' (ok.q i' hi').1 hd'⟩
section
variable {val : Nat → Value} {a0 a a' : Act} {S S' : Nat → Bool}
theorem DescM.init (hS : ∀ i ∈ qs, S i = false) : DescM l qs val a0 S a0 := ⟨rfl, rfl, (fun i hi h => by rw [hS i hi] at h; cases h), fun _ _ => rfl⟩
theorem DescM.step (h : DescM l qs val a0 S a) (ho : OwnQ l qs) {i : Nat} (hi : i ∈ qs) {d : Tmp} (hd : dstAt l i = some d) (hsz : d < a0.tmps.size) : DescM l qs val a0 (done S i) (a.put (some d) (val i)) := by
  refine ⟨h.defers, by simp [Act.put, h.size], fun i' hi' hS d' hd' => ?_, fun t ht => ?_⟩
  · by_cases e : i' = i
    · subst e
      rw [hd] at hd'
      cases hd'
      exact getD_set_same _ _ _ (by rw [h.size]; exact hsz)
    · have hne : d ≠ d' := by
        intro e'
        subst e'
        obtain ⟨d2, h1, h2⟩ := ho i hi
        rw [hd] at h1
        cases h1
        exact e (h2 i' hi' hd')
      rw [show (a.put (some d) (val i)).tmps = a.tmps.setIfInBounds d (val i) from rfl, getD_set_other _ _ hne]
      exact h.set_ i' hi' (by simpa [done, e] using hS) d' hd'
  · have hne : d ≠ t := fun e => ht i hi (by simp [done]) (by rw [hd, e])
    rw [show (a.put (some d) (val i)).tmps = a.tmps.setIfInBounds d (val i) from rfl, getD_set_other _ _ hne]
    refine h.other t fun i' hi' hS => ht i' hi' ?_
    unfold done
    split
    · rfl
    · exact hS
theorem DescM.vals {val' : Nat → Value} (h : DescM l qs val a0 S a) (hv : ∀ i ∈ qs, S i = true → val i = val' i) : DescM l qs val' a0 S a := ⟨h.defers, h.size, fun i hi hs d hd => (h.set_ i hi hs d hd).trans (hv i hi hs), h.other⟩
theorem DescM.sets {S'' : Nat → Bool} (h : DescM l qs val a0 S a) (hv : ∀ i ∈ qs, S i = S'' i) : DescM l qs val a0 S'' a := ⟨h.defers, h.size, fun i hi hs => h.set_ i hi ((hv i hi).trans hs), fun t ht => h.other t fun i hi hs => ht i hi ((hv i hi).symm.trans hs)⟩
end

/-- What the walk of the quiet ones shows. -/
theorem quiet_yields (ok : MixOk l qs es j) {a0 AF : Act} {C : World → Prop} (hs : slotsM l a0.tmps.size = true)
    (h : wpQuietIn F n P l.toArray C (fun a2 => a2 = AF) (pick l qs) a0) :
    DescM l qs (valOf l AF) a0 (fun _ => true) AF ∧
    ∀ i ∈ qs, ∀ o, l[i]? = some o → ∃ LF, DescM l qs (valOf l AF) a0 (fun i' => decide (i' < i)) LF ∧ YieldsQuiet F n P l.toArray C o (valOf l AF i) LF := by
  have hslot : ∀ i ∈ qs, ∀ d, dstAt l i = some d → d < a0.tmps.size := fun i hi d hd => by
    have := List.all_eq_true.1 hs i (List.mem_range.2 (ok.q i hi).1)
    rw [hd] at this
    simpa using this
  obtain ⟨vs, l1, h2, y1⟩ := lex_vals _ _ h
  have hpick : ∀ (rs : List Nat), (∀ i ∈ rs, i < l.length) → pick l rs = rs.filterMap (fun i => l[i]?) ∧ (pick l rs).length = rs.length ∧ ∀ (m i : Nat), rs[m]? = some i → (pick l rs)[m]? = l[i]? := by
    intro rs
    induction rs with
    | nil => intro _; exact ⟨rfl, rfl, fun m i hm => by simp at hm⟩
    | cons r rs ih =>
      intro hr
      obtain ⟨_, i2, i3⟩ := ih (fun i hi => hr i (by simp [hi]))
      have hlt := hr r (by simp)
      have e : pick l (r :: rs) = l[r] :: pick l rs := by
        unfold pick
        rw [List.filterMap_cons, List.getElem?_eq_getElem hlt]
      refine ⟨rfl, by rw [e]; simp [i2], fun m i hm => ?_⟩
      rw [e]
      cases m with
      | zero => simp at hm; subst hm; simp [hlt]
      | succ m => simpa using i3 m i (by simpa using hm)
  obtain ⟨_, p2, p3⟩ := hpick qs (fun i hi => (ok.q i hi).1)
  have n1 : vs.length = qs.length := by rw [l1, p2]
  obtain ⟨val, hval⟩ : ∃ val : Nat → Value, val = fun i => vs.getD (qs.idxOf i) undef := ⟨_, rfl⟩
  have hnd : qs.Nodup := ok.up.imp (fun h e => by omega)
  have hidx : ∀ (m i : Nat), qs[m]? = some i → qs.idxOf i = m := fun m i hm => by
    obtain ⟨h1, h2⟩ := List.getElem?_eq_some_iff.1 hm
    rw [← h2]
    exact hnd.idxOf_getElem m h1
  have D1 : ∀ m, m ≤ qs.length → DescM l qs val a0 (fun i' => decide (qs.idxOf i' < m)) (putAll a0 ((pick l qs).take m) (vs.take m)) := by
    intro m
    induction m with
    | zero => intro _; simp only [List.take_zero, putAll]; exact DescM.init (fun i _ => by simp)
    | succ m ih =>
      intro hm
      have hqm : qs[m]? = some (qs[m]'(by omega)) := List.getElem?_eq_getElem _
      have hmem : qs[m]'(by omega) ∈ qs := List.getElem_mem _
      have hlt := (ok.q _ hmem).1
      have ho : (pick l qs)[m]? = some (l[qs[m]'(by omega)]'hlt) := by rw [p3 m _ hqm]; exact List.getElem?_eq_getElem _
      have hv : vs[m]? = some (vs[m]'(by omega)) := List.getElem?_eq_getElem _
      rw [putAll_snoc ho hv]
      obtain ⟨d, hd, _⟩ := ok.ownQ _ hmem
      have hdd : (l[qs[m]'(by omega)]'hlt).dst = some d := by
        unfold dstAt at hd
        rw [List.getElem?_eq_getElem hlt] at hd
        exact hd
      have hvm : val (qs[m]'(by omega)) = vs[m]'(by omega) := by rw [hval]; simp only; rw [hidx m _ hqm, List.getD_eq_getElem?_getD, hv]; rfl
      rw [hdd, ← hvm]
      refine ((ih (by omega)).step ok.ownQ hmem hd (hslot _ hmem d hd)).sets fun i hi => ?_
      obtain ⟨m', hm'⟩ := List.getElem?_of_mem hi
      have hi' := hidx m' i hm'
      unfold done
      by_cases e : i = qs[m]'(by omega)
      · rw [if_pos e, e, hidx m _ hqm]; simp
      · have hne : m' ≠ m := fun e' => by subst e'; exact e (by rw [hqm] at hm'; exact (Option.some.inj hm').symm)
        rw [if_neg e, hi', Bool.eq_iff_iff]; simp only [decide_eq_true_eq]; omega
  have hAF : putAll a0 (pick l qs) vs = AF := h2
  have DF : DescM l qs val a0 (fun _ => true) AF := by
    have h0 := D1 qs.length (Nat.le_refl _)
    have e1 : (pick l qs).take qs.length = pick l qs := List.take_of_length_le (by rw [p2]; exact Nat.le_refl _)
    have e2 : vs.take qs.length = vs := List.take_of_length_le (by omega)
    rw [e1, e2, hAF] at h0
    exact h0.sets fun i hi => by simp [List.idxOf_lt_length_iff.2 hi]
  have hvv : ∀ i ∈ qs, val i = valOf l AF i := fun i hi => by
    obtain ⟨d, hd, _⟩ := ok.ownQ i hi
    unfold valOf
    rw [hd]
    exact (DF.set_ i hi rfl d hd).symm
  refine ⟨DF.vals fun i hi _ => hvv i hi, fun i hi o ho => ?_⟩
  obtain ⟨m, hm⟩ := List.getElem?_of_mem hi
  have hml := (List.getElem?_eq_some_iff.1 hm).1
  have hv : vs[m]? = some (vs[m]'(by omega)) := List.getElem?_eq_getElem _
  have hy := y1 m o _ (by rw [p3 m i hm]; exact ho) hv
  have hvm : val i = vs[m]'(by omega) := by rw [hval]; simp only; rw [hidx m i hm, List.getD_eq_getElem?_getD, hv]; rfl
  rw [← hvm, hvv i hi] at hy
  refine ⟨_, ((D1 m (by omega)).vals fun i' hi' _ => hvv i' hi').sets fun i' hi' => ?_, hy⟩
  obtain ⟨m', hm'⟩ := List.getElem?_of_mem hi'
  rw [hidx m' i' hm', Bool.eq_iff_iff]
  simp only [decide_eq_true_eq]
  obtain ⟨a1, a2⟩ := List.getElem?_eq_some_iff.1 hm
  obtain ⟨b1, b2⟩ := List.getElem?_eq_some_iff.1 hm'
  have hp := List.pairwise_iff_getElem.1 ok.up
  constructor
  · intro h3
    have := hp m' m b1 a1 h3
    omega
  · intro h3
    rcases Nat.lt_trichotomy m' m with h4 | h4 | h4
    · exact h4
    · subst h4; rw [hm] at hm'; cases hm'; omega
    · have := hp m m' a1 b1 h4; omega

/-- Two frames that are alike but for some slots. -/
structure Rel (M : Tmp → Prop) (a A : Act) : Prop where
  defers : a.defers = A.defers
  size : a.tmps.size = A.tmps.size
  same : ∀ t, ¬ M t → a.tmps.getD t undef = A.tmps.getD t undef

theorem wpListIn_rel {ops : Array Oper} {o : Oper} {a A : Act} {W : World} {M : Tmp → Prop} {K K' : Act → World → Prop} {Q : Exit → Act → World → Prop} (hsel : ∀ cs b, o.op ≠ .select cs b) (hnd : ∀ c, o.op ≠ .defer c) (hdst : o.dst = none) (hR : Rel M a A) (hag : ∀ t ∈ o.looksAt ops, ¬ M t)
    (h : wpListIn F n P ops (Exit.then K (fun _ _ _ => False)) [o] A W) (hK : ∀ A' a' W', A'.tmps = A.tmps → a'.tmps = a.tmps → a'.defers = A'.defers → K A' W' → K' a' W') : wpListIn F n P ops (Exit.then K' Q) [o] a W := by
  have hag' : ∀ t ∈ o.looksAt ops, A.tmps.getD t undef = a.tmps.getD t undef := fun t ht => (hR.same t (hag t ht)).symm
  simp only [wpListIn] at h ⊢
  rw [wanted_agree hR.size.symm hag'] at h
  split
  · rename_i hw
    rw [if_pos hw] at h
    unfold Oper.wpIn at h ⊢
    rw [Oper.semAt_eq _ _ _ hnd] at h ⊢
    rw [execOp_agree hsel hag'] at h
    refine ⟨fun f hf => h.1 f (by rw [about_agree W hag']; exact hf), ?_⟩
    have h4 := h.2
    generalize (execOp a.eval o).run P W = r at h4 ⊢
    cases r with
    | ok x w' =>
      cases x <;> simp only [Oper.uponIn, Exit.then, hdst, Act.put] at h4 ⊢ <;>
        first
          | exact hK _ _ _ rfl rfl hR.defers h4
          | (refine hK _ _ _ ?_ ?_ ?_ h4 <;> simp [hR.defers]; done)
          | exact ⟨h4.1, CallsIn.mono h4.2 (fun e w'' he => by cases e <;> first | exact hK _ _ _ rfl rfl hR.defers he | exact False.elim he | (obtain ⟨_, _, he⟩ := he; exact False.elim he))⟩
          | exact ⟨h4.1, RoundIn.mono h4.2 (fun e w'' he => by cases e <;> first | exact hK _ _ _ rfl rfl hR.defers he | exact False.elim he | (obtain ⟨_, _, he⟩ := he; exact False.elim he))⟩
          | exact ⟨h4.1, RowsIn.mono h4.2 (fun v w'' he => hK _ _ _ rfl rfl hR.defers he)⟩
          | exact h4
          | exact False.elim h4
    | halt x w' => cases x <;> simp only [Oper.uponIn, Exit.then] at h4 ⊢ <;> first | exact h4 | exact False.elim h4
  · rename_i hw
    rw [if_neg hw] at h
    refine ⟨fun f hf => h.1 f (by rw [about_agree W hag']; exact hf), ?_⟩
    have h2 := h.2
    rw [hdst] at h2 ⊢
    exact hK _ _ _ rfl rfl hR.defers h2

/-- The effects, one behind the other, each in a world of the class, leaving one. -/
def wpE (F : Fence) (n : Nat) (P : Program) (ops : Array Oper) (CV : World → Prop) (Qn : Act → World → Prop) : List Oper → Act → World → Prop
  | [], a, w => Qn a w
  | o :: r, a, w => wpListIn F n P ops (Exit.then (fun a' w' => CV w' ∧ wpE F n P ops CV Qn r a' w') (fun _ _ _ => False)) [o] a w

theorem pick_cons {l : List Oper} {i : Nat} {o : Oper} {r : List Nat} (h : l[i]? = some o) : pick l (i :: r) = o :: pick l r := by
  unfold pick
  rw [List.filterMap_cons, h]

/-- THE LAW. -/
theorem wpIn_region_mix {Q : Exit → Act → World → Prop} {id : Nat} {a0 AF : Act} {w V : World} (fv : Nat → Value) (ty : TypeId) (cs : Array Value) (qs es : List Nat) (j : Nat) (dj : Tmp)
    (hm : P.follows .mixedOrders = true) (hB : mixB l qs es j = true) (hs : slotsM l a0.tmps.size = true) (hV : Below V.heap.size V w.drew)
    (hj : j < l.length → ∃ oj, l[j]? = some oj ∧ oj.dst = some dj ∧ oj.guard = none ∧ ∀ W, Below V.heap.size V W → (∀ f, oj.about P W AF.eval = some f → F.fn f) ∧ (execOp AF.eval oj).run P W = .ok (.value (fv W.heap.size)) (W.alloc (.cells cs ty)))
    (hq : ∀ C : World → Prop, (∃ W, C W) → (∀ W, C W → Below V.heap.size V W) → (∀ W W', C W → Below W.heap.size W W' → C W') → wpQuietIn F n P l.toArray C (fun a2 => a2 = AF) (pick l qs) a0)
    (htail : ∀ b W, Below V.heap.size V W → (j < l.length → V.heap.size ≤ b ∧ Blk W b ty cs) → wpE F n P l.toArray (fun W => Below V.heap.size V W) (Q .normal) (pick l es) (if j < l.length then AF.put (some dj) (fv b) else AF) W) :
    (Code.region id l.toArray true).wpIn F n P Q a0 w := by
  have ok := mixOk hB
  have hnd : noDefer l.toArray := noDefer_of ok.nodef
  have hyl : ∀ C : World → Prop, (∃ W, C W) → (∀ W, C W → Below V.heap.size V W) → (∀ W W', C W → Below W.heap.size W W' → C W') → _ := fun C h0 h1 h2 => quiet_yields ok hs (hq C h0 h1 h2)
  have DF := (hyl (fun W => Below V.heap.size V W) ⟨_, hV⟩ (fun _ h => h) (fun W W' h k => h.trans (k.mono h.size))).1
  have hslot : ∀ i, i < l.length → ∀ d, dstAt l i = some d → d < a0.tmps.size := fun i hi d hd => by
    have := List.all_eq_true.1 hs i (List.mem_range.2 hi)
    rw [hd] at this
    simpa using this
  have hje : j < l.length → j ∉ es := fun hlt he => (ok.e j he).2 rfl
  have hdj : j < l.length → dstAt l j = some dj := fun hlt => by
    obtain ⟨oj, h1, h2, _⟩ := hj hlt
    unfold dstAt; rw [h1]; exact h2
  let js : List Nat := if j < l.length then j :: qs else qs
  let vb : Option Nat → Nat → Value := fun ob i => if i = j then fv (ob.getD 0) else valOf l AF i
  have hjs : ∀ i, i ∈ js ↔ i ∈ qs ∨ (i = j ∧ j < l.length) := fun i => by
    show i ∈ (if j < l.length then j :: qs else qs) ↔ _
    by_cases h : j < l.length
    · rw [if_pos h]; simp [h]; exact Or.comm
    · rw [if_neg h]; simp [h]
  have hjlt : ∀ i ∈ js, i < l.length ∧ i ∉ es := fun i hi => by
    rcases (hjs i).1 hi with h | ⟨h1, h2⟩
    · exact ⟨(ok.q i h).1, (ok.q i h).2.2⟩
    · rw [h1]; exact ⟨h2, hje h2⟩
  have ownJ : OwnQ l js := fun i hi => by
    obtain ⟨d, hd, h⟩ := ok.own i (hjlt i hi).1 (hjlt i hi).2
    exact ⟨d, hd, fun i' hi' hd' => h i' (hjlt i' hi').1 hd'⟩
  have hvq : ∀ ob, ∀ i ∈ qs, vb ob i = valOf l AF i := fun ob i hi => by
    show (if i = j then _ else _) = _
    rw [if_neg (ok.q i hi).2.1]
  let CV : World → Prop := fun W => Below V.heap.size V W
  let Miss : Array Bool → Tmp → Prop := fun listed t => ∃ i ∈ qs, listed.getD i false = false ∧ dstAt l i = some t
  let Star : Act → Prop := fun A => A.tmps.size = a0.tmps.size ∧ (∀ i ∈ qs, ∀ d, dstAt l i = some d → A.tmps.getD d undef = valOf l AF i) ∧ ∀ t, (∀ i, i < l.length → dstAt l i ≠ some t) → A.tmps.getD t undef = a0.tmps.getD t undef
  let StA : Array Bool → Act → World → Prop := fun listed a W => listed.size = l.length ∧ (∀ e ∈ es, listed.getD e false = false) ∧ ∃ ob : Option Nat, (j < l.length → listed.getD j false = ob.isSome) ∧ (l.length ≤ j → ob = none) ∧ FCls V ty cs ob W ∧ DescM l js (vb ob) a0 (fun i => listed.getD i false) a
  let StB : Array Bool → Act → World → Prop := fun listed a W => ∃ (A : Act) (m : Nat), listed.size = l.length ∧ m ≤ es.length ∧ (∀ e ∈ es.take m, listed.getD e false = true) ∧ (∀ e ∈ es.drop m, listed.getD e false = false) ∧ (j < l.length → listed.getD j false = true) ∧ CV W ∧ Rel (Miss listed) a A ∧ Star A ∧
    (∀ i ∈ qs, listed.getD i false = false → ∀ o, l[i]? = some o → floatB o = true) ∧ wpE F n P l.toArray CV (Q .normal) (pick l (es.drop m)) A W
  have toB : ∀ listed a W, StA listed a W → (j < l.length → listed.getD j false = true) → (∀ i ∈ qs, listed.getD i false = false → ∀ o, l[i]? = some o → floatB o = true) → StB listed a W := by
    rintro listed a W ⟨hsz, hes, ob, h1, h2, hc, hD⟩ hjl hfl
    have hfacts : ∃ b, (j < l.length → ob = some b) ∧ (j < l.length → V.heap.size ≤ b ∧ Blk W b ty cs) := by
      by_cases h : j < l.length
      · have h3 := h1 h
        rw [hjl h] at h3
        obtain ⟨b, rfl⟩ := Option.isSome_iff_exists.1 h3.symm
        exact ⟨b, fun _ => rfl, fun _ => hc.2 b rfl⟩
      · exact ⟨0, fun h' => absurd h' h, fun h' => absurd h' h⟩
    obtain ⟨b, hob, hblk⟩ := hfacts
    have hw := htail b W hc.1 hblk
    refine ⟨_, 0, hsz, Nat.zero_le _, (fun e he => by simp at he), (fun e he => hes e (by simpa using he)), hjl, hc.1, ?_, ?_, hfl, by simpa using hw⟩
    · -- the frames
      by_cases h : j < l.length
      · rw [if_pos h]
        refine ⟨hD.defers.trans (show _ = (AF.put (some dj) (fv b)).defers from DF.defers.symm), by rw [hD.size]; simp [Act.put, DF.size], fun t ht => ?_⟩
        have hput : (AF.put (some dj) (fv b)).tmps = AF.tmps.setIfInBounds dj (fv b) := rfl
        by_cases e1 : t = dj
        · subst e1
          rw [hput, getD_set_same _ _ _ (by rw [DF.size]; exact hslot j h t (hdj h)), hD.set_ j ((hjs j).2 (.inr ⟨rfl, h⟩)) (hjl h) t (hdj h)]
          show (if j = j then _ else _) = _
          rw [if_pos rfl, hob h]; rfl
        · rw [hput, getD_set_other _ _ (Ne.symm e1)]
          by_cases hex : ∃ i ∈ qs, dstAt l i = some t
          · obtain ⟨i, hi, hd⟩ := hex
            have hl : listed.getD i false = true := by
              cases hc' : listed.getD i false with
              | true => rfl
              | false => exact absurd ⟨i, hi, hc', hd⟩ ht
            rw [hD.set_ i ((hjs i).2 (.inl hi)) hl t hd, hvq ob i hi, DF.set_ i hi rfl t hd]
          · rw [hD.other t (fun i hi hs hd => by
              rcases (hjs i).1 hi with h3 | ⟨h3, _⟩
              · exact hex ⟨i, h3, hd⟩
              · rw [h3, hdj h] at hd; exact e1 (Option.some.inj hd).symm), DF.other t (fun i hi _ hd => hex ⟨i, hi, hd⟩)]
      · rw [if_neg h]
        refine ⟨hD.defers.trans DF.defers.symm, hD.size.trans DF.size.symm, fun t ht => ?_⟩
        by_cases hex : ∃ i ∈ qs, dstAt l i = some t
        · obtain ⟨i, hi, hd⟩ := hex
          have hl : listed.getD i false = true := by
            cases hc' : listed.getD i false with
            | true => rfl
            | false => exact absurd ⟨i, hi, hc', hd⟩ ht
          rw [hD.set_ i ((hjs i).2 (.inl hi)) hl t hd, hvq ob i hi, DF.set_ i hi rfl t hd]
        · rw [hD.other t (fun i hi hs hd => by
            rcases (hjs i).1 hi with h3 | ⟨_, h3⟩
            · exact hex ⟨i, h3, hd⟩
            · exact h h3), DF.other t (fun i hi _ hd => hex ⟨i, hi, hd⟩)]
    · by_cases h : j < l.length
      · rw [if_pos h]
        have hput : (AF.put (some dj) (fv b)).tmps = AF.tmps.setIfInBounds dj (fv b) := rfl
        refine ⟨by rw [hput]; simp [DF.size], fun i hi d hd => ?_, fun t ht => ?_⟩
        · have hne : dj ≠ d := fun e => by
            obtain ⟨d2, h3, h4⟩ := ok.own j h (hje h)
            rw [hdj h] at h3
            cases h3
            exact (ok.q i hi).2.1 (h4 i (ok.q i hi).1 (by rw [hd, e]))
          rw [hput, getD_set_other _ _ hne]
          exact DF.set_ i hi rfl d hd
        · rw [hput, getD_set_other _ _ (fun e => ht j h (by rw [hdj h, e]))]
          exact DF.other t fun i hi _ => ht i (ok.q i hi).1
      · rw [if_neg h]
        exact ⟨DF.size, fun i hi d hd => DF.set_ i hi rfl d hd, fun t ht => DF.other t fun i hi _ => ht i (ok.q i hi).1⟩
  let St : Array Bool → Act → World → Prop := fun listed a W => StA listed a W ∨ StB listed a W
  have setD : ∀ (listed : Array Bool) (i i' : Nat), listed.size = l.length → i < l.length → (listed.setIfInBounds i true).getD i' false = done (fun i => listed.getD i false) i i' := fun listed i i' hsz hi => by
    unfold done
    by_cases e : i' = i
    · subst e
      rw [if_pos rfl, Array.getD_eq_getD_getElem?, Array.getElem?_setIfInBounds]
      have : i' < listed.size := by omega
      simp [this]
    · rw [if_neg e, getD_set_ne false (Ne.symm e)]
  have stepB : ∀ listed a W i o, l[i]? = some o → listed.getD i true = false → (∀ i', afterB l i i' = true → listed.getD i' false = true) → StB listed a W → wpListIn F n P l.toArray (Exit.then (St (listed.setIfInBounds i true)) Q) [o] a W := by
    rintro listed a W i o hol hu hwait ⟨A, m, hsz, hm', ht, hdp, hjl, hcv, hR, hSt, hfl, hwp⟩
    have hi : i < l.length := (List.getElem?_eq_some_iff.1 hol).1
    have hfalse : listed.getD i false = false := getD_both hu
    have hsel : ∀ cs b, o.op ≠ .select cs b := fun cs b => Region.noSelect_spec ok.nosel i o cs b (by simpa using hol)
    rcases ok.part i hi with hiq | hie | hij
    · obtain ⟨LF, hLF, hyq⟩ := (hyl CV ⟨_, hV⟩ (fun _ h => h) (fun W W' h k => h.trans (k.mono h.size))).2 i hiq o hol
      have hag : ∀ t ∈ o.looksAt l.toArray, LF.tmps.getD t undef = a.tmps.getD t undef := fun t ht' => by
        by_cases hex : ∃ i', i' < l.length ∧ dstAt l i' = some t
        · obtain ⟨i', hi', hd⟩ := hex
          obtain ⟨h1, h2⟩ := ok.deps i hi o hol t ht' i' hi' hd
          have h3 := h2 (ok.q i hiq).2.2
          have h4 := afterB_lt ok.back h1
          rw [hLF.set_ i' h3 (by simpa using h4) t hd, hR.same t (fun ⟨i2, h5, h6, h7⟩ => by
            obtain ⟨d, h8, h9⟩ := ok.ownQ i' h3
            rw [hd] at h8
            cases h8
            have := h9 i2 h5 h7
            subst this
            rw [hwait _ h1] at h6
            cases h6), hSt.2.1 i' h3 t hd]
        · have hno : ∀ i', i' < l.length → dstAt l i' ≠ some t := fun i' hi' hd => hex ⟨i', hi', hd⟩
          rw [hLF.other t (fun i' hi' _ => hno i' (ok.q i' hi').1), hR.same t (fun ⟨i2, h5, _, h7⟩ => hno i2 (ok.q i2 h5).1 h7), hSt.2.2 t hno]
      have hya := yields_agree hsel (hLF.size.trans (hSt.1.symm.trans hR.size.symm)) hag hyq
      obtain ⟨d, hdi, huniq⟩ := ok.ownQ i hiq
      have hdo : o.dst = some d := by unfold dstAt at hdi; rw [hol] at hdi; exact hdi
      have hnext : St (listed.setIfInBounds i true) (a.put o.dst (valOf l AF i)) W := by
        refine .inr ⟨A, m, by simpa using hsz, hm', fun e he => ?_, fun e he => ?_, fun h => ?_, hcv, ?_, hSt, fun i' hi' hf => ?_, hwp⟩
        · rw [setD _ _ _ hsz hi]; unfold done; split
          · rfl
          · exact ht e he
        · rw [setD _ _ _ hsz hi]; unfold done; rw [if_neg (fun e' => by subst e'; exact (ok.q e hiq).2.2 (List.mem_of_mem_drop he))]; exact hdp e he
        · rw [setD _ _ _ hsz hi]; unfold done; split
          · rfl
          · exact hjl h
        · rw [hdo]
          refine ⟨hR.defers, by rw [← hR.size]; simp [Act.put], fun t ht' => ?_⟩
          by_cases e : t = d
          · subst e
            rw [show (a.put (some t) (valOf l AF i)).tmps = a.tmps.setIfInBounds t (valOf l AF i) from rfl, getD_set_same _ _ _ (by rw [hR.size, hSt.1]; exact hslot i hi t hdi), hSt.2.1 i hiq t hdi]
          · rw [show (a.put (some d) (valOf l AF i)).tmps = a.tmps.setIfInBounds d (valOf l AF i) from rfl, getD_set_other _ _ (Ne.symm e)]
            refine hR.same t fun ⟨i2, h5, h6, h7⟩ => ht' ⟨i2, h5, ?_, h7⟩
            rw [setD _ _ _ hsz hi]; unfold done
            rw [if_neg (fun e' => by subst e'; rw [hdi] at h7; exact e (Option.some.inj h7).symm)]
            exact h6
        · rw [setD _ _ _ hsz hi] at hf
          unfold done at hf
          split at hf
          · cases hf
          · exact hfl i' hi' hf
      simp only [wpListIn]
      rcases hya.2 with ⟨hw, hv⟩ | ⟨hw, hv⟩
      · rw [if_pos hw]
        have h3 := hv W hcv
        unfold Oper.quietAtIn at h3
        unfold Oper.wpIn
        refine ⟨hya.1 W hcv, ?_⟩
        rw [Oper.semAt_eq _ _ _ (hnd i o (by simpa using hol))]
        have hne : ∀ f args w', (execOp a.eval o).run P W ≠ .ok (.enter f args) w' := fun f args w' h => float_noenter (hfl i hiq hfalse o hol) h
        generalize (execOp a.eval o).run P W = r at h3 hne ⊢
        cases r with
        | ok x w' =>
          cases x <;> simp only [Oper.quietUponIn] at h3 <;> simp only [Oper.uponIn]
          case value u =>
            obtain ⟨e1, e2⟩ := h3
            rw [e1, e2]
            exact hnext
          case skip =>
            obtain ⟨e1, e2⟩ := h3
            rw [e1, ← e2]
            exact hnext
          case enter f args => exact absurd rfl (hne f args w')
        | halt x w' => simp only [Oper.quietUponIn] at h3
      · rw [if_neg (by rw [hw]; simp)]
        refine ⟨hya.1 W hcv, ?_⟩
        rw [hv] at hnext
        exact hnext
    · have hmem : i ∈ es.drop m := by
        rcases (List.mem_append.1 (by rw [List.take_append_drop]; exact hie : i ∈ es.take m ++ es.drop m)) with h | h
        · rw [ht i h] at hfalse; cases hfalse
        · exact h
      have hml : m < es.length := by
        rcases Nat.lt_or_ge m es.length with h | h
        · exact h
        · rw [List.drop_of_length_le h] at hmem; cases hmem
      have hdrop : es.drop m = es[m] :: es.drop (m + 1) := List.drop_eq_getElem_cons hml
      have hie' : i = es[m] := by
        rw [hdrop] at hmem
        rcases List.mem_cons.1 hmem with h | h
        · exact h
        · exfalso
          have hlt : es[m] < i := by
            have hp := ok.upE.sublist (List.drop_sublist m es)
            rw [hdrop, List.pairwise_cons] at hp
            exact hp.1 i h
          have h1 := hwait _ (ok.chain i hie es[m] (List.getElem_mem _) hlt)
          rw [hdp es[m] (by rw [hdrop]; exact List.mem_cons_self)] at h1
          cases h1
      rw [hdrop, ← hie', pick_cons hol] at hwp
      have hdn : o.dst = none := by
        have := ok.edst i hie
        unfold dstAt at this
        rw [hol] at this
        exact this
      refine wpListIn_rel hsel (hnd i o (by simpa using hol)) hdn hR (fun t ht' => ?_) hwp ?_
      · rintro ⟨i2, h5, h6, h7⟩
        obtain ⟨h1, _⟩ := ok.deps i hi o hol t ht' i2 (ok.q i2 h5).1 h7
        rw [hwait _ h1] at h6
        cases h6
      · rintro A' a' W' eA ea ed ⟨hcv', hwp'⟩
        refine .inr ⟨A', m + 1, by simpa using hsz, hml, fun e he => ?_, fun e he => ?_, fun h => ?_, hcv', ?_, ?_, fun i' hi' hf => ?_, hwp'⟩
        · rw [setD _ _ _ hsz hi]; unfold done; split
          · rfl
          · rename_i hne
            rw [List.take_succ_eq_append_getElem hml] at he
            rcases List.mem_append.1 he with h | h
            · exact ht e h
            · exact absurd ((List.mem_singleton.1 h).trans hie'.symm) hne
        · rw [setD _ _ _ hsz hi]; unfold done
          have hne : e ≠ i := fun e' => by
            have hp := ok.upE.sublist (List.drop_sublist m es)
            rw [hdrop, List.pairwise_cons] at hp
            have := hp.1 e he
            omega
          rw [if_neg hne]
          exact hdp e (by rw [hdrop]; exact List.mem_cons_of_mem _ he)
        · rw [setD _ _ _ hsz hi]; unfold done; split
          · rfl
          · exact hjl h
        · refine ⟨ed, by rw [ea, eA]; exact hR.size, fun t ht' => ?_⟩
          rw [ea, eA]
          refine hR.same t fun ⟨i2, h5, h6, h7⟩ => ht' ⟨i2, h5, ?_, h7⟩
          rw [setD _ _ _ hsz hi]; unfold done
          rw [if_neg (fun e' => by subst e'; exact (ok.q i2 h5).2.2 hie)]
          exact h6
        · exact ⟨by rw [eA]; exact hSt.1, by rw [eA]; exact hSt.2.1, by rw [eA]; exact hSt.2.2⟩
        · rw [setD _ _ _ hsz hi] at hf
          unfold done at hf
          split at hf
          · cases hf
          · exact hfl i' hi' hf
    · subst hij
      rw [hjl hi] at hfalse
      cases hfalse
  refine wpIn_region_inv hm St ?_ ?_ ?_ ?_
  · rintro listed a W (⟨h, _⟩ | ⟨A, m, h, _⟩) <;> simpa using h
  · exact .inl ⟨by simp, fun e _ => getD_replicate_false _ _, none, fun _ => getD_replicate_false _ _, fun _ => rfl, ⟨hV, fun b e => by cases e⟩, DescM.init fun i _ => getD_replicate_false _ _⟩
  · rintro listed a W i o ho hu hd hst
    have hol : l[i]? = some o := by simpa using ho
    have hi : i < l.length := (List.getElem?_eq_some_iff.1 hol).1
    have hwait : ∀ i', afterB l i i' = true → listed.getD i' false = true := fun i' h => by
      unfold afterB at h
      rw [hol] at h
      obtain ⟨e, he, h2⟩ := List.any_eq_true.1 h
      simp only [Bool.and_eq_true, beq_iff_eq] at h2
      rw [← h2.1]
      exact hd e (by simpa using he) h2.2
    rcases hst with hA | hBB
    · have hA0 := hA
      obtain ⟨hsz, hes, ob, h1, h2, hc, hD⟩ := hA
      have hfalse : listed.getD i false = false := getD_both hu
      have hsel : ∀ cs b, o.op ≠ .select cs b := fun cs b => Region.noSelect_spec ok.nosel i o cs b ho
      rcases ok.part i hi with hiq | hie | hij
      · have hne : i ≠ j := (ok.q i hiq).2.1
        obtain ⟨LF, hLF, hyq⟩ := (hyl (FCls V ty cs ob) ⟨_, hc⟩ (fun _ h => h.1) (fun W W' h k => h.grow k)).2 i hiq o hol
        have hag : ∀ t ∈ o.looksAt l.toArray, LF.tmps.getD t undef = a.tmps.getD t undef := fun t ht' => by
          by_cases hex : ∃ i', i' < l.length ∧ dstAt l i' = some t
          · obtain ⟨i', hi', hd'⟩ := hex
            obtain ⟨h3, h4⟩ := ok.deps i hi o hol t ht' i' hi' hd'
            have h5 := h4 (ok.q i hiq).2.2
            rw [hLF.set_ i' h5 (by simpa using afterB_lt ok.back h3) t hd', hD.set_ i' ((hjs i').2 (.inl h5)) (hwait _ h3) t hd', hvq ob i' h5]
          · have hno : ∀ i', i' < l.length → dstAt l i' ≠ some t := fun i' hi' hd => hex ⟨i', hi', hd⟩
            rw [hLF.other t (fun i' hi' _ => hno i' (ok.q i' hi').1), hD.other t (fun i' hi' _ => hno i' (hjlt i' hi').1)]
        have hya := yields_agree hsel (hLF.size.trans hD.size.symm) hag hyq
        obtain ⟨d, hdi, _⟩ := ok.ownQ i hiq
        have hdo : o.dst = some d := by unfold dstAt at hdi; rw [hol] at hdi; exact hdi
        have hnext : ∀ W', FCls V ty cs ob W' → St (listed.setIfInBounds i true) (a.put o.dst (valOf l AF i)) W' := fun W' hW' => by
          refine .inl ⟨by simpa using hsz, fun e he => ?_, ob, fun h => ?_, h2, hW', ?_⟩
          · rw [setD _ _ _ hsz hi]; unfold done
            rw [if_neg (fun e' => by subst e'; exact (ok.q e hiq).2.2 he)]
            exact hes e he
          · rw [setD _ _ _ hsz hi]; unfold done
            rw [if_neg (Ne.symm hne)]
            exact h1 h
          · have h5 := hD.step ownJ ((hjs i).2 (.inl hiq)) hdi (hslot i hi d hdi)
            rw [hvq ob i hiq] at h5
            rw [hdo]
            exact h5.sets fun i' _ => (setD _ _ _ hsz hi).symm
        simp only [wpListIn]
        rcases hya.2 with ⟨hw, hv⟩ | ⟨hw, hv⟩
        · rw [if_pos hw]
          exact wpIn_of_quiet' (K := fun a' => a' = a.put o.dst (valOf l AF i)) (hnd i o ho) hc (fun a' W' hW' ha' => by subst ha'; exact hnext W' hW') hya.1 ⟨_, hv, rfl⟩
        · rw [if_neg (by rw [hw]; simp)]
          refine ⟨hya.1 W hc, ?_⟩
          have := hnext W hc
          rw [hv] at this
          exact this
      · refine stepB listed a W i o hol hu hwait (toB listed a W hA0 (fun h => hwait j (ok.fresh i hie h)) fun i' hi' hf o' ho' => ?_)
        rcases ok.floats i' hi' o' ho' with h | h
        · exact h
        · rw [hwait i' (h i hie)] at hf
          cases hf
      · subst hij
        obtain ⟨oj, hoj, hdd, hgj, hfr⟩ := hj hi
        obtain rfl : oj = o := Option.some.inj (hoj.symm.trans hol)
        have hag : ∀ t ∈ oj.looksAt l.toArray, a.tmps.getD t undef = AF.tmps.getD t undef := fun t ht' => by
          by_cases hex : ∃ i', i' < l.length ∧ dstAt l i' = some t
          · obtain ⟨i', hi', hd'⟩ := hex
            obtain ⟨h3, h4⟩ := ok.deps i hi oj hol t ht' i' hi' hd'
            have h5 := h4 (hje hi)
            rw [hD.set_ i' ((hjs i').2 (.inl h5)) (hwait _ h3) t hd', hvq ob i' h5, DF.set_ i' h5 rfl t hd']
          · have hno : ∀ i', i' < l.length → dstAt l i' ≠ some t := fun i' hi' hd => hex ⟨i', hi', hd⟩
            rw [hD.other t (fun i' hi' _ => hno i' (hjlt i' hi').1), DF.other t (fun i' hi' _ => hno i' (ok.q i' hi').1)]
        obtain ⟨hab, hrun⟩ := hfr W hc.1
        have hwant : Region.wanted oj (yielded l.toArray a.tmps) = true := by unfold Region.wanted; rw [hgj]
        simp only [wpListIn]
        rw [if_pos hwant]
        unfold Oper.wpIn
        refine ⟨fun f hf => hab f (by rw [← about_agree W hag]; exact hf), ?_⟩
        rw [Oper.semAt_eq _ _ _ (hnd i oj ho), execOp_agree hsel hag, hrun]
        show Exit.then _ Q .normal _ _
        have hob : ob = none := by
          have h3 := h1 hi
          rw [hfalse] at h3
          cases ob with
          | none => rfl
          | some b => cases h3
        subst hob
        refine .inl ⟨by simpa using hsz, fun e he => ?_, some W.heap.size, fun _ => ?_, fun h => absurd hi (by omega), ⟨hc.1.alloc hc.1.size _, fun b hb => by cases hb; exact ⟨hc.1.size, Blk.new W _ _⟩⟩, ?_⟩
        · rw [setD _ _ _ hsz hi]; unfold done
          rw [if_neg (fun e' => by subst e'; exact hje hi he)]
          exact hes e he
        · rw [setD _ _ _ hsz hi]; simp [done]
        · have hD' : DescM l js (vb (some W.heap.size)) a0 (fun i => listed.getD i false) a := hD.vals fun i' hi' hS => by
            have hne : i' ≠ i := fun e => by subst e; rw [hfalse] at hS; cases hS
            show (if i' = i then _ else _) = if i' = i then _ else _
            rw [if_neg hne, if_neg hne]
          have h5 := hD'.step ownJ ((hjs i).2 (.inr ⟨rfl, hi⟩)) (hdj hi) (hslot i hi dj (hdj hi))
          have hvj : vb (some W.heap.size) i = fv W.heap.size := by show (if i = i then _ else _) = _; rw [if_pos rfl]; rfl
          rw [hvj] at h5
          rw [hdd]
          exact h5.sets fun i' _ => (setD _ _ _ hsz hi).symm
    · exact stepB listed a W i o hol hu hwait hBB
  · rintro listed a W hr hst
    have hall : ∀ listed a W, St listed a W → Region.ready .any l.toArray listed = [] → ∀ i, i < l.length → listed.getD i false = true := by
      rintro listed a W (⟨h, _⟩ | ⟨A, m, h, _⟩) hr i hi <;> exact ready_nil_all ok.back (by simpa using h) hr i (by simpa using hi)
    have hal := hall listed a W hst hr
    have hBB : StB listed a W := by
      rcases hst with h | h
      · exact toB listed a W h (fun h' => hal j h') (fun i hi hf => by rw [hal i (ok.q i hi).1] at hf; cases hf)
      · exact h
    obtain ⟨A, m, hsz, hm', ht, hdp, hjl, hcv, hR, hSt, hfl, hwp⟩ := hBB
    have hnil : es.drop m = [] := by
      cases h : es.drop m with
      | nil => rfl
      | cons e r =>
        have h1 := hdp e (by rw [h]; simp)
        rw [hal e (ok.e e (List.mem_of_mem_drop (by rw [h]; simp))).1] at h1
        cases h1
    rw [hnil] at hwp
    have hEq : a = A := by
      obtain ⟨t, d⟩ := a
      obtain ⟨t', d'⟩ := A
      have e1 : d = d' := hR.defers
      have s1 : t.size = t'.size := hR.size
      have e2 : t = t' := by
        apply Array.ext s1
        intro i h1 h2
        have := hR.same i (fun ⟨i2, h5, h6, _⟩ => by rw [hal i2 (ok.q i2 h5).1] at h6; cases h6)
        simpa [h1, h2] using this
      rw [e1, e2]
    subst hEq
    exact hwp

/-- By a mask. -/
def pickB : List Oper → List Bool → List Oper
  | o :: l, true :: bs => o :: pickB l bs
  | _ :: l, false :: bs => pickB l bs
  | _, _ => []
theorem quiet_of {V : World} {AF a0 : Act} (hq : ∀ (σ : Type) (_ : Nonempty σ) (of : σ → World), (∀ z, Below V.heap.size V (of z)) → (∀ z W', Below (of z).heap.size (of z) W' → Cls of W') → wpQuietIn F n P l.toArray (Cls of) (fun a2 => a2 = AF) (pick l qs) a0) :
    ∀ C : World → Prop, (∃ W, C W) → (∀ W, C W → Below V.heap.size V W) → (∀ W W', C W → Below W.heap.size W W' → C W') → wpQuietIn F n P l.toArray C (fun a2 => a2 = AF) (pick l qs) a0 := by
  rintro C ⟨W0, h0⟩ h1 h2
  have e : C = Cls (fun z : { W : World // C W } => z.1) := by
    funext W
    exact propext ⟨fun h => ⟨⟨W, h⟩, rfl⟩, fun ⟨z, hz⟩ => by rw [hz]; exact z.2⟩
  rw [e]
  exact hq _ ⟨⟨W0, h0⟩⟩ _ (fun z => h1 _ z.2) (fun z W' hb => ⟨⟨W', h2 _ _ z.2 hb⟩, rfl⟩)

/-- THE LAW, a new block among the operations. -/
theorem wpIn_region_new {Q : Exit → Act → World → Prop} {id : Nat} {a0 AF : Act} {w V : World} {oj : Oper} {dj : Tmp} (fv : Nat → Value) (ty : TypeId) (cs : Array Value) (qs es : List Nat) (j : Nat) (mq me : List Bool) (hmq : pick l qs = pickB l mq) (hme : pick l es = pickB l me)
    (hm : P.follows .mixedOrders = true) (hB : (mixB l qs es j && decide (j < l.length)) = true) (hs : slotsM l a0.tmps.size = true) (hV : Below V.heap.size V w.drew) (hoj : l[j]? = some oj) (hdj : oj.dst = some dj) (hgj : oj.guard = none)
    (hq : ∀ (σ : Type) (_ : Nonempty σ) (of : σ → World), (∀ z, Below V.heap.size V (of z)) → (∀ z W', Below (of z).heap.size (of z) W' → Cls of W') → wpQuietIn F n P l.toArray (Cls of) (fun a2 => a2 = AF) (pickB l mq) a0)
    (hfresh : ∀ W, Below V.heap.size V W → (∀ f, oj.about P W AF.eval = some f → F.fn f) ∧ (execOp AF.eval oj).run P W = .ok (.value (fv W.heap.size)) (W.alloc (.cells cs ty)))
    (htail : ∀ b W, Below V.heap.size V W → V.heap.size ≤ b → Blk W b ty cs → wpE F n P l.toArray (fun W => Below V.heap.size V W) (Q .normal) (pickB l me) (AF.put (some dj) (fv b)) W) :
    (Code.region id l.toArray true).wpIn F n P Q a0 w := by
  rw [Bool.and_eq_true, decide_eq_true_eq] at hB
  rw [← hmq] at hq
  rw [← hme] at htail
  exact wpIn_region_mix fv ty cs qs es j dj hm hB.1 hs hV (fun _ => ⟨oj, hoj, hdj, hgj, hfresh⟩) (quiet_of hq) (fun b W h1 h2 => by rw [if_pos hB.2]; exact htail b W h1 (h2 hB.2).1 (h2 hB.2).2)

/-- THE LAW, without a new block. -/
theorem wpIn_region_old {Q : Exit → Act → World → Prop} {id : Nat} {a0 AF : Act} {w V : World} (qs es : List Nat) (mq me : List Bool) (hmq : pick l qs = pickB l mq) (hme : pick l es = pickB l me)
    (hm : P.follows .mixedOrders = true) (hB : mixB l qs es l.length = true) (hs : slotsM l a0.tmps.size = true) (hV : Below V.heap.size V w.drew)
    (hq : ∀ (σ : Type) (_ : Nonempty σ) (of : σ → World), (∀ z, Below V.heap.size V (of z)) → (∀ z W', Below (of z).heap.size (of z) W' → Cls of W') → wpQuietIn F n P l.toArray (Cls of) (fun a2 => a2 = AF) (pickB l mq) a0)
    (htail : ∀ W, Below V.heap.size V W → wpE F n P l.toArray (fun W => Below V.heap.size V W) (Q .normal) (pickB l me) AF W) :
    (Code.region id l.toArray true).wpIn F n P Q a0 w := by
  rw [← hmq] at hq
  rw [← hme] at htail
  exact wpIn_region_mix (fun _ => undef) 0 #[] qs es l.length 0 hm hB hs hV (fun h => absurd h (Nat.lt_irrefl _)) (quiet_of hq) (fun b W h1 _ => by rw [if_neg (Nat.lt_irrefl _)]; exact htail W h1)

theorem wpE_nil {ops : Array Oper} {CV : World → Prop} {Qn : Act → World → Prop} {a : Act} {w : World} (h : Qn a w) : wpE F n P ops CV Qn [] a w := h
theorem wpE_cons {ops : Array Oper} {CV : World → Prop} {Qn : Act → World → Prop} {o : Oper} {r : List Oper} {a : Act} {w : World} (h : wpListIn F n P ops (Exit.then (fun a' w' => CV w' ∧ wpE F n P ops CV Qn r a' w') (fun _ _ _ => False)) [o] a w) : wpE F n P ops CV Qn (o :: r) a w := h
end
end Go.Proofs.YtahkjagjcogeiaaDoor
/- A region that draws its order: quiet operations, calls that make memory (a chain, each with what it hands back), one that lays a new block (or none), and effects at the end. One walk by stages serves. -/
namespace Go.Proofs.YtahkjagjcogeiaaDoor
open Go.RowKit
set_option linter.unusedVariables false

/-- The numbers of a mask. -/
def idxs : Nat → List Bool → List Nat
  | _, [] => []
  | k, true :: m => k :: idxs (k + 1) m
  | k, false :: m => idxs (k + 1) m
theorem pickB_idxs : ∀ (l : List Oper) (m : List Bool) (pre : List Oper), m.length ≤ l.length → pickB l m = pick (pre ++ l) (idxs pre.length m)
  | [], [], pre, _ => by simp [pickB, idxs, pick]
  | o :: l, [], pre, _ => by simp [pickB, idxs, pick]
  | [], b :: m, pre, h => by simp at h
  | o :: l, true :: m, pre, h => by
    have ih := pickB_idxs l m (pre ++ [o]) (by simpa using h)
    have e : (pre ++ o :: l)[pre.length]? = some o := by simp
    rw [idxs, pick_cons e, pickB, ih]
    simp
  | o :: l, false :: m, pre, h => by
    have ih := pickB_idxs l m (pre ++ [o]) (by simpa using h)
    rw [idxs, pickB, ih]
    simp
theorem pickB_all (l : List Oper) (m : List Bool) (h : m.length ≤ l.length) : pickB l m = pick l (idxs 0 m) := by
  simpa using pickB_idxs l m [] h

/-- The order of the walk: stage by stage. -/
def xsOf : List (List Bool × Nat) → List Bool → List Nat
  | [], fin => idxs 0 fin
  | (m, x) :: r, fin => idxs 0 m ++ x :: xsOf r fin

/-- Operations that ask nothing of the world. -/
def lateB (o : Oper) : Bool := match o.op with
  | .move _ | .assign _ | .extract _ _ => true
  | _ => false
def readsB (l : List Oper) (i : Nat) (pre : List Nat) : Bool := ((l[i]?).map fun o => (o.looksAt l.toArray).all fun t => (List.range l.length).all fun i' => dstAt l i' != some t || (afterB l i i' && pre.contains i')).getD false
def depsB (l : List Oper) : List Nat → List Nat → Bool
  | _, [] => true
  | pre, i :: post => readsB l i pre && depsB l (pre ++ [i]) post
def ordB (l : List Oper) (ws : List Nat) : List Nat → Bool
  | [] => true
  | x :: post => (!ws.contains x || post.all fun i => (x :: post).any fun m => afterB l i m) && ordB l ws post
def flowB (l : List Oper) (xs ws es : List Nat) (j : Nat) : Bool :=
  upS es && backB l.toArray && Region.noSelect l.toArray && noDeferB l &&
  (xs.all fun i => decide (i < l.length) && i != j && !es.contains i) && (es.all fun i => decide (i < l.length) && i != j) &&
  ((List.range l.length).all fun i => xs.contains i || es.contains i || i == j) &&
  ((List.range l.length).all fun i => es.contains i || ((dstAt l i).isSome && ((List.range l.length).all fun i' => i == i' || dstAt l i != dstAt l i'))) &&
  depsB l [] xs && (es.all fun e => readsB l e (if j < l.length then j :: xs else xs)) &&
  (es.all fun e => es.all fun e' => decide (e ≤ e') || afterB l e e') && (es.all fun e => decide (l.length ≤ j) || afterB l e j) &&
  (xs.all fun i => (((l[i]?).map lateB).getD false && !ws.contains i) || es.all fun e => afterB l e i) && (es.all fun e => (dstAt l e).isNone) && ordB l ws xs && decide xs.Nodup
structure FlowOk (l : List Oper) (xs ws es : List Nat) (j : Nat) : Prop where
  upE : es.Pairwise (· < ·)
  back : backB l.toArray = true
  nosel : Region.noSelect l.toArray = true
  nodef : noDeferB l = true
  x : ∀ i ∈ xs, i < l.length ∧ i ≠ j ∧ i ∉ es
  e : ∀ i ∈ es, i < l.length ∧ i ≠ j
  part : ∀ i, i < l.length → i ∈ xs ∨ i ∈ es ∨ i = j
  own : ∀ i, i < l.length → i ∉ es → ∃ d, dstAt l i = some d ∧ ∀ i', i' < l.length → dstAt l i' = some d → i' = i
  deps : ∀ pre i post, xs = pre ++ i :: post → ∀ o, l[i]? = some o → ∀ t ∈ o.looksAt l.toArray, ∀ i', i' < l.length → dstAt l i' = some t → afterB l i i' = true ∧ i' ∈ pre
  depsE : ∀ i ∈ es, ∀ o, l[i]? = some o → ∀ t ∈ o.looksAt l.toArray, ∀ i', i' < l.length → dstAt l i' = some t → afterB l i i' = true
  chain : ∀ e ∈ es, ∀ e' ∈ es, e' < e → afterB l e e' = true
  fresh : ∀ e ∈ es, j < l.length → afterB l e j = true
  late : ∀ i ∈ xs, ∀ o, l[i]? = some o → (lateB o = true ∧ i ∉ ws) ∨ ∀ e ∈ es, afterB l e i = true
  edst : ∀ e ∈ es, dstAt l e = none
  ord : ∀ pre x post, xs = pre ++ x :: post → x ∈ ws → ∀ i ∈ post, ∃ m ∈ x :: post, afterB l i m = true
  nodup : xs.Nodup
theorem readsB_spec {l : List Oper} {i : Nat} {pre : List Nat} (h : readsB l i pre = true) : ∀ o, l[i]? = some o → ∀ t ∈ o.looksAt l.toArray, ∀ i', i' < l.length → dstAt l i' = some t → afterB l i i' = true ∧ i' ∈ pre := by
  intro o ho t ht i' hi' hd
  unfold readsB at h
  rw [ho] at h
  simp only [Option.map_some, Option.getD_some] at h
  have h' := List.all_eq_true.1 (List.all_eq_true.1 h t ht) i' (List.mem_range.2 hi')
  simp only [Bool.or_eq_true, bne_iff_ne, Bool.and_eq_true, List.contains_eq_mem, decide_eq_true_eq] at h'
  rcases h' with h' | h'
  · exact absurd hd h'
  · exact h'
theorem depsB_spec {l : List Oper} : ∀ (xs acc : List Nat), depsB l acc xs = true → ∀ pre i post, xs = pre ++ i :: post → readsB l i (acc ++ pre) = true
  | [], acc, _, pre, i, post, e => by simp at e
  | x :: xs, acc, h, pre, i, post, e => by
    simp only [depsB, Bool.and_eq_true] at h
    cases pre with
    | nil => simp at e; obtain ⟨rfl, rfl⟩ := e; simpa using h.1
    | cons p pre =>
      simp at e
      obtain ⟨rfl, rfl⟩ := e
      have := depsB_spec _ _ h.2 pre i post rfl
      simpa using this
theorem ordB_spec {l : List Oper} {ws : List Nat} : ∀ (xs : List Nat), ordB l ws xs = true → ∀ pre x post, xs = pre ++ x :: post → x ∈ ws → ∀ i ∈ post, ∃ m ∈ x :: post, afterB l i m = true
  | [], _, pre, x, post, e => by simp at e
  | y :: xs, h, pre, x, post, e => by
    simp only [ordB, Bool.and_eq_true] at h
    cases pre with
    | nil =>
      simp at e
      obtain ⟨rfl, rfl⟩ := e
      intro hx i hi
      have h1 := h.1
      simp only [Bool.or_eq_true, Bool.not_eq_true', List.contains_eq_mem, decide_eq_false_iff_not] at h1
      have h2 := h1.resolve_left (fun hn => hn hx)
      obtain ⟨m, hm, h3⟩ := List.any_eq_true.1 (List.all_eq_true.1 h2 i hi)
      exact ⟨m, hm, h3⟩
    | cons p pre =>
      simp at e
      obtain ⟨rfl, rfl⟩ := e
      exact ordB_spec _ h.2 pre x post rfl
theorem flowOk {l : List Oper} {xs ws es : List Nat} {j : Nat} (h : flowB l xs ws es j = true) : FlowOk l xs ws es j := by
  unfold flowB at h
  simp only [Bool.and_eq_true] at h
  obtain ⟨⟨⟨⟨⟨⟨⟨⟨⟨⟨⟨⟨⟨⟨⟨h1, h2⟩, h3⟩, h4⟩, h5⟩, h6⟩, h7⟩, h8⟩, h9⟩, h10⟩, h11⟩, h12⟩, h13⟩, h14⟩, h15⟩, h16⟩ := h
  refine ⟨upS_pair h1, h2, h3, h4, fun i hi => ?_, fun i hi => ?_, fun i hi => ?_, fun i hi hne => ?_, fun pre i post e o ho t ht i' hi' hd => ?_, fun i hi o ho t ht i' hi' hd => ?_, fun e he e' he' hlt => ?_, fun e he hj => ?_, fun i hi o ho => ?_, fun e he => ?_, ordB_spec _ h15, of_decide_eq_true h16⟩
  · have := List.all_eq_true.1 h5 i hi
    simp only [Bool.and_eq_true, decide_eq_true_eq, bne_iff_ne, Bool.not_eq_true', List.contains_eq_mem, decide_eq_false_iff_not] at this
    exact ⟨this.1.1, this.1.2, this.2⟩
  · have := List.all_eq_true.1 h6 i hi
    simp only [Bool.and_eq_true, decide_eq_true_eq, bne_iff_ne] at this
    exact this
  · have := List.all_eq_true.1 h7 i (List.mem_range.2 hi)
    simp only [Bool.or_eq_true, List.contains_eq_mem, decide_eq_true_eq, beq_iff_eq] at this
    rcases this with (h | h) | h
    · exact .inl h
    · exact .inr (.inl h)
    · exact .inr (.inr h)
  · have h := List.all_eq_true.1 h8 i (List.mem_range.2 hi)
    simp only [Bool.or_eq_true, List.contains_eq_mem, decide_eq_true_eq] at h
    rcases h with h | h
    · exact absurd h hne
    · simp only [Bool.and_eq_true] at h
      obtain ⟨d, hd⟩ := Option.isSome_iff_exists.1 h.1
      refine ⟨d, hd, fun i' hi' hd' => ?_⟩
      have h' := List.all_eq_true.1 h.2 i' (List.mem_range.2 hi')
      simp only [Bool.or_eq_true, beq_iff_eq, bne_iff_ne] at h'
      rcases h' with h' | h'
      · exact h'.symm
      · exact absurd (hd.trans hd'.symm) h'
  · exact readsB_spec (by simpa using depsB_spec _ _ h9 pre i post e) o ho t ht i' hi' hd
  · exact (readsB_spec (List.all_eq_true.1 h10 i hi) o ho t ht i' hi' hd).1
  · have := List.all_eq_true.1 (List.all_eq_true.1 h11 e he) e' he'
    simp only [Bool.or_eq_true, decide_eq_true_eq] at this
    exact this.resolve_left (by omega)
  · have := List.all_eq_true.1 h12 e he
    simp only [Bool.or_eq_true, decide_eq_true_eq] at this
    exact this.resolve_left (by omega)
  · have := List.all_eq_true.1 h13 i hi
    rw [ho] at this
    simp only [Option.map_some, Option.getD_some, Bool.or_eq_true, Bool.and_eq_true, Bool.not_eq_true', List.contains_eq_mem, decide_eq_false_iff_not] at this
    rcases this with h | h
    · exact .inl h
    · exact .inr fun e he => List.all_eq_true.1 h e he
  · have := List.all_eq_true.1 h14 e he
    simpa using this

/-- A frame: S's slots as in A, the others as in 'base'. -/
structure Mixed (l : List Oper) (S : Nat → Prop) (A base a : Act) : Prop where
  defers : a.defers = base.defers
  size : a.tmps.size = base.tmps.size
  in_ : ∀ i, S i → ∀ t, dstAt l i = some t → a.tmps.getD t undef = A.tmps.getD t undef
  out : ∀ t, (∀ i, S i → dstAt l i ≠ some t) → a.tmps.getD t undef = base.tmps.getD t undef

section
variable {F : Fence} {n : Nat} {P : Program} {l : List Oper}
section
variable {S S' : Nat → Prop} {A A' base a : Act}
theorem Mixed.nil (h : ∀ i, ¬ S i) : Mixed l S A base base := ⟨rfl, rfl, fun i hi => absurd hi (h i), fun _ _ => rfl⟩
theorem Mixed.congr (h : Mixed l S A base a) (hS : ∀ i, S i ↔ S' i) : Mixed l S' A base a := ⟨h.defers, h.size, fun i hi => h.in_ i ((hS i).2 hi), fun t ht => h.out t fun i hi => ht i ((hS i).1 hi)⟩
theorem Mixed.change (h : Mixed l S A base a) (hA : ∀ i, S i → ∀ t, dstAt l i = some t → A.tmps.getD t undef = A'.tmps.getD t undef) : Mixed l S A' base a := ⟨h.defers, h.size, fun i hi t ht => (h.in_ i hi t ht).trans (hA i hi t ht), h.out⟩
/-- One more. -/
theorem Mixed.step (h : Mixed l S A base a) {i : Nat} {d : Tmp} (hd : dstAt l i = some d) (hu : ∀ i', S i' → dstAt l i' = some d → i' = i) (hsz : d < base.tmps.size) : Mixed l (fun k => S k ∨ k = i) A base (a.put (some d) (A.tmps.getD d undef)) := by
  have hp : (a.put (some d) (A.tmps.getD d undef)).tmps = a.tmps.setIfInBounds d (A.tmps.getD d undef) := rfl
  refine ⟨h.defers, by rw [hp]; simpa using h.size, fun k hk t ht => ?_, fun t ht => ?_⟩
  · by_cases e : t = d
    · subst e
      rw [hp, getD_set_same _ _ _ (by rw [h.size]; exact hsz)]
    · rw [hp, getD_set_other _ _ (Ne.symm e)]
      rcases hk with hk | rfl
      · exact h.in_ k hk t ht
      · rw [hd] at ht; exact absurd (Option.some.inj ht).symm e
  · have e : d ≠ t := fun e => ht i (.inr rfl) (by rw [hd, e])
    rw [hp, getD_set_other _ _ e]
    exact h.out t fun k hk => ht k (.inl hk)
/-- Two of them, one on the other. -/
theorem Mixed.trans (h : Mixed l S A' A a) (k : Mixed l S' A' base A) : Mixed l (fun i => S i ∨ S' i) A' base a := by
  refine ⟨h.defers.trans k.defers, h.size.trans k.size, fun i hi t ht => ?_, fun t ht => ?_⟩
  · by_cases hex : ∃ i', S i' ∧ dstAt l i' = some t
    · obtain ⟨i', h1, h2⟩ := hex
      exact h.in_ i' h1 t h2
    · rw [h.out t (fun i' h1 h2 => hex ⟨i', h1, h2⟩)]
      rcases hi with hi | hi
      · exact absurd ⟨i, hi, ht⟩ hex
      · exact k.in_ i hi t ht
  · rw [h.out t (fun i hi => ht i (.inl hi))]
    exact k.out t fun i hi => ht i (.inr hi)
end

/-- The walk of a run of quiet operations. -/
theorem quiet_seq {C : World → Prop} {A : Act} : ∀ (qs : List Nat) (base : Act), (∀ i ∈ qs, i < l.length ∧ ∃ d, dstAt l i = some d ∧ d < base.tmps.size ∧ ∀ i' ∈ qs, dstAt l i' = some d → i' = i) → qs.Nodup →
    wpQuietIn F n P l.toArray C (fun a2 => a2 = A) (pick l qs) base →
    Mixed l (· ∈ qs) A base A ∧ ∀ pre i post, qs = pre ++ i :: post → ∀ o, l[i]? = some o → ∃ LF, Mixed l (· ∈ pre) A base LF ∧ YieldsQuiet F n P l.toArray C o (valOf l A i) LF
  | [], base, _, _, h => by
    have e : base = A := h
    subst e
    exact ⟨Mixed.nil (by simp), fun pre i post e => by simp at e⟩
  | i0 :: qs, base, hq, hnd, h => by
    obtain ⟨hlt, d, hd, hsz, hun⟩ := hq i0 (by simp)
    have ho : l[i0]? = some l[i0] := List.getElem?_eq_getElem hlt
    rw [pick_cons ho] at h
    have hdo : (l[i0]).dst = some d := by unfold dstAt at hd; rw [ho] at hd; exact hd
    have main : ∃ v, YieldsQuiet F n P l.toArray C l[i0] v base ∧ wpQuietIn F n P l.toArray C (fun a2 => a2 = A) (pick l qs) (base.put (some d) v) := by
      obtain ⟨ha, h2⟩ := h
      by_cases hw : Region.wanted l[i0] (yielded l.toArray base.tmps) = true
      · rw [if_pos hw] at h2
        obtain ⟨v, h3, h4⟩ := h2
        exact ⟨v, ⟨ha, .inl ⟨hw, h3⟩⟩, by rw [← hdo]; exact h4⟩
      · rw [if_neg hw] at h2
        exact ⟨undef, ⟨ha, .inr ⟨by simpa using hw, rfl⟩⟩, by rw [← hdo]; exact h2⟩
    obtain ⟨v, hy, hr⟩ := main
    rw [List.nodup_cons] at hnd
    have hbs : (base.put (some d) v).tmps.size = base.tmps.size := by simp [Act.put]
    have hpt : (base.put (some d) v).tmps = base.tmps.setIfInBounds d v := rfl
    obtain ⟨i1, i2⟩ := quiet_seq qs (base.put (some d) v) (fun i hi => by
      obtain ⟨g1, d', g2, g3, g4⟩ := hq i (by simp [hi])
      exact ⟨g1, d', g2, by rw [hbs]; exact g3, fun i' hi' => g4 i' (by simp [hi'])⟩) hnd.2 hr
    have hnod : ∀ i ∈ qs, dstAt l i ≠ some d := fun i hi e => by
      have := hun i (by simp [hi]) e
      subst this
      exact hnd.1 hi
    have hAd : A.tmps.getD d undef = v := by
      rw [i1.out d hnod, hpt, getD_set_same _ _ _ hsz]
    have hv : valOf l A i0 = v := by unfold valOf; rw [hd]; exact hAd
    have up : ∀ {S : Nat → Prop} {LF : Act}, (∀ i, S i → i ∈ qs) → Mixed l S A (base.put (some d) v) LF → Mixed l (fun k => k = i0 ∨ S k) A base LF := by
      intro S LF hS hm
      refine ⟨hm.defers, hm.size.trans hbs, fun i hi t ht => ?_, fun t ht => ?_⟩
      · rcases hi with rfl | hi
        · rw [hd] at ht; cases ht
          rw [hm.out d (fun i' hi' => hnod i' (hS i' hi')), hpt, getD_set_same _ _ _ hsz, hAd]
        · exact hm.in_ i hi t ht
      · have e : d ≠ t := fun e => ht i0 (.inl rfl) (by rw [hd, e])
        rw [hm.out t (fun i hi => ht i (.inr hi)), hpt, getD_set_other _ _ e]
    refine ⟨(up (fun i hi => hi) i1).congr (by simp), fun pre i post e o hol => ?_⟩
    cases pre with
    | nil =>
      simp at e
      obtain ⟨rfl, rfl⟩ := e
      rw [ho] at hol
      cases hol
      exact ⟨base, Mixed.nil (by simp), by rw [hv]; exact hy⟩
    | cons p pre =>
      simp at e
      obtain ⟨rfl, rfl⟩ := e
      obtain ⟨LF, h5, h6⟩ := i2 pre i post rfl o hol
      exact ⟨LF, (up (fun k hk => by simp [hk]) h5).congr (by simp), h6⟩

theorem wpListIn_relD {ops : Array Oper} {o : Oper} {a A : Act} {W : World} {K K' : Act → World → Prop} {Q : Exit → Act → World → Prop} (hsel : ∀ cs b, o.op ≠ .select cs b) (hnd : ∀ c, o.op ≠ .defer c) (hz : a.tmps.size = A.tmps.size) (hag : ∀ t ∈ o.looksAt ops, A.tmps.getD t undef = a.tmps.getD t undef)
    (h : wpListIn F n P ops (Exit.then K (fun _ _ _ => False)) [o] A W) (hK : ∀ A' a' W' v, A'.tmps = (A.put o.dst v).tmps → a'.tmps = (a.put o.dst v).tmps → (A'.defers = A.defers → a'.defers = a.defers) → K A' W' → K' a' W') : wpListIn F n P ops (Exit.then K' Q) [o] a W := by
  have pd : ∀ (x : Act) (v : Value), (x.put o.dst v).defers = x.defers := fun x v => by cases o.dst <;> rfl
  simp only [wpListIn] at h ⊢
  rw [wanted_agree hz.symm hag] at h
  split
  · rename_i hw
    rw [if_pos hw] at h
    unfold Oper.wpIn at h ⊢
    rw [Oper.semAt_eq _ _ _ hnd] at h ⊢
    rw [execOp_agree hsel hag] at h
    refine ⟨fun f hf => h.1 f (by rw [about_agree W hag]; exact hf), ?_⟩
    have h4 := h.2
    generalize (execOp a.eval o).run P W = r at h4 ⊢
    cases r with
    | ok x w' =>
      cases x <;> simp only [Oper.uponIn, Exit.then] at h4 ⊢ <;>
        first
          | exact hK _ _ _ _ rfl rfl (fun _ => pd a _) h4
          | exact hK _ _ _ undef (by cases o.dst <;> rfl) (by cases o.dst <;> rfl) (fun e => by
              have e2 : ∀ (x : Act) (v : Value), (x.put o.dst v).defers = x.defers := pd
              rw [e2] at e
              exact absurd e (by simp)) h4
          | exact ⟨h4.1, CallsIn.mono h4.2 (fun e w'' he => by cases e <;> first | exact hK _ _ _ _ rfl rfl (fun _ => pd a _) he | exact False.elim he | (obtain ⟨_, _, he⟩ := he; exact False.elim he))⟩
          | exact ⟨h4.1, RoundIn.mono h4.2 (fun e w'' he => by cases e <;> first | exact hK _ _ _ _ rfl rfl (fun _ => pd a _) he | exact False.elim he | (obtain ⟨_, _, he⟩ := he; exact False.elim he))⟩
          | exact ⟨h4.1, RowsIn.mono h4.2 (fun v w'' he => hK _ _ _ _ rfl rfl (fun _ => pd a _) he)⟩
          | exact h4
          | exact False.elim h4
    | halt x w' => cases x <;> simp only [Oper.uponIn, Exit.then] at h4 ⊢ <;> first | exact h4 | exact False.elim h4
  · rename_i hw
    rw [if_neg hw] at h
    refine ⟨fun f hf => h.1 f (by rw [about_agree W hag]; exact hf), ?_⟩
    exact hK _ _ _ undef rfl rfl (fun _ => pd a _) h.2

/-- What asks nothing of the world yields its value in every world. -/
def YieldsAll (F : Fence) (P : Program) (ops : Array Oper) (o : Oper) (v : Value) (a : Act) : Prop :=
  (∀ W f, o.about P W a.eval = some f → F.fn f) ∧ ((Region.wanted o (yielded ops a.tmps) = true ∧ ∀ W, (execOp a.eval o).run P W = .ok (.value v) W) ∨ (Region.wanted o (yielded ops a.tmps) = false ∧ v = undef))
theorem late_yields {ops : Array Oper} {C : World → Prop} {o : Oper} {v : Value} {a : Act} (hl : lateB o = true) (hC : ∃ W, C W) (hy : YieldsQuiet F n P ops C o v a) : YieldsAll F P ops o v a := by
  obtain ⟨W0, hW0⟩ := hC
  obtain ⟨dst, op, type, pos, after, guard⟩ := o
  refine ⟨fun W f hf => ?_, ?_⟩
  · unfold lateB at hl
    cases op <;> simp only at hl <;> first | (cases hl; done) | (have h0 : (none : Option FuncId) = some f := hf; cases h0)
  · rcases hy.2 with ⟨hw, hv⟩ | h
    · refine .inl ⟨hw, fun W => ?_⟩
      have h3 := hv W0 hW0
      unfold Oper.quietAtIn at h3
      unfold lateB at hl
      cases op <;> simp only at hl <;> first | (cases hl; done) | skip
      · simp only [execOp, Sem.run_pure, Oper.quietUponIn] at h3 ⊢
        rw [h3.2]
      · simp only [execOp, Sem.run_pure, Oper.quietUponIn] at h3 ⊢
        rw [h3.2]
      · rename_i t ix
        simp only [execOp] at h3 ⊢
        unfold Instr.extract at h3 ⊢
        cases hv : a.eval t <;> rw [hv] at h3 <;> simp only [Sem.run_bind] at h3 ⊢
        case tuple xs =>
          cases hx : xs[ix]? <;> simp [hx, Sem.run_pure, Result.andThen, Oper.quietUponIn] at h3 ⊢
          exact h3
        all_goals simp [Result.andThen, Oper.quietUponIn] at h3
    · exact .inr h
theorem YieldsAll.agree {ops : Array Oper} {o : Oper} {v : Value} {a a' : Act} (hy : YieldsAll F P ops o v a) (hs : ∀ cs b, o.op ≠ .select cs b) (hz : a.tmps.size = a'.tmps.size) (h : ∀ t ∈ o.looksAt ops, a.tmps.getD t undef = a'.tmps.getD t undef) : YieldsAll F P ops o v a' := by
  unfold YieldsAll at hy ⊢
  rw [← execOp_agree hs h, ← wanted_agree hz h]
  exact ⟨fun W f hf => hy.1 W f (by rw [about_agree W h]; exact hf), hy.2⟩
end
end Go.Proofs.YtahkjagjcogeiaaDoor
