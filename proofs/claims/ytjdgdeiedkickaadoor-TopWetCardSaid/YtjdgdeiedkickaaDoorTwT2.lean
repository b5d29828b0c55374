/- Part 2 of the texts of this claim, joined. -/
import Derived.Maps.AppendAt
import Derived.Deep.AppendLies
import Derived.Lib.SliceRun
import Derived.Laws.IdiomCopy
import Derived.Lib.AppendZeros
import Derived.Shelf.Spec.SlicesInsert
import Derived.Lib.Overlaps
import Derived.Deep.Cut
import Derived.IntWalk
import Derived.Sort.CutIn
import Derived.Test.YtjdgdeiedkickaaDoorTwT1
set_option linter.unusedVariables false
/- The law of a drawn region by stages. -/
namespace Go.Proofs.YtjdgdeiedkickaaDoor
open Go.RowKit

/-- A class of worlds above V that is shut under growth. -/
def Good (V : World) (C : World → Prop) : Prop := (∃ W, C W) ∧ (∀ W, C W → Below V.heap.size V W) ∧ ∀ W W', C W → Below W.heap.size W W' → C W'
theorem Good.above (V : World) : Good V fun W => Below V.heap.size V W := ⟨⟨V, Below.refl _ _⟩, fun _ h => h, fun _ _ h k => h.trans (k.mono h.size)⟩
theorem Good.up {V V' : World} {C : World → Prop} (h : Good V' C) (hb : Below V.heap.size V V') : Good V C := ⟨h.1, fun W hW => hb.trans ((h.2.1 W hW).mono hb.size), h.2.2⟩

section
variable {F : Fence} {n : Nat} {P : Program} {l : List Oper}
/-- Quiet operations, in whatever world above V. -/
def Quietly (F : Fence) (n : Nat) (P : Program) (l : List Oper) (V : World) (qs : List Oper) (a A : Act) : Prop :=
 ∀ (σ : Type) (_ : Nonempty σ) (of : σ → World), (∀ z, Below V.heap.size V (of z)) → (∀ z W', Below (of z).heap.size (of z) W' → Cls of W') → wpQuietIn F n P l.toArray (Cls of) (fun a2 => a2 = A) qs a
theorem Quietly.cls {V : World} {qs : List Oper} {a A : Act} (hq : Quietly F n P l V qs a A) {C : World → Prop} (hC : Good V C) : wpQuietIn F n P l.toArray C (fun a2 => a2 = A) qs a := by
 obtain ⟨⟨W0, h0⟩, h1, h2⟩ := hC
 have e : C = Cls (fun z : { W : World // C W } => z.1) := by
  funext W
  exact propext ⟨fun h => ⟨⟨W, h⟩, rfl⟩, fun ⟨z, hz⟩ => by rw [hz]; exact z.2⟩
 rw [e]
 exact hq _ ⟨⟨W0, h0⟩⟩ _ (fun z => h1 _ z.2) (fun z W' hb => ⟨⟨W', h2 _ _ z.2 hb⟩, rfl⟩)

theorem Quietly.none {V : World} {a : Act} : Quietly F n P l V (pickB l []) a a := fun _ _ _ _ _ => by cases l <;> exact rfl

/-- The effects, one behind the other. -/
def wpT (F : Fence) (n : Nat) (P : Program) (ops : Array Oper) (Qn : Act → World → Prop) : List Oper → Act → World → Prop
 | [], a, w => Qn a w
 | o :: r, a, w => wpListIn F n P ops (Exit.then (wpT F n P ops Qn r) (fun _ _ _ => False)) [o] a w
theorem wpT_nil {ops : Array Oper} {Qn : Act → World → Prop} {a : Act} {w : World} (h : Qn a w) : wpT F n P ops Qn [] a w := h
theorem wpT_cons {ops : Array Oper} {Qn : Act → World → Prop} {o : Oper} {r : List Oper} {a : Act} {w : World} (h : wpListIn F n P ops (Exit.then (wpT F n P ops Qn r) (fun _ _ _ => False)) [o] a w) : wpT F n P ops Qn (o :: r) a w := h

/-- Stage by stage: quiet operations, then one that may make memory. -/
def wpFlow (F : Fence) (n : Nat) (P : Program) (l : List Oper) (tail : List (Nat × Nat) → World → Act → Prop) : List (List Bool × Nat) → List Bool → List (Nat × Nat) → World → Act → Prop
 | [], fin, I, V, a => ∃ A, Quietly F n P l V (pickB l fin) a A ∧ tail I V A
 | (m, x) :: r, fin, I, V, a => ∃ A, Quietly F n P l V (pickB l m) a A ∧ ∃ o, l[x]? = some o ∧ ∀ W, Below V.heap.size V W →
   wpListIn F n P l.toArray (Exit.then (fun a' W' => a'.defers = A.defers ∧ Below W.heap.size W W' ∧ wpFlow F n P l tail r fin ((W.heap.size, W'.heap.size) :: I) W' a') (fun _ _ _ => False)) [o] A W
theorem wpFlow_nil {tail : List (Nat × Nat) → World → Act → Prop} {fin : List Bool} {I : List (Nat × Nat)} {V : World} {a A : Act} (hq : Quietly F n P l V (pickB l fin) a A) (h : tail I V A) : wpFlow F n P l tail [] fin I V a := ⟨A, hq, h⟩
theorem wpFlow_cons {tail : List (Nat × Nat) → World → Act → Prop} {m : List Bool} {x : Nat} {r : List (List Bool × Nat)} {fin : List Bool} {I : List (Nat × Nat)} {V : World} {a A : Act} {o : Oper} (ho : l[x]? = some o) (hq : Quietly F n P l V (pickB l m) a A)
  (h : ∀ W, Below V.heap.size V W → wpListIn F n P l.toArray (Exit.then (fun a' W' => a'.defers = A.defers ∧ Below W.heap.size W W' ∧ wpFlow F n P l tail r fin ((W.heap.size, W'.heap.size) :: I) W' a') (fun _ _ _ => False)) [o] A W) : wpFlow F n P l tail ((m, x) :: r) fin I V a := ⟨A, hq, o, ho, h⟩

/-- What is next. -/
def NextF (F : Fence) (n : Nat) (P : Program) (l : List Oper) (tail : List (Nat × Nat) → World → Act → Prop) (ws : List Nat) (fin : List Bool) (later : List Nat) (I : List (Nat × Nat)) (V : World) (A : Act) : Prop :=
 (later = [] ∧ tail I V A) ∨ ∃ x r o, later = x :: xsOf r fin ∧ x ∈ ws ∧ (∀ p ∈ r, p.2 ∈ ws ∧ p.1.length ≤ l.length) ∧ l[x]? = some o ∧ ∀ W, Below V.heap.size V W →
   wpListIn F n P l.toArray (Exit.then (fun a' W' => a'.defers = A.defers ∧ Below W.heap.size W W' ∧ wpFlow F n P l tail r fin ((W.heap.size, W'.heap.size) :: I) W' a') (fun _ _ _ => False)) [o] A W
/-- It may come up, and yields what A says. -/
def AvF (F : Fence) (n : Nat) (P : Program) (l : List Oper) (xs : List Nat) (a0 : Act) (ys : List Nat) (V : World) (A : Act) (i : Nat) : Prop :=
 ∀ o, l[i]? = some o → ∃ pre post, xs = pre ++ i :: post ∧ (∀ k ∈ pre, k ∈ ys) ∧ ∀ C, Good V C → ∃ LF, Mixed l (· ∈ pre) A a0 LF ∧ YieldsQuiet F n P l.toArray C o (valOf l A i) LF
section
variable {xs ws es : List Nat} {j : Nat} {a0 : Act} {tail : List (Nat × Nat) → World → Act → Prop} {fin : List Bool}
theorem enter_core (ok : FlowOk l xs ws es j) (hs : slotsM l a0.tmps.size = true) {ys qs rest : List Nat} {V : World} {A1 A : Act} (hx : xs = ys ++ (qs ++ rest)) (hA1 : Mixed l (· ∈ ys) A1 a0 A1) (hq : Quietly F n P l V (pick l qs) A1 A) :
  Mixed l (· ∈ ys ++ qs) A a0 A ∧ (∀ i ∈ ys, ∀ t, dstAt l i = some t → A1.tmps.getD t undef = A.tmps.getD t undef) ∧ ∀ i ∈ qs, AvF F n P l xs a0 (ys ++ qs) V A i := by
 have hslot : ∀ i, i < l.length → ∀ d, dstAt l i = some d → d < a0.tmps.size := fun i hi d hd => by
  have := List.all_eq_true.1 hs i (List.mem_range.2 hi)
  rw [hd] at this
  simpa using this
 have hnd := ok.nodup
 rw [hx, List.nodup_append] at hnd
 obtain ⟨_, hnd2, hdis⟩ := hnd
 have hqx : ∀ i ∈ qs, i ∈ xs := fun i hi => by rw [hx]; simp [hi]
 have hyx : ∀ i ∈ ys, i ∈ xs := fun i hi => by rw [hx]; simp [hi]
 have hcond : ∀ i ∈ qs, i < l.length ∧ ∃ d, dstAt l i = some d ∧ d < A1.tmps.size ∧ ∀ i' ∈ qs, dstAt l i' = some d → i' = i := fun i hi => by
  obtain ⟨h1, h2, h3⟩ := ok.x i (hqx i hi)
  obtain ⟨d, h4, h5⟩ := ok.own i h1 h3
  exact ⟨h1, d, h4, by rw [hA1.size]; exact hslot i h1 d h4, fun i' hi' hd' => h5 i' (ok.x i' (hqx i' hi')).1 hd'⟩
 have hnq : qs.Nodup := (List.nodup_append.1 hnd2).1
 have S := fun (C : World → Prop) (hC : Good V C) => quiet_seq (F := F) (n := n) (P := P) (l := l) (C := C) (A := A) qs A1 hcond hnq (hq.cls hC)
 obtain ⟨M, _⟩ := S _ (Good.above V)
 have same : ∀ i ∈ ys, ∀ t, dstAt l i = some t → A1.tmps.getD t undef = A.tmps.getD t undef := fun i hi t ht => by
  refine (M.out t fun i' hi' hd' => ?_).symm
  obtain ⟨h1, h2, h3⟩ := ok.x i (hyx i hi)
  obtain ⟨d, h4, h5⟩ := ok.own i h1 h3
  rw [ht] at h4
  cases h4
  have := h5 i' (ok.x i' (hqx i' hi')).1 hd'
  subst this
  exact hdis i' hi i' (by simp [hi']) rfl
 have B := hA1.change same
 refine ⟨(M.trans B).congr (fun i => by simp [or_comm]), same, fun i hi o ho => ?_⟩
 obtain ⟨pre, post, e⟩ := List.append_of_mem hi
 refine ⟨ys ++ pre, post ++ rest, by rw [hx, e]; simp, fun k hk => ?_, fun C hC => ?_⟩
 ·rw [e]
  rcases List.mem_append.1 hk with h | h <;> simp [h]
 ·obtain ⟨LF, h1, h2⟩ := (S C hC).2 pre i post e o ho
  exact ⟨LF, (h1.trans B).congr (fun k => by simp [or_comm]), h2⟩
theorem flow_enter (ok : FlowOk l xs ws es j) (hs : slotsM l a0.tmps.size = true) (hfin : fin.length ≤ l.length) (r : List (List Bool × Nat)) (hr : ∀ p ∈ r, p.2 ∈ ws ∧ p.1.length ≤ l.length) {ys : List Nat} {I : List (Nat × Nat)} {V : World} {A1 : Act} (h : wpFlow F n P l tail r fin I V A1) (hx : xs = ys ++ xsOf r fin) (hA1 : Mixed l (· ∈ ys) A1 a0 A1) :
  ∃ qs later A, xs = (ys ++ qs) ++ later ∧ Mixed l (· ∈ ys ++ qs) A a0 A ∧ (∀ i ∈ ys, ∀ t, dstAt l i = some t → A1.tmps.getD t undef = A.tmps.getD t undef) ∧ (∀ i ∈ qs, AvF F n P l xs a0 (ys ++ qs) V A i) ∧ NextF F n P l tail ws fin later I V A := by
 cases r with
 | nil =>
  obtain ⟨A, hq, ht⟩ := h
  rw [pickB_all l fin hfin] at hq
  obtain ⟨h1, h2, h3⟩ := enter_core ok hs (rest := []) (by rw [hx]; simp [xsOf]) hA1 hq
  exact ⟨idxs 0 fin, [], A, by rw [hx]; simp [xsOf], h1, h2, h3, .inl ⟨rfl, ht⟩⟩
 | cons p r =>
  obtain ⟨m, x⟩ := p
  obtain ⟨A, hq, o, ho, hw⟩ := h
  obtain ⟨hxw, hm⟩ := hr (m, x) (by simp)
  rw [pickB_all l m hm] at hq
  obtain ⟨h1, h2, h3⟩ := enter_core ok hs (rest := x :: xsOf r fin) (by rw [hx]; simp [xsOf]) hA1 hq
  exact ⟨idxs 0 m, x :: xsOf r fin, A, by rw [hx]; simp [xsOf], h1, h2, h3, .inr ⟨x, r, o, rfl, hxw, fun p hp => hr p (by simp [hp]), ho, hw⟩⟩
end

/-- What the end is given: the new block's place. -/
def tailF (F : Fence) (n : Nat) (P : Program) (l : List Oper) (es : List Bool) (j : Nat) (dj : Tmp) (fv : Nat → Value) (ty : TypeId) (cs : Array Value) (V0 : World) (Qn : Act → World → Prop) : List (Nat × Nat) → World → Act → Prop := fun I V A =>
 ∀ b W, Below V.heap.size V W → (j < l.length → V0.heap.size ≤ b ∧ Blk W b ty cs ∧ ∀ p ∈ I, b < p.1 ∨ p.2 ≤ b) → wpT F n P l.toArray Qn (pickB l es) (if j < l.length then A.put (some dj) (fv b) else A) W

/-- THE LAW. -/
theorem wpIn_region_flow {Q : Exit → Act → World → Prop} {id : Nat} {a0 : Act} {w V0 : World} (stages : List (List Bool × Nat)) (fin em : List Bool) (j : Nat) (dj : Tmp) (fv : Nat → Value) (ty : TypeId) (cs : Array Value)
  (hm : P.follows .mixedOrders = true) (hB : (flowB l (xsOf stages fin) (stages.map (·.2)) (idxs 0 em) j && stages.all (fun p => decide (p.1.length ≤ l.length)) && decide (fin.length ≤ l.length) && decide (em.length ≤ l.length)) = true)
  (hs : slotsM l a0.tmps.size = true) (hV : Below V0.heap.size V0 w.drew)
  (hj : j < l.length → ∃ oj, l[j]? = some oj ∧ oj.dst = some dj ∧ oj.guard = none ∧ (∀ ρ W, oj.about P W ρ = none) ∧ ∀ ρ W, (execOp ρ oj).run P W = .ok (.value (fv W.heap.size)) (W.alloc (.cells cs ty)))
  (h : wpFlow F n P l (tailF F n P l em j dj fv ty cs V0 (Q .normal)) stages fin [] V0 a0) : (Code.region id l.toArray true).wpIn F n P Q a0 w := by
 simp only [Bool.and_eq_true, decide_eq_true_eq] at hB
 obtain ⟨⟨⟨hB, hst⟩, hfin⟩, hem⟩ := hB
 have ok := flowOk hB
 obtain ⟨xs, hxs⟩ : ∃ xs, xsOf stages fin = xs := ⟨_, rfl⟩
 obtain ⟨ws, hws⟩ : ∃ ws, stages.map (·.2) = ws := ⟨_, rfl⟩
 obtain ⟨es, hes⟩ : ∃ es, idxs 0 em = es := ⟨_, rfl⟩
 rw [hxs, hws, hes] at ok
 have hpe : pickB l em = pick l es := by rw [← hes]; exact pickB_all l em hem
 have hr0 : ∀ p ∈ stages, p.2 ∈ ws ∧ p.1.length ≤ l.length := fun p hp => ⟨by rw [← hws]; exact List.mem_map.2 ⟨p, hp, rfl⟩, by simpa using List.all_eq_true.1 hst p hp⟩
 have hnd : noDefer l.toArray := noDefer_of ok.nodef
 have hslot : ∀ i, i < l.length → ∀ d, dstAt l i = some d → d < a0.tmps.size := fun i hi d hd => by
  have := List.all_eq_true.1 hs i (List.mem_range.2 hi)
  rw [hd] at this
  simpa using this
 have hje : j < l.length → j ∉ es := fun hlt he => (ok.e j he).2 rfl
 have hdj : j < l.length → dstAt l j = some dj := fun hlt => by
  obtain ⟨oj, h1, h2, _⟩ := hj hlt
  unfold dstAt; rw [h1]; exact h2
 have hjd : j < l.length → ∀ i, i < l.length → dstAt l i = some dj → i = j := fun hlt i hi hd => by
  obtain ⟨d, h1, h2⟩ := ok.own j hlt (hje hlt)
  rw [hdj hlt] at h1
  cases h1
  exact h2 i hi hd
 let tail := tailF F n P l em j dj fv ty cs V0 (Q .normal)
 let cls : List (Nat × Nat) → World → Option Nat → World → Prop := fun I V ob W => Below V.heap.size V W ∧ ∀ b, ob = some b → V0.heap.size ≤ b ∧ Blk W b ty cs ∧ ∀ p ∈ I, b < p.1 ∨ p.2 ≤ b
 have growC : ∀ {I V ob W W'}, cls I V ob W → Below W.heap.size W W' → cls I V ob W' := fun hc hb => ⟨hc.1.trans (hb.mono hc.1.size), fun b e => ⟨(hc.2 b e).1, (hc.2 b e).2.1.below hb (hc.2 b e).2.1.lt, (hc.2 b e).2.2⟩⟩
 let wJ : Option Nat → Act → Act := fun ob a => match ob with
  | some b => a.put (some dj) (fv b)
  | none => a
 have wJs : ∀ ob a, (wJ ob a).tmps.size = a.tmps.size := fun ob a => by cases ob <;> simp [wJ, Act.put]
 have wJd : ∀ ob a, (wJ ob a).defers = a.defers := fun ob a => by cases ob <;> simp [wJ, Act.put]
 have wJo : ∀ ob a t, (ob.isSome = true → dj ≠ t) → (wJ ob a).tmps.getD t undef = a.tmps.getD t undef := fun ob a t ht => by
  cases ob with
  | none => rfl
  | some b => exact getD_set_other a.tmps (fv b) (ht rfl)
 have wJp : ∀ ob a d v, (ob.isSome = true → d ≠ dj) → (wJ ob a).put (some d) v = wJ ob (a.put (some d) v) := fun ob a d v hd => by
  cases ob with
  | none => rfl
  | some b => exact Act.put_comm a (x := some dj) (y := some d) (fv b) v (fun d' e => by cases e; intro e'; exact hd rfl (Option.some.inj e'))
 let StA : Array Bool → Act → World → Prop := fun listed a W => listed.size = l.length ∧ (∀ e ∈ es, listed.getD e false = false) ∧ ∃ (ys later : List Nat) (A : Act) (V : World) (I : List (Nat × Nat)) (ob : Option Nat) (a1 : Act), xs = ys ++ later ∧ (∀ i ∈ later, listed.getD i false = false) ∧ Mixed l (· ∈ ys) A a0 A ∧
  Mixed l (fun i => i ∈ xs ∧ listed.getD i false = true) A a0 a1 ∧ a = wJ ob a1 ∧ (∀ i ∈ ys, listed.getD i false = false → AvF F n P l xs a0 ys V A i) ∧ (j < l.length → listed.getD j false = ob.isSome) ∧ (l.length ≤ j → ob = none) ∧ cls I V ob W ∧ (∀ p ∈ I, p.2 ≤ V.heap.size) ∧ V0.heap.size ≤ V.heap.size ∧ NextF F n P l tail ws fin later I V A
 let Miss : Array Bool → Tmp → Prop := fun listed t => ∃ i ∈ xs, listed.getD i false = false ∧ dstAt l i = some t
 let StB : Array Bool → Act → World → Prop := fun listed a W => listed.size = l.length ∧ ∃ (A Ac : Act) (m : Nat), m ≤ es.length ∧ (∀ e ∈ es.take m, listed.getD e false = true) ∧ (∀ e ∈ es.drop m, listed.getD e false = false) ∧ (j < l.length → listed.getD j false = true) ∧ Rel (Miss listed) a Ac ∧ (∀ t, Miss listed t → a.tmps.getD t undef = a0.tmps.getD t undef) ∧ Ac.tmps.size = a0.tmps.size ∧
  (∀ i ∈ xs, ∀ t, dstAt l i = some t → Ac.tmps.getD t undef = A.tmps.getD t undef) ∧ (∀ t, (∀ i, i < l.length → dstAt l i ≠ some t) → Ac.tmps.getD t undef = a0.tmps.getD t undef) ∧
  (∀ i ∈ xs, listed.getD i false = false → ∀ o, l[i]? = some o → ∃ pre post LF, xs = pre ++ i :: post ∧ Mixed l (· ∈ pre) A a0 LF ∧ YieldsAll F P l.toArray o (valOf l A i) LF) ∧ wpT F n P l.toArray (Q .normal) (pick l (es.drop m)) Ac W
 have setD : ∀ (listed : Array Bool) (i i' : Nat), listed.size = l.length → i < l.length → (listed.setIfInBounds i true).getD i' false = done (fun i => listed.getD i false) i i' := fun listed i i' hsz hi => by
  unfold done
  by_cases e : i' = i
  ·subst e
   rw [if_pos rfl, Array.getD_eq_getD_getElem?, Array.getElem?_setIfInBounds]
   have : i' < listed.size := by omega
   simp [this]
  ·rw [if_neg e, getD_set_ne false (Ne.symm e)]
 have mixS : ∀ (listed : Array Bool) (i : Nat), listed.size = l.length → i < l.length → i ∈ xs → ∀ k, ((k ∈ xs ∧ listed.getD k false = true) ∨ k = i) ↔ (k ∈ xs ∧ (listed.setIfInBounds i true).getD k false = true) := fun listed i hsz hi hix k => by
  rw [setD listed i k hsz hi]
  unfold done
  by_cases e : k = i
  ·subst e; simp [hix]
  ·simp [e]
 have obJ : ∀ {ob : Option Nat}, (l.length ≤ j → ob = none) → ob.isSome = true → j < l.length := fun h h' => by
  rcases Nat.lt_or_ge j l.length with h1 | h1
  ·exact h1
  ·rw [h h1] at h'; cases h'
 -- what an operation reads
 have agreeA : ∀ {listed : Array Bool} {A LF a1 : Act} {ob : Option Nat} {pre post : List Nat} {i : Nat} {o : Oper}, l[i]? = some o → xs = pre ++ i :: post → (∀ i', afterB l i i' = true → listed.getD i' false = true) → (∀ i', afterB l i' i = true → listed.getD i' false = false) → (l.length ≤ j → ob = none) →
   Mixed l (· ∈ pre) A a0 LF → Mixed l (fun i => i ∈ xs ∧ listed.getD i false = true) A a0 a1 → ∀ t ∈ o.looksAt l.toArray, LF.tmps.getD t undef = (wJ ob a1).tmps.getD t undef := by
  intro listed A LF a1 ob pre post i o hol hx hwait hopen hob hLF hM t ht
  by_cases hex : ∃ i', i' < l.length ∧ dstAt l i' = some t
  ·obtain ⟨i', hi', hd⟩ := hex
   rcases ok.deps pre i post hx o hol t ht i' hi' hd with ⟨h1, h2⟩ | ⟨h1, h2⟩
   rotate_left
   ·have hix : i' ∈ xs := by rw [hx]; simp [h2]
    obtain ⟨d, h8, h9⟩ := ok.own i' hi' (ok.x i' hix).2.2
    rw [hd] at h8
    cases h8
    rw [wJo ob a1 t (fun hsm e => by
     have hlt := obJ hob hsm
     subst e
     exact (ok.x i' hix).2.1 (hjd hlt i' hi' hd)), hLF.out t (fun i2 hi2 hd2 => by
      have h10 := h9 i2 (ok.x i2 (by rw [hx]; simp [hi2])).1 hd2
      subst h10
      have h11 := ok.nodup
      rw [hx, List.nodup_append] at h11
      exact h11.2.2 i2 hi2 i2 (List.mem_cons_of_mem _ h2) rfl), hM.out t (fun i2 hi2 hd2 => by
      have h10 := h9 i2 (ok.x i2 hi2.1).1 hd2
      subst h10
      rw [hopen _ h1] at hi2
      cases hi2.2)]
   have hix : i' ∈ xs := by rw [hx]; simp [h2]
   rw [wJo ob a1 t (fun hsm e => by
    have hlt := obJ hob hsm
    subst e
    exact (ok.x i' hix).2.1 (hjd hlt i' hi' hd)), hLF.in_ i' h2 t hd, hM.in_ i' ⟨hix, hwait i' h1⟩ t hd]
  ·have hno : ∀ i', i' < l.length → dstAt l i' ≠ some t := fun i' hi' hd => hex ⟨i', hi', hd⟩
   rw [wJo ob a1 t (fun hsm e => by
    have hlt := obJ hob hsm
    subst e
    exact hno j hlt (hdj hlt)), hLF.out t (fun i' hi' => hno i' (ok.x i' (by rw [hx]; simp [hi'])).1), hM.out t (fun i' hi' => hno i' (ok.x i' hi'.1).1)]
 have toB : ∀ listed a W, StA listed a W → (j < l.length → listed.getD j false = true) → (∀ i ∈ xs, listed.getD i false = false → ∀ o, l[i]? = some o → lateB o = true ∧ i ∉ ws) → StB listed a W := by
  rintro listed a W ⟨hsz, hesl, ys, later, A, V, I, ob, a1, hx, hlater, hA, hM, rfl, hav, h1, h2, hc, hI, hVV, hnext⟩ hjl hfl
  have hlt : later = [] ∧ tail I V A := by
   rcases hnext with h | ⟨x, r, o, e, hxw, _, ho, _⟩
   ·exact h
   ·exact absurd hxw (hfl x (by rw [hx, e]; simp) (hlater x (by rw [e]; simp)) o ho).2
  obtain ⟨rfl, ht⟩ := hlt
  rw [List.append_nil] at hx
  have hyx : ∀ i, i ∈ ys ↔ i ∈ xs := fun i => by rw [hx]
  have hfacts : ∃ b, (j < l.length → ob = some b) ∧ (j < l.length → V0.heap.size ≤ b ∧ Blk W b ty cs ∧ ∀ p ∈ I, b < p.1 ∨ p.2 ≤ b) := by
   by_cases h : j < l.length
   ·have h3 := h1 h
    rw [hjl h] at h3
    obtain ⟨b, rfl⟩ := Option.isSome_iff_exists.1 h3.symm
    exact ⟨b, fun _ => rfl, fun _ => hc.2 b rfl⟩
   ·exact ⟨0, fun h' => absurd h' h, fun h' => absurd h' h⟩
  obtain ⟨b, hob, hblk⟩ := hfacts
  have hw := ht b W hc.1 hblk
  have hAc : (if j < l.length then A.put (some dj) (fv b) else A) = wJ ob A := by
   by_cases h : j < l.length
   ·rw [if_pos h, hob h]
   ·rw [if_neg h, h2 (by omega)]
  rw [hAc, hpe] at hw
  refine ⟨hsz, A, _, 0, Nat.zero_le _, (fun e he => by simp at he), (fun e he => hesl e (by simpa using he)), hjl, ⟨?_, ?_, fun t ht' => ?_⟩, fun t ht' => ?_, ?_, fun i hi t hd => ?_, fun t hno => ?_, fun i hi hf o ho => ?_, by simpa using hw⟩
  ·rw [wJd, wJd, hM.defers, hA.defers]
  ·rw [wJs, wJs, hM.size, hA.size]
  ·by_cases e : ob.isSome = true ∧ dj = t
   ·obtain ⟨e1, rfl⟩ := e
    obtain ⟨b', rfl⟩ := Option.isSome_iff_exists.1 e1
    have hlt := obJ h2 e1
    show (a1.tmps.setIfInBounds dj (fv b')).getD dj undef = (A.tmps.setIfInBounds dj (fv b')).getD dj undef
    rw [getD_set_same _ _ _ (by rw [hM.size]; exact hslot j hlt dj (hdj hlt)), getD_set_same _ _ _ (by rw [hA.size]; exact hslot j hlt dj (hdj hlt))]
   ·rw [wJo ob a1 t (fun h3 h4 => e ⟨h3, h4⟩), wJo ob A t (fun h3 h4 => e ⟨h3, h4⟩)]
    by_cases hex : ∃ i ∈ xs, dstAt l i = some t
    ·obtain ⟨i, hi, hd⟩ := hex
     have hl : listed.getD i false = true := by
      cases hc' : listed.getD i false with
      | true => rfl
      | false => exact absurd ⟨i, hi, hc', hd⟩ ht'
     exact hM.in_ i ⟨hi, hl⟩ t hd
    ·rw [hM.out t (fun i hi hd => hex ⟨i, hi.1, hd⟩), hA.out t (fun i hi hd => hex ⟨i, (hyx i).1 hi, hd⟩)]
  ·obtain ⟨i, hi, hu, hd⟩ := ht'
   obtain ⟨d, h8, h9⟩ := ok.own i (ok.x i hi).1 (ok.x i hi).2.2
   rw [hd] at h8
   cases h8
   rw [wJo ob a1 t (fun hsm e => by
    have hlt := obJ h2 hsm
    subst e
    exact (ok.x i hi).2.1 (hjd hlt i (ok.x i hi).1 hd))]
   refine hM.out t fun i2 hi2 hd2 => ?_
   have h10 := h9 i2 (ok.x i2 hi2.1).1 hd2
   subst h10
   rw [hu] at hi2
   cases hi2.2
  ·rw [wJs, hA.size]
  ·exact wJo ob A t (fun h3 h4 => (ok.x i hi).2.1 (hjd (obJ h2 h3) i (ok.x i hi).1 (by rw [hd, h4])))
  ·rw [wJo ob A t (fun h3 h4 => hno j (obJ h2 h3) (by rw [hdj (obJ h2 h3), h4]))]
   exact hA.out t fun i hi => hno i (ok.x i ((hyx i).1 hi)).1
  ·obtain ⟨pre, post, e1, e2, e3⟩ := hav i ((hyx i).2 hi) hf o ho
   obtain ⟨LF, h3, h4⟩ := e3 _ (Good.above V)
   exact ⟨pre, post, LF, e1, h3, late_yields (hfl i hi hf o ho).1 ⟨V, Below.refl _ _⟩ h4⟩
 let St : Array Bool → Act → World → Prop := fun listed a W => StA listed a W ∨ StB listed a W
 have stepB : ∀ listed a W i o, l[i]? = some o → listed.getD i true = false → (∀ i', afterB l i i' = true → listed.getD i' false = true) → (∀ i', afterB l i' i = true → listed.getD i' false = false) → StB listed a W → wpListIn F n P l.toArray (Exit.then (St (listed.setIfInBounds i true)) Q) [o] a W := by
  rintro listed a W i o hol hu hwait hopen ⟨hsz, A, Ac, m, hm', ht, hdp, hjl, hR, hMi, hAcs, hAcx, hAco, hfl, hwp⟩
  have hi : i < l.length := (List.getElem?_eq_some_iff.1 hol).1
  have hfalse : listed.getD i false = false := getD_both hu
  have hsel : ∀ cs b, o.op ≠ .select cs b := fun cs b => Region.noSelect_spec ok.nosel i o cs b (by simpa using hol)
  rcases ok.part i hi with hix | hie | hij
  ·obtain ⟨pre, post, LF, hx, hLF, hy⟩ := hfl i hix hfalse o hol
   have hag : ∀ t ∈ o.looksAt l.toArray, LF.tmps.getD t undef = a.tmps.getD t undef := fun t ht' => by
    by_cases hex : ∃ i', i' < l.length ∧ dstAt l i' = some t
    ·obtain ⟨i', hi', hd⟩ := hex
     rcases ok.deps pre i post hx o hol t ht' i' hi' hd with ⟨h1, h2⟩ | ⟨h1, h2⟩
     rotate_left
     ·have hix' : i' ∈ xs := by rw [hx]; simp [h2]
      obtain ⟨d, h8, h9⟩ := ok.own i' hi' (ok.x i' hix').2.2
      rw [hd] at h8
      cases h8
      rw [hMi t ⟨i', hix', hopen _ h1, hd⟩]
      refine hLF.out t fun i2 hi2 hd2 => ?_
      have h10 := h9 i2 (ok.x i2 (by rw [hx]; simp [hi2])).1 hd2
      subst h10
      have h11 := ok.nodup
      rw [hx, List.nodup_append] at h11
      exact h11.2.2 i2 hi2 i2 (List.mem_cons_of_mem _ h2) rfl
     have hix' : i' ∈ xs := by rw [hx]; simp [h2]
     rw [hLF.in_ i' h2 t hd, hR.same t (fun ⟨i2, h5, h6, h7⟩ => by
      obtain ⟨d, h8, h9⟩ := ok.own i' hi' (ok.x i' hix').2.2
      rw [hd] at h8
      cases h8
      have := h9 i2 (ok.x i2 h5).1 h7
      subst this
      rw [hwait _ h1] at h6
      cases h6), hAcx i' hix' t hd]
    ·have hno : ∀ i', i' < l.length → dstAt l i' ≠ some t := fun i' hi' hd => hex ⟨i', hi', hd⟩
     rw [hLF.out t (fun i' hi' => hno i' (ok.x i' (by rw [hx]; simp [hi'])).1), hR.same t (fun ⟨i2, h5, _, h7⟩ => hno i2 (ok.x i2 h5).1 h7), hAco t hno]
   have hya := hy.agree hsel (hLF.size.trans (hAcs.symm.trans hR.size.symm)) hag
   obtain ⟨d, hdi, huniq⟩ := ok.own i hi (ok.x i hix).2.2
   have hdo : o.dst = some d := by unfold dstAt at hdi; rw [hol] at hdi; exact hdi
   have hnext : St (listed.setIfInBounds i true) (a.put o.dst (valOf l A i)) W := by
    refine .inr ⟨by simpa using hsz, A, Ac, m, hm', fun e he => ?_, fun e he => ?_, fun h => ?_, ?_, fun t ht' => ?_, hAcs, hAcx, hAco, fun i' hi' hf => ?_, hwp⟩
    ·rw [setD _ _ _ hsz hi]; unfold done; split
     ·rfl
     ·exact ht e he
    ·rw [setD _ _ _ hsz hi]; unfold done; rw [if_neg (fun e' => by subst e'; exact (ok.x e hix).2.2 (List.mem_of_mem_drop he))]; exact hdp e he
    ·rw [setD _ _ _ hsz hi]; unfold done; split
     ·rfl
     ·exact hjl h
    ·rw [hdo]
     refine ⟨hR.defers, by rw [← hR.size]; simp [Act.put], fun t ht' => ?_⟩
     by_cases e : t = d
     ·subst e
      rw [show (a.put (some t) (valOf l A i)).tmps = a.tmps.setIfInBounds t (valOf l A i) from rfl, getD_set_same _ _ _ (by rw [hR.size, hAcs]; exact hslot i hi t hdi), hAcx i hix t hdi]
      unfold valOf; rw [hdi]; rfl
     ·rw [show (a.put (some d) (valOf l A i)).tmps = a.tmps.setIfInBounds d (valOf l A i) from rfl, getD_set_other _ _ (Ne.symm e)]
      refine hR.same t fun ⟨i2, h5, h6, h7⟩ => ht' ⟨i2, h5, ?_, h7⟩
      rw [setD _ _ _ hsz hi]; unfold done
      rw [if_neg (fun e' => by subst e'; rw [hdi] at h7; exact e (Option.some.inj h7).symm)]
      exact h6
    ·obtain ⟨i2, h5, h6, h7⟩ := ht'
     rw [setD _ _ _ hsz hi] at h6
     unfold done at h6
     split at h6
     ·cases h6
     ·rename_i hne
      have e : d ≠ t := fun e => by
       subst e
       exact hne (huniq i2 (ok.x i2 h5).1 h7)
      rw [hdo, show (a.put (some d) (valOf l A i)).tmps = a.tmps.setIfInBounds d (valOf l A i) from rfl, getD_set_other _ _ e]
      exact hMi t ⟨i2, h5, h6, h7⟩
    ·rw [setD _ _ _ hsz hi] at hf
     unfold done at hf
     split at hf
     ·cases hf
     ·exact hfl i' hi' hf
   simp only [wpListIn]
   rcases hya.2 with ⟨hw, hv⟩ | ⟨hw, hv⟩
   ·rw [if_pos hw]
    unfold Oper.wpIn
    refine ⟨hya.1 W, ?_⟩
    rw [Oper.semAt_eq _ _ _ (hnd i o (by simpa using hol)), hv W]
    exact hnext
   ·rw [if_neg (by rw [hw]; simp)]
    refine ⟨hya.1 W, ?_⟩
    rw [hv] at hnext
    exact hnext
  ·have hmem : i ∈ es.drop m := by
    rcases (List.mem_append.1 (by rw [List.take_append_drop]; exact hie : i ∈ es.take m ++ es.drop m)) with h | h
    ·rw [ht i h] at hfalse; cases hfalse
    ·exact h
   have hml : m < es.length := by
    rcases Nat.lt_or_ge m es.length with h | h
    ·exact h
    ·rw [List.drop_of_length_le h] at hmem; cases hmem
   have hdrop : es.drop m = es[m] :: es.drop (m + 1) := List.drop_eq_getElem_cons hml
   have hie' : i = es[m] := by
    rw [hdrop] at hmem
    rcases List.mem_cons.1 hmem with h | h
    ·exact h
    ·exfalso
     have hlt : es[m] < i := by
      have hp := ok.upE.sublist (List.drop_sublist m es)
      rw [hdrop, List.pairwise_cons] at hp
      exact hp.1 i h
     have h1 := hwait _ (ok.chain i hie es[m] (List.getElem_mem _) hlt)
     rw [hdp es[m] (by rw [hdrop]; exact List.mem_cons_self)] at h1
     cases h1
   rw [hdrop, ← hie', pick_cons hol] at hwp
   have hdn : o.dst = none := by
    have := ok.edst i hie
    unfold dstAt at this
    rw [hol] at this
    exact this
   refine wpListIn_rel hsel (hnd i o (by simpa using hol)) hdn hR (fun t ht' => ?_) hwp ?_
   ·rintro ⟨i2, h5, h6, h7⟩
    rw [hwait _ (ok.depsE i hie o hol t ht' i2 (ok.x i2 h5).1 h7)] at h6
    cases h6
   ·rintro A' a' W' eA ea ed hwp'
    refine .inr ⟨by simpa using hsz, A, A', m + 1, hml, fun e he => ?_, fun e he => ?_, fun h => ?_, ?_, fun t ht' => ?_, by rw [eA]; exact hAcs, by rw [eA]; exact hAcx, by rw [eA]; exact hAco, fun i' hi' hf => ?_, hwp'⟩
    ·rw [setD _ _ _ hsz hi]; unfold done; split
     ·rfl
     ·rename_i hne
      rw [List.take_succ_eq_append_getElem hml] at he
      rcases List.mem_append.1 he with h | h
      ·exact ht e h
      ·exact absurd ((List.mem_singleton.1 h).trans hie'.symm) hne
    ·rw [setD _ _ _ hsz hi]; unfold done
     have hne : e ≠ i := fun e' => by
      have hp := ok.upE.sublist (List.drop_sublist m es)
      rw [hdrop, List.pairwise_cons] at hp
      have := hp.1 e he
      omega
     rw [if_neg hne]
     exact hdp e (by rw [hdrop]; exact List.mem_cons_of_mem _ he)
    ·rw [setD _ _ _ hsz hi]; unfold done; split
     ·rfl
     ·exact hjl h
    ·refine ⟨ed, by rw [ea, eA]; exact hR.size, fun t ht' => ?_⟩
     rw [ea, eA]
     refine hR.same t fun ⟨i2, h5, h6, h7⟩ => ht' ⟨i2, h5, ?_, h7⟩
     rw [setD _ _ _ hsz hi]; unfold done
     rw [if_neg (fun e' => by subst e'; exact (ok.x i2 h5).2.2 hie)]
     exact h6
    ·obtain ⟨i2, h5, h6, h7⟩ := ht'
     rw [setD _ _ _ hsz hi] at h6
     unfold done at h6
     split at h6
     ·cases h6
     ·rw [ea]
      exact hMi t ⟨i2, h5, h6, h7⟩
    ·rw [setD _ _ _ hsz hi] at hf
     unfold done at hf
     split at hf
     ·cases hf
     ·exact hfl i' hi' hf
  ·subst hij
   rw [hjl hi] at hfalse
   cases hfalse
 refine wpIn_region_inv2 hm St ?_ ?_ ?_ ?_
 ·rintro listed a W (⟨h, _⟩ | ⟨h, _⟩) <;> simpa using h
 ·obtain ⟨qs, later, A, hx, hA, _, hav, hnext⟩ := flow_enter (F := F) (n := n) (P := P) (tail := tail) (a0 := a0) ok hs hfin stages hr0 (ys := []) h (by simpa using hxs.symm) (Mixed.nil (by simp))
  have hrep : ∀ i, (Array.replicate l.toArray.size false).getD i false = false := fun i => getD_replicate_false _ _
  refine .inl ⟨by simp, fun e _ => hrep e, qs, later, A, V0, [], none, a0, by simpa using hx, fun i _ => hrep i, by simpa using hA, Mixed.nil (fun i hi => by rw [hrep i] at hi; cases hi.2), rfl, fun i hi _ => by simpa using hav i hi, fun _ => hrep j, fun _ => rfl, ⟨hV, fun b e => by cases e⟩, fun p hp => by simp at hp, Nat.le_refl _, hnext⟩
 ·rintro listed a W i o ho hu hd hcl hst
  have hol : l[i]? = some o := by simpa using ho
  have hi : i < l.length := (List.getElem?_eq_some_iff.1 hol).1
  have hwait : ∀ i', afterB l i i' = true → listed.getD i' false = true := fun i' h => by
   unfold afterB at h
   rw [hol] at h
   obtain ⟨e, he, h2⟩ := List.any_eq_true.1 h
   simp only [Bool.and_eq_true, beq_iff_eq] at h2
   rw [← h2.1]
   exact hd e (by simpa using he) h2.2
  have hopen := behind_open hcl (i := i) (getD_both hu)
  rcases hst with hA0 | hBB
  ·obtain ⟨hsz, hesl, ys, later, A, V, I, ob, a1, hx, hlater, hA, hM, rfl, hav, h1, h2, hc, hI, hVV, hnext⟩ := hA0
   have hfalse : listed.getD i false = false := getD_both hu
   have hsel : ∀ cs b, o.op ≠ .select cs b := fun cs b => Region.noSelect_spec ok.nosel i o cs b ho
   rcases ok.part i hi with hix | hie | hij
   ·have hij : i ≠ j := (ok.x i hix).2.1
    obtain ⟨d, hdi, hun⟩ := ok.own i hi (ok.x i hix).2.2
    have hdo : o.dst = some d := by unfold dstAt at hdi; rw [hol] at hdi; exact hdi
    have hdd : ob.isSome = true → d ≠ dj := fun hsm e => by subst e; exact hij (hjd (obJ h2 hsm) i hi hdi)
    have e1 : ∀ e ∈ es, (listed.setIfInBounds i true).getD e false = false := fun e he => by
     rw [setD _ _ _ hsz hi]; unfold done
     rw [if_neg (fun e' => by subst e'; exact (ok.x e hix).2.2 he)]
     exact hesl e he
    have e2 : j < l.length → (listed.setIfInBounds i true).getD j false = ob.isSome := fun h => by
     rw [setD _ _ _ hsz hi]; unfold done
     rw [if_neg (Ne.symm hij)]
     exact h1 h
    have hmem : i ∈ ys ∨ i ∈ later := by rw [hx] at hix; exact List.mem_append.1 hix
    rcases hmem with hy | hlt
    ·-- quiet
     obtain ⟨pre, post, hp1, hp2, hp3⟩ := hav i hy hfalse o hol
     obtain ⟨LF, hLF, hyq⟩ := hp3 (cls I V ob) ⟨⟨W, hc⟩, fun _ h => h.1, fun W W' h k => growC h k⟩
     have hag := agreeA hol hp1 hwait hopen h2 hLF hM
     have hya := yields_agree hsel (hLF.size.trans ((wJs ob a1).trans hM.size).symm) hag hyq
     have hval : valOf l A i = A.tmps.getD d undef := by unfold valOf; rw [hdi]; rfl
     have hnx : ∀ W', cls I V ob W' → St (listed.setIfInBounds i true) ((wJ ob a1).put o.dst (valOf l A i)) W' := fun W' hW' => by
      refine .inl ⟨by simpa using hsz, e1, ys, later, A, V, I, ob, a1.put (some d) (A.tmps.getD d undef), hx, fun k hk => ?_, hA, (hM.step hdi (fun i' hi' hd' => hun i' (ok.x i' hi'.1).1 hd') (hslot i hi d hdi)).congr (mixS listed i hsz hi hix), by rw [hdo, hval]; exact wJp ob a1 d _ hdd, fun k hk hf => ?_, e2, h2, hW', hI, hVV, hnext⟩
      ·rw [setD _ _ _ hsz hi]; unfold done
       rw [if_neg (fun e' => by
        subst e'
        have := ok.nodup
        rw [hx, List.nodup_append] at this
        exact this.2.2 k hy k hk rfl)]
       exact hlater k hk
      ·rw [setD _ _ _ hsz hi] at hf
       unfold done at hf
       split at hf
       ·cases hf
       ·exact hav k hk hf
     simp only [wpListIn]
     rcases hya.2 with ⟨hw, hv⟩ | ⟨hw, hv⟩
     ·rw [if_pos hw]
      exact wpIn_of_quiet' (K := fun a' => a' = (wJ ob a1).put o.dst (valOf l A i)) (hnd i o ho) hc (fun a' W' hW' ha' => by subst ha'; exact hnx W' hW') hya.1 ⟨_, hv, rfl⟩
     ·rw [if_neg (by rw [hw]; simp)]
      refine ⟨hya.1 W hc, ?_⟩
      have := hnx W hc
      rw [hv] at this
      exact this
    ·rcases hnext with ⟨h3, _⟩ | ⟨x, r, ox, he, hxw, hr, hox, hwx⟩
     ·rw [h3] at hlt; cases hlt
     rw [he] at hlt
     rcases List.mem_cons.1 hlt with rfl | hlt
     ·-- the next call
      obtain rfl : ox = o := Option.some.inj (hox.symm.trans hol)
      have hp1 : xs = ys ++ i :: xsOf r fin := by rw [hx, he]
      have hag := agreeA hol hp1 hwait hopen h2 hA hM
      refine wpListIn_relD hsel (hnd i ox ho) (by rw [wJs, hM.size, hA.size]) hag (hwx W hc.1) ?_
      rintro A' a' W' v eA ea ed ⟨hdf, hbW, hfl⟩
      have hpd : ∀ (z : Act) (u : Value), (z.put ox.dst u).defers = z.defers := fun z u => by cases ox.dst <;> rfl
      have eA' : A' = A.put (some d) v := by
       obtain ⟨t1, d1⟩ := A'
       rw [hdo] at eA
       simp only at eA hdf
       subst eA hdf
       rfl
      have ea' : a' = (wJ ob a1).put (some d) v := by
       obtain ⟨t1, d1⟩ := a'
       rw [hdo] at ea
       have h5 := ed hdf
       simp only at ea h5
       subst ea h5
       rfl
      rw [eA'] at hfl
      have hA1 : Mixed l (· ∈ ys ++ [i]) (A.put (some d) v) a0 (A.put (some d) v) := by
       have hpt : (A.put (some d) v).tmps = A.tmps.setIfInBounds d v := rfl
       refine ⟨hA.defers, by rw [hpt]; simpa using hA.size, fun _ _ _ _ => rfl, fun t ht => ?_⟩
       rw [hpt, getD_set_other _ _ (fun e => ht i (by simp) (by rw [hdi, e]))]
       exact hA.out t fun k hk => ht k (by simp [hk])
      obtain ⟨qs, later', A2, hx2, hA2, hsame, hav2, hnext2⟩ := flow_enter (F := F) (n := n) (P := P) (tail := tail) (a0 := a0) ok hs hfin r hr (ys := ys ++ [i]) hfl (by rw [hp1]; simp) hA1
      have hbV : Below V.heap.size V W' := hc.1.trans (hbW.mono hc.1.size)
      have hdv : (A.put (some d) v).tmps.getD d undef = v := getD_set_same _ _ _ (by rw [hA.size]; exact hslot i hi d hdi)
      have hold : ∀ k ∈ ys, ∀ t, dstAt l k = some t → A.tmps.getD t undef = A2.tmps.getD t undef := fun k hk t hd => by
       rw [← hsame k (by simp [hk]) t hd]
       refine (getD_set_other _ _ (fun e => ?_)).symm
       subst e
       have hkx : k ∈ xs := by rw [hx]; simp [hk]
       have := hun k (ok.x k hkx).1 hd
       subst this
       have h6 := ok.nodup
       rw [hp1, List.nodup_append] at h6
       exact h6.2.2 k hk k (by simp) rfl
      have hlat : ∀ k ∈ later', k ∈ later := fun k hk => by
       have h6 : xs = ys ++ (i :: (qs ++ later')) := by rw [hx2]; simp
       rw [hp1] at h6
       have h7 := List.append_cancel_left h6
       rw [he, h7]
       simp [hk]
      have hlist : ∀ k, k ∈ xs ∧ listed.getD k false = true → k ∈ ys := fun k hk => by
       have := hk.1
       rw [hx] at this
       rcases List.mem_append.1 this with h | h
       ·exact h
       ·rw [hlater k h] at hk; cases hk.2
      have hM2 : Mixed l (fun k => k ∈ xs ∧ (listed.setIfInBounds i true).getD k false = true) A2 a0 (a1.put (some d) v) := by
       have h6 := (hM.change (A' := A2) (fun k hk t hd => hold k (hlist k hk) t hd)).step hdi (fun i' hi' hd' => hun i' (ok.x i' hi'.1).1 hd') (hslot i hi d hdi)
       have h7 : A2.tmps.getD d undef = v := by rw [← hsame i (by simp) d hdi]; exact hdv
       rw [h7] at h6
       exact h6.congr (mixS listed i hsz hi hix)
      refine .inl ⟨by simpa using hsz, e1, ys ++ [i] ++ qs, later', A2, W', (W.heap.size, W'.heap.size) :: I, ob, a1.put (some d) v, hx2, fun k hk => ?_, hA2, hM2, by rw [ea']; exact wJp ob a1 d v hdd, fun k hk hf => ?_, e2, h2, ⟨Below.refl _ _, fun b e => ?_⟩, fun p hp => ?_, Nat.le_trans hVV hbV.size, hnext2⟩
      ·rw [setD _ _ _ hsz hi]; unfold done
       rw [if_neg (fun e' => by
        subst e'
        have := ok.nodup
        rw [hx2, List.nodup_append] at this
        exact this.2.2 k (by simp) k hk rfl)]
       exact hlater k (hlat k hk)
      ·rw [setD _ _ _ hsz hi] at hf
       unfold done at hf
       split at hf
       ·cases hf
       ·rename_i hki
        rcases List.mem_append.1 hk with hk | hk
        ·have hk' : k ∈ ys := by
          rcases List.mem_append.1 hk with h | h
          ·exact h
          ·exact absurd (List.mem_singleton.1 h) hki
         intro o' ho'
         obtain ⟨pre, post, q1, q2, q3⟩ := hav k hk' hf o' ho'
         refine ⟨pre, post, q1, fun k' hk2 => by simp [q2 k' hk2], fun C hC => ?_⟩
         obtain ⟨LF, q4, q5⟩ := q3 C (hC.up hbV)
         have hkv : valOf l A k = valOf l A2 k := by
          have hkx : k ∈ xs := by rw [hx]; simp [hk']
          obtain ⟨dk, g1, _⟩ := ok.own k (ok.x k hkx).1 (ok.x k hkx).2.2
          unfold valOf
          rw [g1]
          exact hold k hk' dk g1
         exact ⟨LF, q4.change (fun k2 hk2 t hd => hold k2 (q2 k2 hk2) t hd), by rw [← hkv]; exact q5⟩
        ·exact hav2 k hk
      ·obtain ⟨g1, g2, g3⟩ := hc.2 b e
       refine ⟨g1, g2.below hbW g2.lt, fun p hp => ?_⟩
       rcases List.mem_cons.1 hp with rfl | hp
       ·exact .inl g2.lt
       ·exact g3 p hp
      ·rcases List.mem_cons.1 hp with rfl | hp
       ·exact Nat.le_refl _
       ·exact Nat.le_trans (hI p hp) hbV.size
     ·-- not yet
      exfalso
      have hp1 : xs = ys ++ x :: xsOf r fin := by rw [hx, he]
      obtain ⟨m, hm1, hm2⟩ := ok.ord ys x _ hp1 hxw i hlt
      have := hwait m hm2
      rw [hlater m (by rw [he]; exact hm1)] at this
      cases this
   ·refine stepB listed _ W i o hol hu hwait hopen (toB listed _ W ⟨hsz, hesl, ys, later, A, V, I, ob, a1, hx, hlater, hA, hM, rfl, hav, h1, h2, hc, hI, hVV, hnext⟩ (fun h => hwait j (ok.fresh i hie h)) fun i' hi' hf o' ho' => ?_)
    rcases ok.late i' hi' o' ho' with h | h
    ·exact h
    ·rw [after2_listed (h i hie) hwait hcl] at hf
     cases hf
   ·subst hij
    obtain ⟨oj, hoj, hdd, hgj, hab, hrun⟩ := hj hi
    obtain rfl : oj = o := Option.some.inj (hoj.symm.trans hol)
    have hob : ob = none := by
     have h3 := h1 hi
     rw [hfalse] at h3
     cases ob with
     | none => rfl
     | some b => cases h3
    subst hob
    have hwant : Region.wanted oj (yielded l.toArray (wJ none a1).tmps) = true := by unfold Region.wanted; rw [hgj]
    simp only [wpListIn]
    rw [if_pos hwant]
    unfold Oper.wpIn
    refine ⟨fun f hf => (by rw [hab] at hf; cases hf), ?_⟩
    rw [Oper.semAt_eq _ _ _ (hnd i oj ho), hrun]
    show Exit.then _ Q .normal _ _
    refine .inl ⟨by simpa using hsz, fun e he => ?_, ys, later, A, V, I, some W.heap.size, a1, hx, fun k hk => ?_, hA, hM.congr (fun k => ?_), by rw [hdd], fun k hk hf => ?_, fun _ => ?_, fun h => absurd hi (by omega), ⟨hc.1.alloc hc.1.size _, fun b hb => ?_⟩, hI, hVV, hnext⟩
    ·rw [setD _ _ _ hsz hi]; unfold done
     rw [if_neg (fun e' => by subst e'; exact hje hi he)]
     exact hesl e he
    ·rw [setD _ _ _ hsz hi]; unfold done
     rw [if_neg (fun e' => by subst e'; exact (ok.x k (by rw [hx]; simp [hk])).2.1 rfl)]
     exact hlater k hk
    ·rw [setD _ _ _ hsz hi]; unfold done
     by_cases e : k = i
     ·subst e
      simp only
      exact ⟨fun h => absurd rfl (ok.x k h.1).2.1, fun h => absurd rfl (ok.x k h.1).2.1⟩
     ·rw [if_neg e]
    ·rw [setD _ _ _ hsz hi] at hf
     unfold done at hf
     split at hf
     ·cases hf
     ·exact hav k hk hf
    ·rw [setD _ _ _ hsz hi]; simp [done]
    ·cases hb
     exact ⟨Nat.le_trans hVV hc.1.size, Blk.new W _ _, fun p hp => .inr (Nat.le_trans (hI p hp) hc.1.size)⟩
  ·exact stepB listed a W i o hol hu hwait hopen hBB
 ·rintro listed a W hr hst
  have hal : ∀ i, i < l.length → listed.getD i false = true := by
   rcases hst with ⟨h, _⟩ | ⟨h, _⟩ <;> exact fun i hi => ready_nil_all ok.back (by simpa using h) hr i (by simpa using hi)
  have hBB : StB listed a W := by
   rcases hst with h | h
   ·exact toB listed a W h (fun h' => hal j h') (fun i hi hf => by rw [hal i (ok.x i hi).1] at hf; cases hf)
   ·exact h
  obtain ⟨hsz, A, Ac, m, hm', ht, hdp, hjl, hR, _, hAcs, hAcx, hAco, hfl, hwp⟩ := hBB
  have hnil : es.drop m = [] := by
   cases h : es.drop m with
   | nil => rfl
   | cons e r =>
    have h1 := hdp e (by rw [h]; simp)
    rw [hal e (ok.e e (List.mem_of_mem_drop (by rw [h]; simp))).1] at h1
    cases h1
  rw [hnil] at hwp
  have hEq : a = Ac := by
   obtain ⟨t, d⟩ := a
   obtain ⟨t', d'⟩ := Ac
   have e1 : d = d' := hR.defers
   have s1 : t.size = t'.size := hR.size
   have e2 : t = t' := by
    apply Array.ext s1
    intro i h1 h2
    have := hR.same i (fun ⟨i2, h5, h6, _⟩ => by rw [hal i2 (ok.x i2 h5).1] at h6; cases h6)
    simpa [h1, h2] using this
   rw [e1, e2]
  subst hEq
  exact hwp

/-- THE LAW, a new block among the operations ('alloc'). -/
theorem wpIn_flow_new {Q : Exit → Act → World → Prop} {id : Nat} {a0 : Act} {w V0 : World} {oj : Oper} {dj : Tmp} (stages : List (List Bool × Nat)) (fin em : List Bool) (j : Nat) (fv : Nat → Value) (ty : TypeId) (cs : Array Value)
  (hm : P.follows .mixedOrders = true) (hB : ((flowB l (xsOf stages fin) (stages.map (·.2)) (idxs 0 em) j && stages.all (fun p => decide (p.1.length ≤ l.length)) && decide (fin.length ≤ l.length) && decide (em.length ≤ l.length)) && decide (j < l.length)) = true)
  (hs : slotsM l a0.tmps.size = true) (hV : Below V0.heap.size V0 w.drew) (hoj : l[j]? = some oj) (hdj : oj.dst = some dj) (hgj : oj.guard = none) (hab : ∀ ρ W, oj.about P W ρ = none)
  (hrun : ∀ ρ W, (execOp ρ oj).run P W = .ok (.value (fv W.heap.size)) (W.alloc (.cells cs ty)))
  (h : wpFlow F n P l (fun I V A => ∀ b W, Below V.heap.size V W → V0.heap.size ≤ b → Blk W b ty cs → (∀ p ∈ I, b < p.1 ∨ p.2 ≤ b) → wpT F n P l.toArray (Q .normal) (pickB l em) (A.put (some dj) (fv b)) W) stages fin [] V0 a0) : (Code.region id l.toArray true).wpIn F n P Q a0 w := by
 rw [Bool.and_eq_true, decide_eq_true_eq] at hB
 refine wpIn_region_flow stages fin em j dj fv ty cs hm hB.1 hs hV (fun _ => ⟨oj, hoj, hdj, hgj, hab, hrun⟩) ?_
 have e : tailF F n P l em j dj fv ty cs V0 (Q .normal) = fun I V A => ∀ b W, Below V.heap.size V W → V0.heap.size ≤ b → Blk W b ty cs → (∀ p ∈ I, b < p.1 ∨ p.2 ≤ b) → wpT F n P l.toArray (Q .normal) (pickB l em) (A.put (some dj) (fv b)) W := by
  funext I V A
  unfold tailF
  exact propext ⟨fun k b W h1 h2 h3 h4 => by have := k b W h1 (fun _ => ⟨h2, h3, h4⟩); rwa [if_pos hB.2] at this, fun k b W h1 h2 => by rw [if_pos hB.2]; exact k b W h1 (h2 hB.2).1 (h2 hB.2).2.1 (h2 hB.2).2.2⟩
 rw [e]
 exact h

/-- THE LAW, without a new block. -/
theorem wpIn_flow_old {Q : Exit → Act → World → Prop} {id : Nat} {a0 : Act} {w V0 : World} (stages : List (List Bool × Nat)) (fin em : List Bool)
  (hm : P.follows .mixedOrders = true) (hB : (flowB l (xsOf stages fin) (stages.map (·.2)) (idxs 0 em) l.length && stages.all (fun p => decide (p.1.length ≤ l.length)) && decide (fin.length ≤ l.length) && decide (em.length ≤ l.length)) = true)
  (hs : slotsM l a0.tmps.size = true) (hV : Below V0.heap.size V0 w.drew)
  (h : wpFlow F n P l (fun I V A => ∀ W, Below V.heap.size V W → wpT F n P l.toArray (Q .normal) (pickB l em) A W) stages fin [] V0 a0) : (Code.region id l.toArray true).wpIn F n P Q a0 w := by
 refine wpIn_region_flow stages fin em l.length 0 (fun _ => undef) 0 #[] hm hB hs hV (fun h => absurd h (Nat.lt_irrefl _)) ?_
 have e : tailF F n P l em l.length 0 (fun _ => undef) 0 #[] V0 (Q .normal) = fun I V A => ∀ W, Below V.heap.size V W → wpT F n P l.toArray (Q .normal) (pickB l em) A W := by
  funext I V A
  unfold tailF
  exact propext ⟨fun k W h1 => by have := k 0 W h1 (fun h => absurd h (Nat.lt_irrefl _)); rwa [if_neg (Nat.lt_irrefl _)] at this, fun k b W h1 _ => by rw [if_neg (Nat.lt_irrefl _)]; exact k W h1⟩
 rw [e]
 exact h
end
end Go.Proofs.YtjdgdeiedkickaaDoor
/- One law on append, whatever its source; slices that a call owns. -/
namespace Go.Proofs.YtjdgdeiedkickaaDoor
open Go.RowKit

/-- The slice type t over elements e: zero value z, 'size' cells, 'bytes' bytes. -/
structure ElemI (P : Program) (t e : TypeId) (i : TypeInfo) (z : Value) (size bytes : Nat) : Prop where
 und : P.underlying t = some (.slice e)
 info : P.info? e = some i
 zero : i.zero = some z
 isize : i.size = size
 ibytes : i.bytes = bytes
 zcells : z.cells.size = size
 pos : 0 < size

def ElemAt (P : Program) (t e : TypeId) (z : Value) (size bytes : Nat) : Prop := ∃ i, ElemI P t e i z size bytes

/-- The call owns the slice (A, n, cap), which holds the cells xs. -/
def Own (w : World) (base : Nat) (e : TypeId) (size : Nat) (A : Option Addr) (n cap : Nat) (xs : List Value) : Prop := w.ownsRow base e size (.slice A n cap) n xs

section
variable {w w' : World} {base n cap size : Nat} {e : TypeId} {A : Option Addr} {xs : List Value}
theorem Own.none_ (w : World) (base : Nat) (e : TypeId) (size : Nat) : Own w base e size none 0 0 [] := World.ownsRow_nil w base e size
theorem Own.form (h : Own w base e size A n cap xs) : (A = none ∧ n = 0 ∧ cap = 0 ∧ xs = []) ∨ ∃ g cur, A = some ⟨g, 0, none⟩ ∧ base ≤ g ∧ Blk w g e cur ∧ n ≤ cap ∧ cap ≤ maxLen ∧ cur.size = cap * size ∧ cur.toList.take (n * size) = xs ∧ xs.length = n * size := by
 rcases h.2 with ⟨hv, h0⟩ | ⟨g, cap', cur, hv, hb, hg, h1, h2, h3, h4⟩
 ·simp at hv
  obtain ⟨rfl, rfl, rfl⟩ := hv
  exact .inl ⟨rfl, rfl, rfl, List.eq_nil_of_length_eq_zero (by simpa using h.1)⟩
 ·simp at hv
  obtain ⟨rfl, rfl⟩ := hv
  exact .inr ⟨g, cur, rfl, hb, hg, h1, h2, h3, h4, h.1⟩
theorem Own.len (h : Own w base e size A n cap xs) : xs.length = n * size := h.1
theorem Own.cap_le (h : Own w base e size A n cap xs) : n ≤ cap ∧ cap ≤ maxLen := by
 rcases h.form with ⟨_, rfl, rfl, _⟩ | ⟨_, _, _, _, _, h1, h2, _⟩
 ·exact ⟨Nat.le_refl _, by unfold maxLen; omega⟩
 ·exact ⟨h1, h2⟩
theorem Own.reads (h : Own w base e size A n cap xs) {B : Nat} (hB : w.heap.size ≤ B) : Reads w B size A n xs := by
 rcases h.form with ⟨rfl, rfl, rfl, rfl⟩ | ⟨g, cur, rfl, hb, hg, h1, h2, h3, h4, h5⟩
 ·exact Reads.none_
 ·refine ⟨h5, fun _ => ⟨_, rfl, Nat.lt_of_lt_of_le hg.lt hB, fun j u hu => ?_⟩⟩
  have ha : ((⟨g, 0, none⟩ : Addr).add j) = ⟨g, j, none⟩ := by
   unfold Addr.add
   by_cases hj : j = 0
   ·simp [hj]
   ·simp [hj]
  have hj : j < n * size := by
   rw [← h5]
   exact (List.getElem?_eq_some_iff.1 hu).1
  rw [ha, hg.cell, ← Array.getElem?_toList, ← hu, ← h4, List.getElem?_take, if_pos hj]
theorem Own.mono (h : Own w base e size A n cap xs) {b' : Nat} (hb : b' ≤ base) : Own w b' e size A n cap xs := by
 refine ⟨h.1, ?_⟩
 rcases h.2 with h' | ⟨g, cap', cur, hv, hb', hr⟩
 ·exact .inl h'
 ·exact .inr ⟨g, cap', cur, hv, Nat.le_trans hb hb', hr⟩
theorem Own.alloc (h : Own w base e size A n cap xs) (o : Obj) : Own (w.alloc o) base e size A n cap xs := World.ownsRow.alloc h o
theorem Own.drewN (h : Own w base e size A n cap xs) (k : Nat) : Own (w.drewN k) base e size A n cap xs := h
theorem Own.below {B : Nat} (h : Own w base e size A n cap xs) (hb : Below B w w') (hB : w.heap.size ≤ B) : Own w' base e size A n cap xs := by
 refine ⟨h.1, ?_⟩
 rcases h.2 with h' | ⟨g, cap', cur, hv, hb', hg, hr⟩
 ·exact .inl h'
 ·have hl : g < w.heap.size := by
   rcases Nat.lt_or_ge g w.heap.size with hlt | hge
   ·exact hlt
   ·rw [Array.getElem?_eq_none hge] at hg; cases hg
  exact .inr ⟨g, cap', cur, hv, hb', (hb.block g (by omega)).trans hg, hr⟩
/-- The own block, if there is one. -/
theorem Own.lt (h : Own w base e size A n cap xs) {a : Addr} (ha : A = some a) : base ≤ a.block ∧ a.block < w.heap.size := by
 rcases h.form with ⟨rfl, _⟩ | ⟨g, cur, rfl, hb, hg, _⟩
 ·cases ha
 ·cases ha; exact ⟨hb, hg.lt⟩
theorem Own.nil (h : Own w base e size none n cap xs) : n = 0 ∧ cap = 0 ∧ xs = [] := by
 rcases h.form with ⟨_, h1, h2, h3⟩ | ⟨g, cur, h', _⟩
 ·exact ⟨h1, h2, h3⟩
 ·cases h'
end

theorem ownBlock_slice (A : Option Addr) (n cap : Nat) : (Value.slice A n cap).ownBlock = A.map (·.block) := by
 cases A <;> rfl

section
variable {P : Program} (w : World)
/-- THE LAW ON append: the source may be nil, empty, or hold cells. -/
theorem run_append_any {t e : TypeId} (ty : TypeId) {z : Value} {size bytes : Nat} (EE : ElemAt P t e z size bytes) {base : Nat} {A : Option Addr} {n cap : Nat} {xs : List Value} (hown : Own w base e size A n cap xs)
  {A2 : Option Addr} {m c B : Nat} {news : List Value} (hR : Reads w B size A2 m news) (h1 : ∀ u ∈ news, u.oneCell' = true) (h63 : n + m ≤ maxLen) (hbytes : (n + m) * bytes ≤ 140737488355328) (hbase : base ≤ w.heap.size) :
  ∃ A' cap' w', (Builtin.append_ #[t, t] ty #[.slice A n cap, .slice A2 m c]).run P w = .ok (.slice A' (n + m) cap') w' ∧ Own w' base e size A' (n + m) cap' (xs ++ news) ∧ w.grownBy w' (A.map (·.block)) ∧ (A' = A ∨ A' = some ⟨w.heap.size, 0, none⟩) := by
 obtain ⟨i, E⟩ := EE
 have main : ∀ (ad : Addr), (∀ j u, news[j]? = some u → w.cell? (ad.add j) = some u) → ∃ A' cap' w', (Builtin.append_ #[t, t] ty #[.slice A n cap, .slice (some ad) m c]).run P w = .ok (.slice A' (n + m) cap') w' ∧ Own w' base e size A' (n + m) cap' (xs ++ news) ∧ w.grownBy w' (A.map (·.block)) ∧ (A' = A ∨ A' = some ⟨w.heap.size, 0, none⟩) := by
  intro ad hc
  obtain ⟨v', w', hr, h2, h3, h4, h5⟩ := run_append_own_at (P := P) w base t ty e i z size bytes E.und E.info E.zero E.isize E.ibytes E.zcells E.pos _ n xs hown ad m c news hR.1 hc h1 h63 hbytes hbase
  rw [ownBlock_slice] at h3
  rcases h2.2 with ⟨hv, h0⟩ | ⟨g, cap', cur, hv, hb, hg, _⟩
  ·subst hv
   have hn : n = 0 := by omega
   have hm : m = 0 := by omega
   have hA := (h4.1 rfl).1
   simp at hA
   obtain ⟨rfl, rfl, rfl⟩ := hA
   subst hm
   exact ⟨none, 0, w', hr, h2, h3, .inl rfl⟩
  ·subst hv
   refine ⟨_, cap', w', hr, h2, h3, ?_⟩
   rcases hown.form with ⟨rfl, rfl, rfl, _⟩ | ⟨g', cur', rfl, _⟩
   ·right
    rcases h5 with h5 | h5
    ·simp [Value.ownBlock] at h5
    ·simp [Value.ownBlock] at h5; rw [h5]
   ·rcases h5 with h5 | h5
    ·left; simp [Value.ownBlock] at h5; rw [h5]
    ·right; simp [Value.ownBlock] at h5; rw [h5]
 cases A2 with
 | some ad =>
  refine main ad ?_
  rcases Nat.eq_zero_or_pos m with h0 | h0
  ·have : news = [] := List.eq_nil_of_length_eq_zero (by rw [hR.1, h0]; simp)
   intro j u hu
   rw [this] at hu; simp at hu
  ·obtain ⟨ad', hA, _, hc⟩ := hR.2 h0
   cases hA
   exact hc
 | none =>
  rcases Nat.eq_zero_or_pos m with h0 | h0
  ·subst h0
   have hne : news = [] := List.eq_nil_of_length_eq_zero (by rw [hR.1]; simp)
   subst hne
   have hn : n ≤ cap := (Own.cap_le hown).1
   refine ⟨A, cap, w, ?_, by simpa using hown, ⟨rfl, rfl, rfl, Nat.le_refl _, fun _ _ _ => rfl⟩, .inl rfl⟩
   rcases hown.form with ⟨rfl, rfl, rfl, _⟩ | ⟨g, cur, rfl, _⟩
   ·simp [Builtin.append_, run_underlying E.und, sizeOf, typeInfo, E.info, Builtin.lenOf, Builtin.firstCells]
   ·simp [Builtin.append_, run_underlying E.und, sizeOf, typeInfo, E.info, Builtin.lenOf, Builtin.firstCells, hn, storeCells]
  ·obtain ⟨ad', hA, _⟩ := hR.2 h0
   cases hA

/-- At the operation, for the walk. -/
theorem wpList_append_any {ops : Array Oper} {rest : List Oper} {o : Oper} {a : Act} {Q : Exit → Act → World → Prop} (hgd : o.guard = none) (s x : Operand) {t e : TypeId}
  (ho : o.op = .call { callee := .builtin .append, args := #[s, x], argTypes := #[t, t] })
  {z : Value} {size bytes : Nat} (EE : ElemAt P t e z size bytes) {base : Nat} {A : Option Addr} {n cap : Nat} {xs : List Value} (hs : a.eval s = .slice A n cap) (hown : Own w base e size A n cap xs)
  {A2 : Option Addr} {m c B : Nat} {news : List Value} (hx : a.eval x = .slice A2 m c) (hR : Reads w B size A2 m news) (h1 : ∀ u ∈ news, u.oneCell' = true) (h63 : n + m ≤ maxLen) (hbytes : (n + m) * bytes ≤ 140737488355328) (hbase : base ≤ w.heap.size)
  (h : ∀ A' cap' w', Own w' base e size A' (n + m) cap' (xs ++ news) → w.grownBy w' (A.map (·.block)) → (A' = A ∨ A' = some ⟨w.heap.size, 0, none⟩) → wpList P ops Q rest (a.put o.dst (.slice A' (n + m) cap')) w') :
  wpList P ops Q (o :: rest) a w := by
 refine wpList_plain hgd fun K hK => ?_
 obtain ⟨A', cap', w', hr, h2, h3, h4⟩ := run_append_any (P := P) w o.type EE hown hR (c := c) h1 h63 hbytes hbase
 unfold Oper.wp execOp
 simp only [ho, resolve, invoke, builtin, Sem.run_bind, Sem.run_pure, Result.andThen_ok, List.map_toArray, List.map_cons, List.map_nil, hs, hx, hr]
 exact hK _ _ (h A' cap' w' h2 h3 h4)
end

theorem info_int : (Tryd.prog.info? 3).map (fun i => (i.zero, i.size, i.bytes)) = some (some (.int .i64 0), 1, 8) := by kernel_rfl
theorem elem_int : ElemAt Tryd.prog 22 3 (.int .i64 0) 1 8 := by
 obtain ⟨i0, hi, hz0, hz1, hz2⟩ := info_parts info_int
 exact ⟨i0, Tryd.underlying22, hi, hz0, hz1, hz2, rfl, by decide⟩
theorem ints_one (l : List Int) : ∀ u ∈ l.map (Value.int .i64), u.oneCell' = true := by
 intro u hu; simp at hu; obtain ⟨x, _, rfl⟩ := hu; rfl
end Go.Proofs.YtjdgdeiedkickaaDoor
/- Writing many cells of a block; what else lies as it lay. -/
namespace Go.Proofs.YtjdgdeiedkickaaDoor
open Go.RowKit

section
variable {w w' w2 : World} {g : Nat} {t : TypeId} {cs : Array Value}
theorem Blk.drew (h : Blk w g t cs) : Blk w.drew g t cs := h
theorem grown_refl (w : World) (row : Option Nat) : w.grownBy w row := ⟨rfl, rfl, rfl, Nat.le_refl _, fun _ _ _ => rfl⟩
theorem grown_trans {row : Option Nat} (h : w.grownBy w' row) (k : w'.grownBy w2 row) : w.grownBy w2 row :=
 ⟨k.os.trans h.os, k.tape.trans h.tape, k.output.trans h.output, Nat.le_trans h.size k.size, fun i hi hr => (k.block i (Nat.lt_of_lt_of_le hi h.size) hr).trans (h.block i hi hr)⟩
theorem grown_below {row : Option Nat} (h : w.grownBy w' row) (k : Below w'.heap.size w' w2) : w.grownBy w2 row :=
 ⟨k.os.trans h.os, k.tape.trans h.tape, k.output.trans h.output, Nat.le_trans h.size k.size, fun i hi hr => (k.block i (Nat.lt_of_lt_of_le hi h.size)).trans (h.block i hi hr)⟩
theorem grown_of_below (h : Below w.heap.size w w') (row : Option Nat) : w.grownBy w' row := ⟨h.os, h.tape, h.output, h.size, fun k hk _ => h.block k hk⟩
theorem grown_setCell {row : Option Nat} (h : w.grownBy w' row) {p : Addr} (hp : some p.block = row ∨ w.heap.size ≤ p.block) (u : Value) : w.grownBy (w'.setCell p u) row :=
 ⟨h.os, h.tape, h.output, by have := h.size; simpa [World.setCell] using this, fun i hi hr => (Below.heap_setCell w' p u i (by
  intro e
  subst e
  rcases hp with hp | hp
  ·exact hr hp
  ·omega)).trans (h.block i hi hr)⟩
theorem below_of_grown {B : Nat} {row : Option Nat} (h : w.grownBy w' row) (hr : ∀ k, row = some k → B ≤ k) (hB : B ≤ w.heap.size) : Below B w w' :=
 (Below.refl B w).grown h hB hr
theorem Reads.grown {B size n : Nat} {A : Option Addr} {xs : List Value} {row : Option Nat} (h : Reads w B size A n xs) (hg : w.grownBy w' row) (hB : B ≤ w.heap.size) (hr : ∀ a, A = some a → some a.block ≠ row) : Reads w' B size A n xs :=
 ⟨h.1, fun hn => by
  obtain ⟨ad, e, hb, hc⟩ := h.2 hn
  exact ⟨ad, e, hb, fun j u hu => by
   rw [← hc j u hu]
   exact World.cell?_of_block (hg.block _ (by rw [block_of_add]; omega) (by rw [block_of_add]; exact hr ad e))⟩⟩
theorem Own.grown {base n cap size : Nat} {e : TypeId} {A : Option Addr} {xs : List Value} {row : Option Nat} (h : Own w base e size A n cap xs) (hg : w.grownBy w' row) (hr : ∀ a, A = some a → some a.block ≠ row) : Own w' base e size A n cap xs := by
 refine ⟨h.1, ?_⟩
 rcases h.2 with h' | ⟨g, cap', cur, hv, hb, hgb, hrest⟩
 ·exact .inl h'
 ·have hl : g < w.heap.size := (Array.getElem?_eq_some_iff.1 hgb).1
  simp at hv
  exact .inr ⟨g, cap', cur, by simp [hv], hb, (hg.block g hl (by have := hr _ hv.1; simpa using this)).trans hgb, hrest⟩
end

theorem flat_len' {α : Type} {vals : α → List Value} {size : Nat} (hv : ∀ x, (vals x).length = size) (l : List α) : (l.flatMap vals).length = l.length * size := by
 induction l with
 | nil => simp
 | cons x l ih => rw [List.flatMap_cons, List.length_append, ih, List.length_cons, hv, Nat.add_mul]; omega
theorem flat_at' {α : Type} {vals : α → List Value} {size : Nat} (hv : ∀ x, (vals x).length = size) {l : List α} {k j : Nat} {x : α} (h : l[k]? = some x) (hj : j < size) : (l.flatMap vals)[k * size + j]? = (vals x)[j]? := by
 induction l generalizing k with
 | nil => simp at h
 | cons y l ih =>
  rw [List.flatMap_cons]
  cases k with
  | zero =>
   simp at h; subst h
   rw [List.getElem?_append_left (by rw [hv]; omega)]; simp
  | succ k =>
   rw [List.getElem?_append_right (by rw [hv, Nat.add_mul]; omega)]
   have : (k + 1) * size + j - (vals y).length = k * size + j := by rw [hv, Nat.add_mul]; omega
   rw [this]
   exact ih (by simpa using h)
end Go.Proofs.YtjdgdeiedkickaaDoor
/- What lies in memory, block by block. -/
namespace Go.Proofs.YtjdgdeiedkickaaDoor
open Go.RowKit

/-- Below w's end all is as in w; and these blocks lie behind it. -/
def Lay (w W : World) (bs : List (Nat × TypeId × Array Value)) : Prop := Below w.heap.size w W ∧ ∀ b ∈ bs, w.heap.size ≤ b.1 ∧ Blk W b.1 b.2.1 b.2.2
section
variable {w W W' : World} {bs : List (Nat × TypeId × Array Value)}
theorem Lay.nil (w : World) : Lay w w [] := ⟨Below.refl _ _, fun b hb => by simp at hb⟩
theorem Lay.bel (h : Lay w W bs) : Below w.heap.size w W := h.1
theorem Lay.below (h : Lay w W bs) (hb : Below W.heap.size W W') : Lay w W' bs := ⟨h.1.trans (hb.mono h.1.size), fun b k => ⟨(h.2 b k).1, (h.2 b k).2.below hb (h.2 b k).2.lt⟩⟩
theorem Lay.blk (h : Lay w W bs) (i : Nat) {g : Nat} {t : TypeId} {cs : Array Value} (hi : bs[i]? = some (g, t, cs)) : Blk W g t cs := (h.2 _ (List.mem_of_getElem? hi)).2
theorem Lay.ge (h : Lay w W bs) (i : Nat) {g : Nat} {t : TypeId} {cs : Array Value} (hi : bs[i]? = some (g, t, cs)) : w.heap.size ≤ g := (h.2 _ (List.mem_of_getElem? hi)).1
theorem Lay.lt (h : Lay w W bs) (i : Nat) {g : Nat} {t : TypeId} {cs : Array Value} (hi : bs[i]? = some (g, t, cs)) : g < W.heap.size := (h.blk i hi).lt
theorem Lay.alloc (h : Lay w W bs) (t : TypeId) (cs : Array Value) : Lay w (W.alloc (.cells cs t)) (bs ++ [(W.heap.size, t, cs)]) := by
 have hb : Below W.heap.size W (W.alloc (.cells cs t)) := (Below.refl _ _).alloc (Nat.le_refl _) _
 refine ⟨(h.below hb).1, fun b k => ?_⟩
 rcases List.mem_append.1 k with k | k
 ·exact (h.below hb).2 b k
 ·obtain rfl := List.mem_singleton.1 k
  exact ⟨h.1.size, Blk.new W t cs⟩
/-- One more block that is known. -/
theorem Lay.add (h : Lay w W bs) {g : Nat} {t : TypeId} {cs : Array Value} (hg : w.heap.size ≤ g) (hb : Blk W g t cs) : Lay w W (bs ++ [(g, t, cs)]) := ⟨h.1, fun b k => by
 rcases List.mem_append.1 k with k | k
 ·exact h.2 b k
 ·obtain rfl := List.mem_singleton.1 k
  exact ⟨hg, hb⟩⟩
theorem Lay.sub (h : Lay w W bs) {bs' : List (Nat × TypeId × Array Value)} (hs : ∀ b ∈ bs', b ∈ bs) : Lay w W bs' := ⟨h.1, fun b k => h.2 b (hs b k)⟩
/-- A block turned. -/
theorem Lay.turn (h : Lay w W bs) {g : Nat} {t : TypeId} {cs : Array Value} (hk : ∀ i, i ≠ g → i < W.heap.size → W'.heap[i]? = W.heap[i]?) (hz : W.heap.size ≤ W'.heap.size) (hos : W'.os = W.os) (htp : W'.tape = W.tape) (hop : W'.output = W.output) (hg : w.heap.size ≤ g) (hb : Blk W' g t cs) {bs' : List (Nat × TypeId × Array Value)} (hs : ∀ b ∈ bs', (b ∈ bs ∧ b.1 ≠ g) ∨ b = (g, t, cs)) : Lay w W' bs' := by
 refine ⟨⟨hos.trans h.1.os, htp.trans h.1.tape, hop.trans h.1.output, Nat.le_trans h.1.size hz, fun i hi => (hk i (by omega) (Nat.lt_of_lt_of_le hi h.1.size)).trans (h.1.block i hi)⟩, fun b k => ?_⟩
 rcases hs b k with ⟨k1, k2⟩ | rfl
 ·exact ⟨(h.2 b k1).1, (hk _ k2 (h.2 b k1).2.lt).trans (h.2 b k1).2⟩
 ·exact ⟨hg, hb⟩
end
theorem Lay.setLast {w W : World} {bs : List (Nat × TypeId × Array Value)} {g : Nat} {t : TypeId} {cs : Array Value} (h : Lay w W (bs ++ [(g, t, cs)])) (hne : ∀ p ∈ bs, p.1 ≠ g) (k : Nat) (v : Value) : Lay w (W.setCell ⟨g, k, none⟩ v) (bs ++ [(g, t, cs.setIfInBounds k v)]) := by
 have hg := h.2 (g, t, cs) (by simp)
 refine ⟨h.1.setCell (p := ⟨g, k, none⟩) hg.1 v, fun b hb => ?_⟩
 rcases List.mem_append.1 hb with hb | hb
 ·have := h.2 b (by simp [hb])
  exact ⟨this.1, this.2.far (p := ⟨g, k, none⟩) (hne b hb) v⟩
 ·obtain rfl := List.mem_singleton.1 hb
  exact ⟨hg.1, hg.2.set_ k v⟩
theorem fbox_bel {W V : World} {cs : Array Value} {t : TypeId} (h : W.alloc (.cells cs t) = V) : Below W.heap.size W V := h ▸ (Below.refl W.heap.size W).alloc (Nat.le_refl _) (.cells cs t)
theorem fbox_blk {W V : World} {cs : Array Value} {t : TypeId} (h : W.alloc (.cells cs t) = V) : Blk V W.heap.size t cs := h ▸ Blk.new W t cs
theorem Lay.one (w : World) (t : TypeId) (X : Array Value) : Lay w (w.alloc (.cells X t)) [(w.heap.size, t, X)] := (Lay.nil w).alloc t X
theorem Lay.two (w : World) (t : TypeId) (X : Array Value) (t2 : TypeId) (X2 : Array Value) : Lay w ((w.alloc (.cells X t)).alloc (.cells X2 t2)) [(w.heap.size, t, X), (w.heap.size + 1, t2, X2)] := by
 have h := (Lay.one w t X).alloc t2 X2
 rwa [World.size_alloc] at h
theorem Lay.three (w : World) (t : TypeId) (X : Array Value) (t2 : TypeId) (X2 : Array Value) (t3 : TypeId) (X3 : Array Value) : Lay w (((w.alloc (.cells X t)).alloc (.cells X2 t2)).alloc (.cells X3 t3)) [(w.heap.size, t, X), (w.heap.size + 1, t2, X2), (w.heap.size + 1 + 1, t3, X3)] := by
 have h := (Lay.two w t X t2 X2).alloc t3 X3
 rwa [World.size_alloc, World.size_alloc] at h
theorem Lay.four (w : World) (t : TypeId) (X : Array Value) (t2 : TypeId) (X2 : Array Value) (t3 : TypeId) (X3 : Array Value) (t4 : TypeId) (X4 : Array Value) : Lay w ((((w.alloc (.cells X t)).alloc (.cells X2 t2)).alloc (.cells X3 t3)).alloc (.cells X4 t4)) [(w.heap.size, t, X), (w.heap.size + 1, t2, X2), (w.heap.size + 1 + 1, t3, X3), (w.heap.size + 1 + 1 + 1, t4, X4)] := by
 have h := (Lay.three w t X t2 X2 t3 X3).alloc t4 X4
 rwa [World.size_alloc, World.size_alloc, World.size_alloc] at h
theorem Lay.drewN {w W : World} {bs : List (Nat × TypeId × Array Value)} (h : Lay w W bs) (k : Nat) : Lay w (W.drewN k) bs := ⟨below_drewN h.1 k, h.2⟩

/-- A block of two cells written anew. -/
theorem ret2 {w W : World} {B g : Nat} {t : TypeId} {z0 z1 : Value} (R : Blk W g t #[z0, z1]) (L : Below B w W) (hg : B ≤ g) (v0 v1 : Value) :
  Blk ((W.setCell ⟨g, 0, none⟩ v0).setCell ⟨g, 1, none⟩ v1) g t #[v0, v1] ∧ Below B w ((W.setCell ⟨g, 0, none⟩ v0).setCell ⟨g, 1, none⟩ v1) :=
 ⟨(R.set_ 0 v0).set_ 1 v1, (L.setCell (p := ⟨g, 0, none⟩) hg _).setCell (p := ⟨g, 1, none⟩) hg _⟩
theorem ret4' {w W : World} {B g : Nat} {t : TypeId} {z0 z1 z2 z3 : Value} (R : Blk W g t #[z0, z1, z2, z3]) (L : Below B w W) (hg : B ≤ g) (v0 v1 v2 v3 : Value) :
  Blk ((((W.setCell ⟨g, 0, none⟩ v0).setCell ⟨g, 1, none⟩ v1).setCell ⟨g, 2, none⟩ v2).setCell ⟨g, 3, none⟩ v3) g t #[v0, v1, v2, v3] ∧ Below B w ((((W.setCell ⟨g, 0, none⟩ v0).setCell ⟨g, 1, none⟩ v1).setCell ⟨g, 2, none⟩ v2).setCell ⟨g, 3, none⟩ v3) ∧
  W.grownBy ((((W.setCell ⟨g, 0, none⟩ v0).setCell ⟨g, 1, none⟩ v1).setCell ⟨g, 2, none⟩ v2).setCell ⟨g, 3, none⟩ v3) (some g) := by
 refine ⟨(((R.set_ 0 v0).set_ 1 v1).set_ 2 v2).set_ 3 v3, (((L.setCell (p := ⟨g, 0, none⟩) hg _).setCell (p := ⟨g, 1, none⟩) hg _).setCell (p := ⟨g, 2, none⟩) hg _).setCell (p := ⟨g, 3, none⟩) hg _, ?_⟩
 exact grown_setCell (grown_setCell (grown_setCell (grown_setCell (grown_refl W (some g)) (p := ⟨g, 0, none⟩) (.inl rfl) v0) (p := ⟨g, 1, none⟩) (.inl rfl) v1) (p := ⟨g, 2, none⟩) (.inl rfl) v2) (p := ⟨g, 3, none⟩) (.inl rfl) v3
theorem ints_up {W W' : World} {n : Nat} {A : Option Addr} {l : List Int} (h : IntsAt W W.heap.size A n l) (hb : Below W.heap.size W W') : IntsAt W' W'.heap.size A n l := (h.below hb).more hb.size
theorem ret2' {w W : World} {B g : Nat} {t : TypeId} {z0 z1 : Value} (R : Blk W g t #[z0, z1]) (L : Below B w W) (hg : B ≤ g) (v0 v1 : Value) :
  Blk ((W.setCell ⟨g, 0, none⟩ v0).setCell ⟨g, 1, none⟩ v1) g t #[v0, v1] ∧ Below B w ((W.setCell ⟨g, 0, none⟩ v0).setCell ⟨g, 1, none⟩ v1) ∧ W.grownBy ((W.setCell ⟨g, 0, none⟩ v0).setCell ⟨g, 1, none⟩ v1) (some g) :=
 ⟨(R.set_ 0 v0).set_ 1 v1, (L.setCell (p := ⟨g, 0, none⟩) hg _).setCell (p := ⟨g, 1, none⟩) hg _, grown_setCell (grown_setCell (grown_refl W (some g)) (p := ⟨g, 0, none⟩) (.inl rfl) v0) (p := ⟨g, 1, none⟩) (.inl rfl) v1⟩
theorem blk_ne {W : World} {g g' : Nat} {t t' : TypeId} {cs cs' : Array Value} (h : Blk W g t cs) (h' : Blk W g' t' cs') (ht : t ≠ t') : g ≠ g' := fun e => by
 subst e
 unfold Blk at h h'
 rw [h] at h'
 simp at h'
 exact ht h'.2
end Go.Proofs.YtjdgdeiedkickaaDoor
/- The program's table in memory; mix.table.vessel. -/
namespace Go.Proofs.YtjdgdeiedkickaaDoor.Mx
open Go.RowKit

def Vess.val (v : Vess) : Value := .agg #[.int .i64 v.id, .int .i64 v.size]
def MAct.val (x : MAct) : Value := .agg #[.int .i64 x.kind, .int .i64 x.fr, .int .i64 x.to, .int .i64 x.drops]
def Tast.val (x : Tast) : Value := .agg #[.int .i64 x.num, .int .i64 x.vessel, .int .i64 x.after, .int .i64 x.fountain, .int .i64 x.lo, .int .i64 x.hi]
/-- What vessels hold, in memory: four cells. -/
def heldC (s : Held) : List Value := [.int .i64 (heldAt s 0), .int .i64 (heldAt s 1), .int .i64 (heldAt s 2), .int .i64 (heldAt s 3)]
theorem heldC_k (s : Held) : (heldC s).length = 4 := rfl
/-- A table: where it lies, what its slices are, and what all that is. -/
structure Tb where
 g : Nat
 Av : Option Addr
 nv : Nat
 cv : Nat
 Aa : Option Addr
 na : Nat
 ca : Nat
 At : Option Addr
 nt : Nat
 ct : Nat
 AA : Option Addr
 nl : Nat
 cl : Nat
 m : Mix
 L : List Held
def Tb.cells (T : Tb) : Array Value := #[.int .i64 T.m.fountains, .slice T.Av T.nv T.cv, .slice T.Aa T.na T.ca, .slice T.At T.nt T.ct, .slice T.AA T.nl T.cl]
structure TbAt (w : World) (T : Tb) : Prop where
 blk : Blk w T.g 77 T.cells
 mix : MixAt w w.heap.size T.Av T.nv T.Aa T.na T.At T.nt T.m
 all : Reads w w.heap.size 4 T.AA T.nl (T.L.flatMap heldC)
 small : T.nv ≤ 4 ∧ T.na ≤ 12 ∧ T.nt ≤ 8 ∧ T.nl ≤ 13
theorem TbAt.below {w w' : World} {T : Tb} (h : TbAt w T) (hb : Below w.heap.size w w') : TbAt w' T :=
 ⟨h.blk.below hb h.blk.lt, h.mix.up hb, (h.all.below hb).more hb.size, h.small⟩
theorem vessel1_any (v : Vess) (id : Int) (g : Nat) (w : World) (hg : g < w.heap.size) (hc : w.cell? ⟨g, 0, none⟩ = some (.int .i64 id)) :
  Calls Tryd.prog 60 (#[.agg #[.int .i64 v.id, .int .i64 v.size]] ++ #[.pointer (some ⟨g, 0, none⟩)]) w fun e w' => e = .returned (.bool (v.id == id)) ∧ Below w.heap.size w w' := by
 go_enter Tryd.func60, Tryd.ntmps60
 go_wp2
 go_ret
 exact ⟨rfl, (Below.refl _ _).alloc (Nat.le_refl _) _⟩
theorem enters_vessel1 (args : Array Value) (W : World) : (callFunc 60 args).run Tryd.prog W = .ok (.enter 60 args) W := by
 simp [go_sem]
theorem idxV_none {id : Int} {l : List Vess} (h : ∀ y ∈ l, (y.id == id) = false) : idxV l id = -1 := by
 unfold idxV
 rw [if_neg]
 simp only [List.any_eq_true, not_exists, not_and, Bool.not_eq_true]
 exact h
theorem idxV_some {id : Int} {l : List Vess} {k : Nat} {x : Vess} (hx : l[k]? = some x) (hp : (x.id == id) = true) (h : ∀ y ∈ l.take k, (y.id == id) = false) : idxV l id = k := by
 obtain ⟨hk, rfl⟩ := List.getElem?_eq_some_iff.1 hx
 have hf : l.findIdx (fun v => v.id == id) = k := by
  rw [List.findIdx_eq hk]
  refine ⟨hp, fun j hj => ?_⟩
  have := h (l[j]'(by omega)) (by
   rw [List.mem_take_iff_getElem]
   exact ⟨j, by omega, rfl⟩)
  simp [this]
 unfold idxV
 rw [if_pos (List.any_eq_true.2 ⟨_, List.getElem_mem hk, hp⟩), hf]

set_option maxRecDepth 100000 in
set_option maxHeartbeats 2000000 in
theorem indexFunc_vess (id : Int) (g : Nat) (A : Option Addr) (n c : Nat) (l : List Vess) (w : World) (hr : Reads w w.heap.size 2 A n (l.flatMap Vess.vals)) (hn : n ≤ 1000) (hg : g < w.heap.size) (hc : w.cell? ⟨g, 0, none⟩ = some (.int .i64 id)) :
  Calls Tryd.prog 59 #[.slice A n c, .func (.func 60) #[] #[.pointer (some ⟨g, 0, none⟩)]] w fun e w' => e = .returned (.int .i64 (idxV l id)) ∧ Below w.heap.size w w' := by
 have hE := enters_vessel1
 have HC := Lib.hid hc
 clear hc
 go_enter Tryd.func59, Tryd.ntmps59
 go_wp2_with fail
 go_loopw [8, 5] (fun i j wr => ∃ k : Nat, k ≤ n ∧ i = .int .i64 k ∧ (∀ y ∈ l.take k, (y.id == id) = false) ∧ Below w.heap.size w wr)
  (fun i _ _ => n - (intOf i).toNat)
 case atStart => exact ⟨0, by omega, rfl, by simp, Below.refl _ _⟩
 case round =>
  obtain ⟨k, hk, rfl, hno, hb⟩ := hrel
  have HN := Lib.hid hno
  clear hno
  by_cases hlt : k < n
  ·obtain ⟨b, off, x, rfl, hbB, hx, hcs⟩ := recs_cell vess_k (by omega) ((hr.below hb).more hb.size) hlt
   have hc0 : wr.cell? ⟨b, off + k * 2, none⟩ = some (.int .i64 x.id) := hcs 0 _ rfl
   have hc1 : wr.cell? ⟨b, off + k * 2 + 1, none⟩ = some (.int .i64 x.size) := hcs 1 _ rfl
   have HX := Lib.hid hx
   clear hx hcs
   go_wp2_with fail
   refine (vessel1_any x id g _ (Nat.lt_of_lt_of_le hg hb.size) ((hb.cell (p := ⟨g, 0, none⟩) hg).trans HC.out)).mono ?_
   rintro e w' ⟨rfl, hb'⟩
   cases hp : (x.id == id) with
   | true =>
    have HP := Lib.hid hp
    clear hp
    go_wp2_with fail
    go_ret
    exact ⟨ret_int (idxV_some HX.out HP.out HN.out).symm, hb.trans (hb'.mono hb.size)⟩
   | false =>
    have HP := Lib.hid hp
    clear hp
    go_wp2_with fail
    go_roundw
    case rel => exact ⟨k + 1, by omega, by go_num, take_snoc_all HX.out HP.out HN.out, hb.trans (hb'.mono hb.size)⟩
    case measure => simp [intOf]; omega
  ·go_wp2_with fail
   go_ret
   exact ⟨ret_int (idxV_none (by
    have := HN.out
    rwa [List.take_of_length_le (by have := recs_n vess_k (by omega) hr; omega)] at this)).symm, hb⟩
set_option maxRecDepth 100000 in
theorem vessel_any (T : Tb) (id : Int) (w : World) (h : TbAt w T) :
  Calls Tryd.prog 40 #[.pointer (some ⟨T.g, 0, none⟩), .int .i64 id] w fun e w' => e = .returned (.int .i64 (idxV T.m.vessels id)) ∧ Below w.heap.size w w' := by
 have hmf : ∀ (fn : Fn) (first cap : Array Value) (w : World), (Instr.makeFunc fn first cap).run Tryd.prog w = .ok (.func fn first cap) w := fun _ _ _ _ => rfl
 have H := Lib.hid h
 have hc : w.cell? ⟨T.g, 1, none⟩ = some (.slice T.Av T.nv T.cv) := h.blk.cell 1
 have hl := h.blk.lt
 clear h
 go_enter Tryd.func40, Tryd.ntmps40
 go_wp2_with fail
 have hb : Below w.heap.size w (w.alloc (.cells #[.int .i64 id] 3)) := (Below.refl _ _).alloc (Nat.le_refl _) _
 refine (indexFunc_vess id w.heap.size T.Av T.nv T.cv T.m.vessels _ ((H.out.mix.up hb).vessels) (by have := H.out.small; omega) (by simp) (by simp [go_sem])).mono ?_
 rintro e w' ⟨rfl, hb'⟩
 go_wp2_with fail
 go_ret
 exact ⟨rfl, hb.trans (hb'.mono (by simp))⟩
end Go.Proofs.YtjdgdeiedkickaaDoor.Mx
/- mix.room, mix.held. -/
namespace Go.Proofs.YtjdgdeiedkickaaDoor.Mx
open Go.RowKit

theorem idxV_ge (l : List Vess) (id : Int) : -1 ≤ idxV l id := by unfold idxV; split <;> omega
theorem heldC_at (s : Held) {q : Nat} (h : q < 4) : (heldC s).toArray[q]? = some (.int .i64 (heldAt s (q : Int))) := by
 match q, h with
 | 0, _ => rfl
 | 1, _ => rfl
 | 2, _ => rfl
 | 3, _ => rfl
theorem inB_one (lo hi n : Int) : inB lo hi [n] = decide (lo ≤ n ∧ n ≤ hi) := by
 unfold inB
 by_cases h : lo ≤ n ∧ n ≤ hi
 ·rw [decide_eq_true h]; simp; omega
 ·rw [decide_eq_false h]; simp; omega
def roomJ (m : Mix) (s : Held) (x : MAct) (j : Int) : Bool := decide (0 ≤ j ∧ 1 ≤ x.drops ∧ x.drops ≤ sizeV m.vessels j - heldAt s j)
def roomB (m : Mix) (s : Held) (x : MAct) : Bool := roomJ m s x (idxV m.vessels x.to)
def heldJ (m : Mix) (s : Held) (x : MAct) (j : Int) : Bool := decide (0 ≤ j ∧ 1 ≤ x.drops ∧ x.drops ≤ heldAt s j)
def heldB (m : Mix) (s : Held) (x : MAct) : Bool := heldJ m s x (idxV m.vessels x.fr)
def VesOk (m : Mix) : Prop := ∀ v ∈ m.vessels, 1 ≤ v.size ∧ v.size ≤ 12

set_option maxRecDepth 100000 in
set_option maxHeartbeats 8000000 in
theorem room_in (T : Tb) (s : Held) (x : MAct) (w : World)
  (h : TbAt w T) (hs : ∀ q : Nat, 0 ≤ heldAt s q ∧ heldAt s q ≤ 1000) (hz : VesOk T.m) :
  CallsIn Fence.wide 9 Tryd.prog 62 #[.pointer (some ⟨T.g, 0, none⟩), .agg #[.int .i64 (heldAt s 0), .int .i64 (heldAt s 1), .int .i64 (heldAt s 2), .int .i64 (heldAt s 3)], .agg #[.int .i64 x.kind, .int .i64 x.fr, .int .i64 x.to, .int .i64 x.drops]] w (fun e w' => e = .returned (.bool (roomB T.m s x)) ∧ Below w.heap.size w w') := by
 have HZ := Lib.hid hz
 clear hz
 have HT := Lib.hid h
 have HS := Lib.hid hs
 clear h hs
 refine callsIn_of_wp Tryd.func62 rfl trivial ?_ rfl
 simp only [Tryd.ntmps62, List.size_toArray, List.length_cons, List.length_nil, Nat.reduceAdd, Nat.reduceSub, Array.replicate_succ, Array.replicate_zero, List.push_toArray, List.append_toArray, List.nil_append, List.cons_append]
 gi_wp2
 have HLay := Lib.hid (Lay.two w 74 #[.int .i64 (heldAt s 0), .int .i64 (heldAt s 1), .int .i64 (heldAt s 2), .int .i64 (heldAt s 3)] 43 #[.int .i64 x.kind, .int .i64 x.fr, .int .i64 x.to, .int .i64 x.drops])
 generalize ((w.alloc (.cells #[.int .i64 (heldAt s 0), .int .i64 (heldAt s 1), .int .i64 (heldAt s 2), .int .i64 (heldAt s 3)] 74)).alloc (.cells #[.int .i64 x.kind, .int .i64 x.fr, .int .i64 x.to, .int .i64 x.drops] 43)) = w0 at *
 have x1_0 := (HLay.out.blk 1 rfl).cell 0
 have x1_1 := (HLay.out.blk 1 rfl).cell 1
 have x1_2 := (HLay.out.blk 1 rfl).cell 2
 have x1_3 := (HLay.out.blk 1 rfl).cell 3
 have l1_ := HLay.out.lt 1 rfl
 gi_wp2
 clear x1_0 x1_1 x1_2 x1_3 l1_
 refine ⟨trivial, (callsIn_wide.2 (vessel_any T x.to w0 (HT.out.below HLay.out.1))).mono ?_⟩
 rintro e W1 ⟨rfl, hb⟩
 replace HLay := Lib.hid (HLay.out.below hb)
 clear hb
 have HJB := Lib.hid (idxV_ge T.m.vessels x.to)
 have HJS := Lib.hid (fun h => idxV_lt (l := T.m.vessels) (id := x.to) h)
 have HJP : Hid (roomB T.m s x = roomJ T.m s x (idxV T.m.vessels x.to)) := Lib.hid rfl
 generalize idxV T.m.vessels x.to = j at *
 by_cases hj : j < 0
 ·have hjn : decide (0 ≤ j) = false := by simpa using hj
  have HR : Hid (roomB T.m s x = false) := Lib.hid (by rw [HJP.out]; unfold roomJ; simp; omega)
  clear HJB HJS HJP hj
  gi_wp2
  refine wpIn_flow_old [] [true, true, true, true, true, true, true, true, true, true, true, true, true, true, true, true, true, true, true, true, true, true] [] (by kernel_rfl) (by kernel_rfl) (by kernel_rfl) (below_drewN (Below.refl _ _) 1) ?_
  refine wpFlow_nil (A := ?AF1) ?hq1 ?_
  case hq1 =>
   rintro σ hσ of hof hcl
   have HOF := Lib.hid hof
   have HCL := Lib.hid hcl
   clear hof hcl
   have hfw : ∀ f, Fence.wide.fn f := fun _ => trivial
   simp only [pickB]
   repeat (gi_big_quiet_step (fail))
   refine wpQuietIn_nil ?_
   exact rfl
  intro W2 hW
  replace HLay := Lib.hid (HLay.out.below hW)
  clear hW
  simp only [pickB]
  refine wpT_nil ?_
  gi_wp2
  refine bodyPost_ret (v := .bool false) (by simp [results, Tryd.results62, go_sem]) rfl ⟨by rw [HR.out], HLay.out.1⟩
 ·obtain ⟨q, rfl⟩ : ∃ q : Nat, j = q := ⟨j.toNat, by omega⟩
  have hlv := HT.out.mix.lenV
  have hq0 := HJS.out (by omega)
  have hq : q < T.nv := by omega
  have hq4 : q < 4 := by have := HT.out.small; omega
  obtain ⟨bv, off, v, hAv, hbv, hv, _, hc1⟩ := HT.out.mix.vess hq
  have HV := Lib.hid hv
  have HC1 := Lib.hid hc1
  have HBV := Lib.hid hbv
  have HAV := Lib.hid hAv
  have hvs := HZ.out v (mem_of_at hv)
  have hsq := HS.out q
  have hwr : IntKind.i64.wrap (v.size - heldAt s (q : Int)) = v.size - heldAt s (q : Int) := IntWalk.i64_in _ (by omega)
  have HR : Hid (roomB T.m s x = inB 1 (v.size - heldAt s (q : Int)) [x.drops]) := Lib.hid (by rw [HJP.out, inB_one]; unfold roomJ sizeV; rw [Int.toNat_natCast, HV.out, Option.map_some, Option.getD_some, decide_eq_decide]; omega)
  have HQ := Lib.hid hq
  have HQ4 := Lib.hid hq4
  clear hlv hq0 hv hc1 hbv hAv hvs hsq HJB HJS HJP hj
  gi_wp2
  refine wpIn_flow_old [([true, true, true, true, true, true, true, true, true, true, true, true, true, true, true, true, true, true], 18), ([], 19)] [false, false, false, false, false, false, false, false, false, false, false, false, false, false, false, false, false, false, false, false, true, true] [] (by kernel_rfl) (by kernel_rfl) (by kernel_rfl) (below_drewN (Below.refl _ _) 1) ?_
  refine wpFlow_cons (A := ?AF2) rfl ?hq2 ?_
  case hq2 =>
   rintro σ hσ of hof hcl
   have HOF := Lib.hid hof
   have HCL := Lib.hid hcl
   clear hof hcl
   have c0_ : ∀ z, (of z).cell? ⟨w.heap.size + 1, 3, none⟩ = some (.int .i64 x.drops) := fun z => ((HLay.out.below (HOF.out z)).blk 1 rfl).cell 3
   have hfw : ∀ f, Fence.wide.fn f := fun _ => trivial
   have e0 : ∀ z, (of z).cell? ⟨T.g, 1, none⟩ = some (.slice (some ⟨bv, off, none⟩) T.nv T.cv) := fun z => by rw [← HAV.out]; exact ((HT.out.below (HLay.out.1.trans ((HOF.out z).mono HLay.out.1.size))).blk).cell 1
   have e1 : ∀ z, (of z).cell? ⟨bv, off + q * 2 + 1, none⟩ = some (.int .i64 v.size) := fun z => ((HLay.out.1.trans ((HOF.out z).mono HLay.out.1.size)).cell (p := ⟨bv, off + q * 2 + 1, none⟩) HBV.out).trans HC1.out
   have e2 : ∀ z, (of z).cell? ⟨w.heap.size, q, none⟩ = some (.int .i64 (heldAt s (q : Int))) := fun z => (((HLay.out.below (HOF.out z)).blk 0 rfl).cell q).trans (heldC_at s HQ4.out)
   simp only [pickB]
   repeat (gi_big_quiet_step (fail))
   refine wpQuietIn_nil ?_
   exact rfl
  intro W3 hW
  replace HLay := Lib.hid (HLay.out.below hW)
  clear hW
  gi_wp2
  refine ⟨trivial, (Below.refl _ _).alloc (Nat.le_refl _) _, ?_⟩
  have hb : Below W3.heap.size W3 (W3.alloc (.cells #[.int .i64 x.drops] 3)) := (Below.refl _ _).alloc (Nat.le_refl _) _
  replace HLay := Lib.hid (HLay.out.below hb)
  have HPl := Lib.hid (show IntsAt (W3.alloc (.cells #[.int .i64 x.drops] 3)) (W3.alloc (.cells #[.int .i64 x.drops] 3)).heap.size (some ⟨W3.heap.size, 0, none⟩) 1 [x.drops] from IntsAt.new W3 3 [x.drops] _ (by simp))
  obtain ⟨P5, hP⟩ : ∃ P, W3.heap.size = P := ⟨_, rfl⟩
  rw [hP] at HPl ⊢
  generalize (W3.alloc (.cells #[.int .i64 x.drops] 3)) = V4 at *
  clear hb hP
  refine wpFlow_cons rfl Quietly.none ?_
  intro W6 hW
  replace HLay := Lib.hid (HLay.out.below hW)
  replace HPl := Lib.hid ((HPl.out.below hW).more hW.size)
  clear hW
  gi_wp2
  refine ⟨trivial, (callsIn_wide.2 (in_any 1 (v.size - heldAt s (q : Int)) (some ⟨P5, 0, none⟩) 1 1 [x.drops] W6 HPl.out (by decide))).mono ?_⟩
  rintro e W7 ⟨rfl, hb⟩
  replace HLay := Lib.hid (HLay.out.below hb)
  replace HPl := Lib.hid ((HPl.out.below hb).more hb.size)
  gi_wp2
  refine ⟨trivial, hb, ?_⟩
  clear hb
  clear HPl
  refine wpFlow_nil (A := ?AF3) ?hq3 ?_
  case hq3 =>
   rintro σ hσ of hof hcl
   have HOF := Lib.hid hof
   have HCL := Lib.hid hcl
   clear hof hcl
   have c0_ : ∀ z, (of z).cell? ⟨w.heap.size + 1, 3, none⟩ = some (.int .i64 x.drops) := fun z => ((HLay.out.below (HOF.out z)).blk 1 rfl).cell 3
   have hfw : ∀ f, Fence.wide.fn f := fun _ => trivial
   simp only [pickB]
   repeat (gi_big_quiet_step (fail))
   refine wpQuietIn_nil ?_
   exact rfl
  intro W8 hW
  replace HLay := Lib.hid (HLay.out.below hW)
  clear hW
  simp only [pickB]
  refine wpT_nil ?_
  gi_wp2
  refine bodyPost_ret (v := .bool (inB 1 (v.size - heldAt s (q : Int)) [x.drops])) (by simp [results, Tryd.results62, go_sem]) rfl ⟨by rw [HR.out], HLay.out.1⟩

set_option maxRecDepth 100000 in
set_option maxHeartbeats 8000000 in
theorem held_in (T : Tb) (s : Held) (x : MAct) (w : World)
  (h : TbAt w T) (hs : ∀ q : Nat, 0 ≤ heldAt s q ∧ heldAt s q ≤ 1000) :
  CallsIn Fence.wide 9 Tryd.prog 66 #[.pointer (some ⟨T.g, 0, none⟩), .agg #[.int .i64 (heldAt s 0), .int .i64 (heldAt s 1), .int .i64 (heldAt s 2), .int .i64 (heldAt s 3)], .agg #[.int .i64 x.kind, .int .i64 x.fr, .int .i64 x.to, .int .i64 x.drops]] w (fun e w' => e = .returned (.bool (heldB T.m s x)) ∧ Below w.heap.size w w') := by
 have HT := Lib.hid h
 have HS := Lib.hid hs
 clear h hs
 refine callsIn_of_wp Tryd.func66 rfl trivial ?_ rfl
 simp only [Tryd.ntmps66, List.size_toArray, List.length_cons, List.length_nil, Nat.reduceAdd, Nat.reduceSub, Array.replicate_succ, Array.replicate_zero, List.push_toArray, List.append_toArray, List.nil_append, List.cons_append]
 gi_wp2
 have HLay := Lib.hid (Lay.two w 74 #[.int .i64 (heldAt s 0), .int .i64 (heldAt s 1), .int .i64 (heldAt s 2), .int .i64 (heldAt s 3)] 43 #[.int .i64 x.kind, .int .i64 x.fr, .int .i64 x.to, .int .i64 x.drops])
 generalize ((w.alloc (.cells #[.int .i64 (heldAt s 0), .int .i64 (heldAt s 1), .int .i64 (heldAt s 2), .int .i64 (heldAt s 3)] 74)).alloc (.cells #[.int .i64 x.kind, .int .i64 x.fr, .int .i64 x.to, .int .i64 x.drops] 43)) = w0 at *
 have x1_0 := (HLay.out.blk 1 rfl).cell 0
 have x1_1 := (HLay.out.blk 1 rfl).cell 1
 have x1_2 := (HLay.out.blk 1 rfl).cell 2
 have x1_3 := (HLay.out.blk 1 rfl).cell 3
 have l1_ := HLay.out.lt 1 rfl
 gi_wp2
 clear x1_0 x1_1 x1_2 x1_3 l1_
 refine ⟨trivial, (callsIn_wide.2 (vessel_any T x.fr w0 (HT.out.below HLay.out.1))).mono ?_⟩
 rintro e W1 ⟨rfl, hb⟩
 replace HLay := Lib.hid (HLay.out.below hb)
 clear hb
 have HJB := Lib.hid (idxV_ge T.m.vessels x.fr)
 have HJS := Lib.hid (fun h => idxV_lt (l := T.m.vessels) (id := x.fr) h)
 have HJP : Hid (heldB T.m s x = heldJ T.m s x (idxV T.m.vessels x.fr)) := Lib.hid rfl
 generalize idxV T.m.vessels x.fr = j at *
 by_cases hj : j < 0
 ·have hjn : decide (0 ≤ j) = false := by simpa using hj
  have HR : Hid (heldB T.m s x = false) := Lib.hid (by rw [HJP.out]; unfold heldJ; simp; omega)
  clear HJB HJS HJP hj
  gi_wp2
  refine wpIn_flow_old [] [true, true, true, true, true, true, true, true, true, true, true, true] [] (by kernel_rfl) (by kernel_rfl) (by kernel_rfl) (below_drewN (Below.refl _ _) 1) ?_
  refine wpFlow_nil (A := ?AF1) ?hq1 ?_
  case hq1 =>
   rintro σ hσ of hof hcl
   have HOF := Lib.hid hof
   have HCL := Lib.hid hcl
   clear hof hcl
   have hfw : ∀ f, Fence.wide.fn f := fun _ => trivial
   simp only [pickB]
   repeat (gi_big_quiet_step (fail))
   refine wpQuietIn_nil ?_
   exact rfl
  intro W2 hW
  replace HLay := Lib.hid (HLay.out.below hW)
  clear hW
  simp only [pickB]
  refine wpT_nil ?_
  gi_wp2
  refine bodyPost_ret (v := .bool false) (by simp [results, Tryd.results66, go_sem]) rfl ⟨by rw [HR.out], HLay.out.1⟩
 ·obtain ⟨q, rfl⟩ : ∃ q : Nat, j = q := ⟨j.toNat, by omega⟩
  have hlv := HT.out.mix.lenV
  have hq0 := HJS.out (by omega)
  have hq4 : q < 4 := by have := HT.out.small; omega
  have HR : Hid (heldB T.m s x = inB 1 (heldAt s (q : Int)) [x.drops]) := Lib.hid (by rw [HJP.out, inB_one]; unfold heldJ; rw [decide_eq_decide]; omega)
  have HQ4 := Lib.hid hq4
  clear hlv hq0 HJB HJS HJP hj
  gi_wp2
  refine wpIn_flow_old [([true, true, true, true, true, true, true, true], 8), ([], 9)] [false, false, false, false, false, false, false, false, false, false, true, true] [] (by kernel_rfl) (by kernel_rfl) (by kernel_rfl) (below_drewN (Below.refl _ _) 1) ?_
  refine wpFlow_cons (A := ?AF2) rfl ?hq2 ?_
  case hq2 =>
   rintro σ hσ of hof hcl
   have HOF := Lib.hid hof
   have HCL := Lib.hid hcl
   clear hof hcl
   have c0_ : ∀ z, (of z).cell? ⟨w.heap.size + 1, 3, none⟩ = some (.int .i64 x.drops) := fun z => ((HLay.out.below (HOF.out z)).blk 1 rfl).cell 3
   have hfw : ∀ f, Fence.wide.fn f := fun _ => trivial
   have e2 : ∀ z, (of z).cell? ⟨w.heap.size, q, none⟩ = some (.int .i64 (heldAt s (q : Int))) := fun z => (((HLay.out.below (HOF.out z)).blk 0 rfl).cell q).trans (heldC_at s HQ4.out)
   simp only [pickB]
   repeat (gi_big_quiet_step (fail))
   refine wpQuietIn_nil ?_
   exact rfl
  intro W3 hW
  replace HLay := Lib.hid (HLay.out.below hW)
  clear hW
  gi_wp2
  refine ⟨trivial, (Below.refl _ _).alloc (Nat.le_refl _) _, ?_⟩
  have hb : Below W3.heap.size W3 (W3.alloc (.cells #[.int .i64 x.drops] 3)) := (Below.refl _ _).alloc (Nat.le_refl _) _
  replace HLay := Lib.hid (HLay.out.below hb)
  have HPl := Lib.hid (show IntsAt (W3.alloc (.cells #[.int .i64 x.drops] 3)) (W3.alloc (.cells #[.int .i64 x.drops] 3)).heap.size (some ⟨W3.heap.size, 0, none⟩) 1 [x.drops] from IntsAt.new W3 3 [x.drops] _ (by simp))
  obtain ⟨P5, hP⟩ : ∃ P, W3.heap.size = P := ⟨_, rfl⟩
  rw [hP] at HPl ⊢
  generalize (W3.alloc (.cells #[.int .i64 x.drops] 3)) = V4 at *
  clear hb hP
  refine wpFlow_cons rfl Quietly.none ?_
  intro W6 hW
  replace HLay := Lib.hid (HLay.out.below hW)
  replace HPl := Lib.hid ((HPl.out.below hW).more hW.size)
  clear hW
  gi_wp2
  refine ⟨trivial, (callsIn_wide.2 (in_any 1 (heldAt s (q : Int)) (some ⟨P5, 0, none⟩) 1 1 [x.drops] W6 HPl.out (by decide))).mono ?_⟩
  rintro e W7 ⟨rfl, hb⟩
  replace HLay := Lib.hid (HLay.out.below hb)
  replace HPl := Lib.hid ((HPl.out.below hb).more hb.size)
  gi_wp2
  refine ⟨trivial, hb, ?_⟩
  clear hb
  clear HPl
  refine wpFlow_nil (A := ?AF3) ?hq3 ?_
  case hq3 =>
   rintro σ hσ of hof hcl
   have HOF := Lib.hid hof
   have HCL := Lib.hid hcl
   clear hof hcl
   have c0_ : ∀ z, (of z).cell? ⟨w.heap.size + 1, 3, none⟩ = some (.int .i64 x.drops) := fun z => ((HLay.out.below (HOF.out z)).blk 1 rfl).cell 3
   have hfw : ∀ f, Fence.wide.fn f := fun _ => trivial
   simp only [pickB]
   repeat (gi_big_quiet_step (fail))
   refine wpQuietIn_nil ?_
   exact rfl
  intro W8 hW
  replace HLay := Lib.hid (HLay.out.below hW)
  clear hW
  simp only [pickB]
  refine wpT_nil ?_
  gi_wp2
  refine bodyPost_ret (v := .bool (inB 1 (heldAt s (q : Int)) [x.drops])) (by simp [results, Tryd.results66, go_sem]) rfl ⟨by rw [HR.out], HLay.out.1⟩

end Go.Proofs.YtjdgdeiedkickaaDoor.Mx
/- What the four kinds of acts need. -/
namespace Go.Proofs.YtjdgdeiedkickaaDoor.Mx
open Go.RowKit

def right1B (m : Mix) (s : Held) (x : MAct) : Bool := decide (1 ≤ x.fr ∧ x.fr ≤ m.fountains) && roomB m s x
def right2B (m : Mix) (s : Held) (x : MAct) : Bool := !decide (x.fr = x.to) && (heldB m s x && roomB m s x)
def right3B (m : Mix) (s : Held) (x : MAct) : Bool := decide (x.to = 0) && heldB m s x
def right4B (m : Mix) (s : Held) (x : MAct) : Bool := decide (x.to = 0 ∧ x.drops = 0) && decide (0 ≤ idxV m.vessels x.fr)

set_option maxRecDepth 100000 in
set_option maxHeartbeats 8000000 in
theorem kind1_in (T : Tb) (s : Held) (x : MAct) (w : World)
  (h : TbAt w T) (hs : ∀ q : Nat, 0 ≤ heldAt s q ∧ heldAt s q ≤ 1000) (hz : VesOk T.m) :
  CallsIn Fence.wide 9 Tryd.prog 61 #[.pointer (some ⟨T.g, 0, none⟩), .agg #[.int .i64 (heldAt s 0), .int .i64 (heldAt s 1), .int .i64 (heldAt s 2), .int .i64 (heldAt s 3)], .agg #[.int .i64 x.kind, .int .i64 x.fr, .int .i64 x.to, .int .i64 x.drops]] w (fun e w' => e = .returned (.bool (right1B T.m s x)) ∧ Below w.heap.size w w') := by
 have HT := Lib.hid h
 have HS := Lib.hid hs
 have HZ := Lib.hid hz
 clear h hs hz
 refine callsIn_of_wp Tryd.func61 rfl trivial ?_ rfl
 simp only [Tryd.ntmps61, List.size_toArray, List.length_cons, List.length_nil, Nat.reduceAdd, Nat.reduceSub, Array.replicate_succ, Array.replicate_zero, List.push_toArray, List.append_toArray, List.nil_append, List.cons_append]
 gi_upto_region 1 with fail
 have HLay := Lib.hid (Lay.two w 74 #[.int .i64 (heldAt s 0), .int .i64 (heldAt s 1), .int .i64 (heldAt s 2), .int .i64 (heldAt s 3)] 43 #[.int .i64 x.kind, .int .i64 x.fr, .int .i64 x.to, .int .i64 x.drops])
 generalize ((w.alloc (.cells #[.int .i64 (heldAt s 0), .int .i64 (heldAt s 1), .int .i64 (heldAt s 2), .int .i64 (heldAt s 3)] 74)).alloc (.cells #[.int .i64 x.kind, .int .i64 x.fr, .int .i64 x.to, .int .i64 x.drops] 43)) = w0 at *
 have HI : Hid (inB 1 T.m.fountains [x.fr] = decide (1 ≤ x.fr ∧ x.fr ≤ T.m.fountains)) := Lib.hid (inB_one _ _ _)
 by_cases hf : 1 ≤ x.fr ∧ x.fr ≤ T.m.fountains
 ·
  have HG : Hid (inB 1 T.m.fountains [x.fr] = true) := Lib.hid (by rw [HI.out]; simpa using hf)
  have HR : Hid (right1B T.m s x = roomB T.m s x) := Lib.hid (by unfold right1B; simp [hf])
  clear HI hf
  gi_wp2
  refine wpIn_flow_old [([true, true, true, true, true, true, true], 7), ([], 8), ([false, false, false, false, false, false, false, false, false, true, true, true, true], 13)] [false, false, false, false, false, false, false, false, false, false, false, false, false, false, true, true] [] (by kernel_rfl) (by kernel_rfl) (by kernel_rfl) (below_drewN (Below.refl _ _) 1) ?_
  refine wpFlow_cons (A := ?AF1) rfl ?hq1 ?_
  case hq1 =>
   rintro σ hσ of hof hcl
   have HOF := Lib.hid hof
   have HCL := Lib.hid hcl
   clear hof hcl
   have c0_ : ∀ z, (of z).cell? ⟨w.heap.size, 0, none⟩ = some (.int .i64 (heldAt s 0)) := fun z => ((HLay.out.below (HOF.out z)).blk 0 rfl).cell 0
   have c1_ : ∀ z, (of z).cell? ⟨w.heap.size, 1, none⟩ = some (.int .i64 (heldAt s 1)) := fun z => ((HLay.out.below (HOF.out z)).blk 0 rfl).cell 1
   have c2_ : ∀ z, (of z).cell? ⟨w.heap.size, 2, none⟩ = some (.int .i64 (heldAt s 2)) := fun z => ((HLay.out.below (HOF.out z)).blk 0 rfl).cell 2
   have c3_ : ∀ z, (of z).cell? ⟨w.heap.size, 3, none⟩ = some (.int .i64 (heldAt s 3)) := fun z => ((HLay.out.below (HOF.out z)).blk 0 rfl).cell 3
   have c4_ : ∀ z, (of z).cell? ⟨w.heap.size + 1, 0, none⟩ = some (.int .i64 x.kind) := fun z => ((HLay.out.below (HOF.out z)).blk 1 rfl).cell 0
   have c5_ : ∀ z, (of z).cell? ⟨w.heap.size + 1, 1, none⟩ = some (.int .i64 x.fr) := fun z => ((HLay.out.below (HOF.out z)).blk 1 rfl).cell 1
   have c6_ : ∀ z, (of z).cell? ⟨w.heap.size + 1, 2, none⟩ = some (.int .i64 x.to) := fun z => ((HLay.out.below (HOF.out z)).blk 1 rfl).cell 2
   have c7_ : ∀ z, (of z).cell? ⟨w.heap.size + 1, 3, none⟩ = some (.int .i64 x.drops) := fun z => ((HLay.out.below (HOF.out z)).blk 1 rfl).cell 3
   have hfw : ∀ f, Fence.wide.fn f := fun _ => trivial
   have e0 : ∀ z, (of z).cell? ⟨T.g, 0, none⟩ = some (.int .i64 T.m.fountains) := fun z => ((HT.out.below (HLay.out.1.trans ((HOF.out z).mono HLay.out.1.size))).blk).cell 0
   simp only [pickB]
   repeat (gi_big_quiet_step (fail))
   refine wpQuietIn_nil ?_
   exact rfl
  intro W1 hW
  replace HLay := Lib.hid (HLay.out.below hW)
  clear hW
  gi_wp2
  refine ⟨trivial, (Below.refl _ _).alloc (Nat.le_refl _) _, ?_⟩
  have hb : Below W1.heap.size W1 (W1.alloc (.cells #[.int .i64 x.fr] 3)) := (Below.refl _ _).alloc (Nat.le_refl _) _
  replace HLay := Lib.hid (HLay.out.below hb)
  have HPl := Lib.hid (show IntsAt (W1.alloc (.cells #[.int .i64 x.fr] 3)) (W1.alloc (.cells #[.int .i64 x.fr] 3)).heap.size (some ⟨W1.heap.size, 0, none⟩) 1 [x.fr] from IntsAt.new W1 3 [x.fr] _ (by simp))
  obtain ⟨P3, hP⟩ : ∃ P, W1.heap.size = P := ⟨_, rfl⟩
  rw [hP] at HPl ⊢
  generalize (W1.alloc (.cells #[.int .i64 x.fr] 3)) = V2 at *
  clear hb hP
  refine wpFlow_cons rfl Quietly.none ?_
  intro W4 hW
  replace HLay := Lib.hid (HLay.out.below hW)
  replace HPl := Lib.hid ((HPl.out.below hW).more hW.size)
  clear hW
  gi_wp2
  refine ⟨trivial, (callsIn_wide.2 (in_any 1 T.m.fountains (some ⟨P3, 0, none⟩) 1 1 [x.fr] W4 HPl.out (by decide))).mono ?_⟩
  rintro e W5 ⟨rfl, hb⟩
  replace HLay := Lib.hid (HLay.out.below hb)
  replace HPl := Lib.hid ((HPl.out.below hb).more hb.size)
  rw [HG.out]
  gi_wp2
  refine ⟨trivial, hb, ?_⟩
  clear hb
  clear HPl
  refine wpFlow_cons (A := ?AF2) rfl ?hq2 ?_
  case hq2 =>
   rintro σ hσ of hof hcl
   have HOF := Lib.hid hof
   have HCL := Lib.hid hcl
   clear hof hcl
   have c0_ : ∀ z, (of z).cell? ⟨w.heap.size, 0, none⟩ = some (.int .i64 (heldAt s 0)) := fun z => ((HLay.out.below (HOF.out z)).blk 0 rfl).cell 0
   have c1_ : ∀ z, (of z).cell? ⟨w.heap.size, 1, none⟩ = some (.int .i64 (heldAt s 1)) := fun z => ((HLay.out.below (HOF.out z)).blk 0 rfl).cell 1
   have c2_ : ∀ z, (of z).cell? ⟨w.heap.size, 2, none⟩ = some (.int .i64 (heldAt s 2)) := fun z => ((HLay.out.below (HOF.out z)).blk 0 rfl).cell 2
   have c3_ : ∀ z, (of z).cell? ⟨w.heap.size, 3, none⟩ = some (.int .i64 (heldAt s 3)) := fun z => ((HLay.out.below (HOF.out z)).blk 0 rfl).cell 3
   have c4_ : ∀ z, (of z).cell? ⟨w.heap.size + 1, 0, none⟩ = some (.int .i64 x.kind) := fun z => ((HLay.out.below (HOF.out z)).blk 1 rfl).cell 0
   have c5_ : ∀ z, (of z).cell? ⟨w.heap.size + 1, 1, none⟩ = some (.int .i64 x.fr) := fun z => ((HLay.out.below (HOF.out z)).blk 1 rfl).cell 1
   have c6_ : ∀ z, (of z).cell? ⟨w.heap.size + 1, 2, none⟩ = some (.int .i64 x.to) := fun z => ((HLay.out.below (HOF.out z)).blk 1 rfl).cell 2
   have c7_ : ∀ z, (of z).cell? ⟨w.heap.size + 1, 3, none⟩ = some (.int .i64 x.drops) := fun z => ((HLay.out.below (HOF.out z)).blk 1 rfl).cell 3
   have hfw : ∀ f, Fence.wide.fn f := fun _ => trivial
   have e0 : ∀ z, (of z).cell? ⟨T.g, 0, none⟩ = some (.int .i64 T.m.fountains) := fun z => ((HT.out.below (HLay.out.1.trans ((HOF.out z).mono HLay.out.1.size))).blk).cell 0
   simp only [pickB]
   repeat (gi_big_quiet_step (fail))
   refine wpQuietIn_nil ?_
   exact rfl
  intro W6 hW
  replace HLay := Lib.hid (HLay.out.below hW)
  clear hW
  gi_wp2
  refine ⟨trivial, (callsIn_wide.2 (callsIn_wide.1 (room_in T s x W6 (HT.out.below HLay.out.1) HS.out HZ.out))).mono ?_⟩
  rintro e W7 ⟨rfl, hb⟩
  replace HLay := Lib.hid (HLay.out.below hb)
  gi_wp2
  refine ⟨trivial, hb, ?_⟩
  clear hb
  refine wpFlow_nil (A := ?AF3) ?hq3 ?_
  case hq3 =>
   rintro σ hσ of hof hcl
   have HOF := Lib.hid hof
   have HCL := Lib.hid hcl
   clear hof hcl
   have c0_ : ∀ z, (of z).cell? ⟨w.heap.size, 0, none⟩ = some (.int .i64 (heldAt s 0)) := fun z => ((HLay.out.below (HOF.out z)).blk 0 rfl).cell 0
   have c1_ : ∀ z, (of z).cell? ⟨w.heap.size, 1, none⟩ = some (.int .i64 (heldAt s 1)) := fun z => ((HLay.out.below (HOF.out z)).blk 0 rfl).cell 1
   have c2_ : ∀ z, (of z).cell? ⟨w.heap.size, 2, none⟩ = some (.int .i64 (heldAt s 2)) := fun z => ((HLay.out.below (HOF.out z)).blk 0 rfl).cell 2
   have c3_ : ∀ z, (of z).cell? ⟨w.heap.size, 3, none⟩ = some (.int .i64 (heldAt s 3)) := fun z => ((HLay.out.below (HOF.out z)).blk 0 rfl).cell 3
   have c4_ : ∀ z, (of z).cell? ⟨w.heap.size + 1, 0, none⟩ = some (.int .i64 x.kind) := fun z => ((HLay.out.below (HOF.out z)).blk 1 rfl).cell 0
   have c5_ : ∀ z, (of z).cell? ⟨w.heap.size + 1, 1, none⟩ = some (.int .i64 x.fr) := fun z => ((HLay.out.below (HOF.out z)).blk 1 rfl).cell 1
   have c6_ : ∀ z, (of z).cell? ⟨w.heap.size + 1, 2, none⟩ = some (.int .i64 x.to) := fun z => ((HLay.out.below (HOF.out z)).blk 1 rfl).cell 2
   have c7_ : ∀ z, (of z).cell? ⟨w.heap.size + 1, 3, none⟩ = some (.int .i64 x.drops) := fun z => ((HLay.out.below (HOF.out z)).blk 1 rfl).cell 3
   have hfw : ∀ f, Fence.wide.fn f := fun _ => trivial
   simp only [pickB]
   repeat (gi_big_quiet_step (fail))
   refine wpQuietIn_nil ?_
   exact rfl
  intro W8 hW
  replace HLay := Lib.hid (HLay.out.below hW)
  clear hW
  simp only [pickB]
  refine wpT_nil ?_
  gi_wp2
  refine bodyPost_ret (v := .bool (roomB T.m s x)) (by simp [results, Tryd.results61, go_sem]) rfl ?_
  exact ⟨by rw [HR.out], HLay.out.1⟩
 ·
  have HG : Hid (inB 1 T.m.fountains [x.fr] = false) := Lib.hid (by rw [HI.out]; simpa using hf)
  have HR : Hid (right1B T.m s x = false) := Lib.hid (by unfold right1B; simp [hf])
  clear HI hf
  gi_wp2
  refine wpIn_flow_old [([true, true, true, true, true, true, true], 7), ([], 8), ([false, false, false, false, false, false, false, false, false, true, true, true, true], 13)] [false, false, false, false, false, false, false, false, false, false, false, false, false, false, true, true] [] (by kernel_rfl) (by kernel_rfl) (by kernel_rfl) (below_drewN (Below.refl _ _) 1) ?_
  refine wpFlow_cons (A := ?AF4) rfl ?hq4 ?_
  case hq4 =>
   rintro σ hσ of hof hcl
   have HOF := Lib.hid hof
   have HCL := Lib.hid hcl
   clear hof hcl
   have c0_ : ∀ z, (of z).cell? ⟨w.heap.size, 0, none⟩ = some (.int .i64 (heldAt s 0)) := fun z => ((HLay.out.below (HOF.out z)).blk 0 rfl).cell 0
   have c1_ : ∀ z, (of z).cell? ⟨w.heap.size, 1, none⟩ = some (.int .i64 (heldAt s 1)) := fun z => ((HLay.out.below (HOF.out z)).blk 0 rfl).cell 1
   have c2_ : ∀ z, (of z).cell? ⟨w.heap.size, 2, none⟩ = some (.int .i64 (heldAt s 2)) := fun z => ((HLay.out.below (HOF.out z)).blk 0 rfl).cell 2
   have c3_ : ∀ z, (of z).cell? ⟨w.heap.size, 3, none⟩ = some (.int .i64 (heldAt s 3)) := fun z => ((HLay.out.below (HOF.out z)).blk 0 rfl).cell 3
   have c4_ : ∀ z, (of z).cell? ⟨w.heap.size + 1, 0, none⟩ = some (.int .i64 x.kind) := fun z => ((HLay.out.below (HOF.out z)).blk 1 rfl).cell 0
   have c5_ : ∀ z, (of z).cell? ⟨w.heap.size + 1, 1, none⟩ = some (.int .i64 x.fr) := fun z => ((HLay.out.below (HOF.out z)).blk 1 rfl).cell 1
   have c6_ : ∀ z, (of z).cell? ⟨w.heap.size + 1, 2, none⟩ = some (.int .i64 x.to) := fun z => ((HLay.out.below (HOF.out z)).blk 1 rfl).cell 2
   have c7_ : ∀ z, (of z).cell? ⟨w.heap.size + 1, 3, none⟩ = some (.int .i64 x.drops) := fun z => ((HLay.out.below (HOF.out z)).blk 1 rfl).cell 3
   have hfw : ∀ f, Fence.wide.fn f := fun _ => trivial
   have e0 : ∀ z, (of z).cell? ⟨T.g, 0, none⟩ = some (.int .i64 T.m.fountains) := fun z => ((HT.out.below (HLay.out.1.trans ((HOF.out z).mono HLay.out.1.size))).blk).cell 0
   simp only [pickB]
   repeat (gi_big_quiet_step (fail))
   refine wpQuietIn_nil ?_
   exact rfl
  intro W9 hW
  replace HLay := Lib.hid (HLay.out.below hW)
  clear hW
  gi_wp2
  refine ⟨trivial, (Below.refl _ _).alloc (Nat.le_refl _) _, ?_⟩
  have hb : Below W9.heap.size W9 (W9.alloc (.cells #[.int .i64 x.fr] 3)) := (Below.refl _ _).alloc (Nat.le_refl _) _
  replace HLay := Lib.hid (HLay.out.below hb)
  have HPl := Lib.hid (show IntsAt (W9.alloc (.cells #[.int .i64 x.fr] 3)) (W9.alloc (.cells #[.int .i64 x.fr] 3)).heap.size (some ⟨W9.heap.size, 0, none⟩) 1 [x.fr] from IntsAt.new W9 3 [x.fr] _ (by simp))
  obtain ⟨P11, hP⟩ : ∃ P, W9.heap.size = P := ⟨_, rfl⟩
  rw [hP] at HPl ⊢
  generalize (W9.alloc (.cells #[.int .i64 x.fr] 3)) = V10 at *
  clear hb hP
  refine wpFlow_cons rfl Quietly.none ?_
  intro W12 hW
  replace HLay := Lib.hid (HLay.out.below hW)
  replace HPl := Lib.hid ((HPl.out.below hW).more hW.size)
  clear hW
  gi_wp2
  refine ⟨trivial, (callsIn_wide.2 (in_any 1 T.m.fountains (some ⟨P11, 0, none⟩) 1 1 [x.fr] W12 HPl.out (by decide))).mono ?_⟩
  rintro e W13 ⟨rfl, hb⟩
  replace HLay := Lib.hid (HLay.out.below hb)
  replace HPl := Lib.hid ((HPl.out.below hb).more hb.size)
  rw [HG.out]
  gi_wp2
  refine ⟨trivial, hb, ?_⟩
  clear hb
  clear HPl
  refine wpFlow_cons (A := ?AF5) rfl ?hq5 ?_
  case hq5 =>
   rintro σ hσ of hof hcl
   have HOF := Lib.hid hof
   have HCL := Lib.hid hcl
   clear hof hcl
   have c0_ : ∀ z, (of z).cell? ⟨w.heap.size, 0, none⟩ = some (.int .i64 (heldAt s 0)) := fun z => ((HLay.out.below (HOF.out z)).blk 0 rfl).cell 0
   have c1_ : ∀ z, (of z).cell? ⟨w.heap.size, 1, none⟩ = some (.int .i64 (heldAt s 1)) := fun z => ((HLay.out.below (HOF.out z)).blk 0 rfl).cell 1
   have c2_ : ∀ z, (of z).cell? ⟨w.heap.size, 2, none⟩ = some (.int .i64 (heldAt s 2)) := fun z => ((HLay.out.below (HOF.out z)).blk 0 rfl).cell 2
   have c3_ : ∀ z, (of z).cell? ⟨w.heap.size, 3, none⟩ = some (.int .i64 (heldAt s 3)) := fun z => ((HLay.out.below (HOF.out z)).blk 0 rfl).cell 3
   have c4_ : ∀ z, (of z).cell? ⟨w.heap.size + 1, 0, none⟩ = some (.int .i64 x.kind) := fun z => ((HLay.out.below (HOF.out z)).blk 1 rfl).cell 0
   have c5_ : ∀ z, (of z).cell? ⟨w.heap.size + 1, 1, none⟩ = some (.int .i64 x.fr) := fun z => ((HLay.out.below (HOF.out z)).blk 1 rfl).cell 1
   have c6_ : ∀ z, (of z).cell? ⟨w.heap.size + 1, 2, none⟩ = some (.int .i64 x.to) := fun z => ((HLay.out.below (HOF.out z)).blk 1 rfl).cell 2
   have c7_ : ∀ z, (of z).cell? ⟨w.heap.size + 1, 3, none⟩ = some (.int .i64 x.drops) := fun z => ((HLay.out.below (HOF.out z)).blk 1 rfl).cell 3
   have hfw : ∀ f, Fence.wide.fn f := fun _ => trivial
   have e0 : ∀ z, (of z).cell? ⟨T.g, 0, none⟩ = some (.int .i64 T.m.fountains) := fun z => ((HT.out.below (HLay.out.1.trans ((HOF.out z).mono HLay.out.1.size))).blk).cell 0
   simp only [pickB]
   repeat (gi_big_quiet_step (fail))
   refine wpQuietIn_nil ?_
   exact rfl
  intro W14 hW
  replace HLay := Lib.hid (HLay.out.below hW)
  clear hW
  gi_wp2
  refine ⟨trivial, ?_⟩
  gi_wp2
  refine ⟨trivial, Below.refl _ _, ?_⟩
  refine wpFlow_nil (A := ?AF6) ?hq6 ?_
  case hq6 =>
   rintro σ hσ of hof hcl
   have HOF := Lib.hid hof
   have HCL := Lib.hid hcl
   clear hof hcl
   have c0_ : ∀ z, (of z).cell? ⟨w.heap.size, 0, none⟩ = some (.int .i64 (heldAt s 0)) := fun z => ((HLay.out.below (HOF.out z)).blk 0 rfl).cell 0
   have c1_ : ∀ z, (of z).cell? ⟨w.heap.size, 1, none⟩ = some (.int .i64 (heldAt s 1)) := fun z => ((HLay.out.below (HOF.out z)).blk 0 rfl).cell 1
   have c2_ : ∀ z, (of z).cell? ⟨w.heap.size, 2, none⟩ = some (.int .i64 (heldAt s 2)) := fun z => ((HLay.out.below (HOF.out z)).blk 0 rfl).cell 2
   have c3_ : ∀ z, (of z).cell? ⟨w.heap.size, 3, none⟩ = some (.int .i64 (heldAt s 3)) := fun z => ((HLay.out.below (HOF.out z)).blk 0 rfl).cell 3
   have c4_ : ∀ z, (of z).cell? ⟨w.heap.size + 1, 0, none⟩ = some (.int .i64 x.kind) := fun z => ((HLay.out.below (HOF.out z)).blk 1 rfl).cell 0
   have c5_ : ∀ z, (of z).cell? ⟨w.heap.size + 1, 1, none⟩ = some (.int .i64 x.fr) := fun z => ((HLay.out.below (HOF.out z)).blk 1 rfl).cell 1
   have c6_ : ∀ z, (of z).cell? ⟨w.heap.size + 1, 2, none⟩ = some (.int .i64 x.to) := fun z => ((HLay.out.below (HOF.out z)).blk 1 rfl).cell 2
   have c7_ : ∀ z, (of z).cell? ⟨w.heap.size + 1, 3, none⟩ = some (.int .i64 x.drops) := fun z => ((HLay.out.below (HOF.out z)).blk 1 rfl).cell 3
   have hfw : ∀ f, Fence.wide.fn f := fun _ => trivial
   simp only [pickB]
   repeat (gi_big_quiet_step (fail))
   refine wpQuietIn_nil ?_
   exact rfl
  intro W15 hW
  replace HLay := Lib.hid (HLay.out.below hW)
  clear hW
  simp only [pickB]
  refine wpT_nil ?_
  gi_wp2
  refine bodyPost_ret (v := .bool false) (by simp [results, Tryd.results61, go_sem]) rfl ?_
  exact ⟨by rw [HR.out], HLay.out.1⟩

set_option maxRecDepth 100000 in
set_option maxHeartbeats 8000000 in
theorem kind2_in (T : Tb) (s : Held) (x : MAct) (w : World)
  (h : TbAt w T) (hs : ∀ q : Nat, 0 ≤ heldAt s q ∧ heldAt s q ≤ 1000) (hz : VesOk T.m) :
  CallsIn Fence.wide 9 Tryd.prog 65 #[.pointer (some ⟨T.g, 0, none⟩), .agg #[.int .i64 (heldAt s 0), .int .i64 (heldAt s 1), .int .i64 (heldAt s 2), .int .i64 (heldAt s 3)], .agg #[.int .i64 x.kind, .int .i64 x.fr, .int .i64 x.to, .int .i64 x.drops]] w (fun e w' => e = .returned (.bool (right2B T.m s x)) ∧ Below w.heap.size w w') := by
 have HT := Lib.hid h
 have HS := Lib.hid hs
 have HZ := Lib.hid hz
 clear h hs hz
 refine callsIn_of_wp Tryd.func65 rfl trivial ?_ rfl
 simp only [Tryd.ntmps65, List.size_toArray, List.length_cons, List.length_nil, Nat.reduceAdd, Nat.reduceSub, Array.replicate_succ, Array.replicate_zero, List.push_toArray, List.append_toArray, List.nil_append, List.cons_append]
 gi_upto_region 1 with fail
 have HLay := Lib.hid (Lay.two w 74 #[.int .i64 (heldAt s 0), .int .i64 (heldAt s 1), .int .i64 (heldAt s 2), .int .i64 (heldAt s 3)] 43 #[.int .i64 x.kind, .int .i64 x.fr, .int .i64 x.to, .int .i64 x.drops])
 generalize ((w.alloc (.cells #[.int .i64 (heldAt s 0), .int .i64 (heldAt s 1), .int .i64 (heldAt s 2), .int .i64 (heldAt s 3)] 74)).alloc (.cells #[.int .i64 x.kind, .int .i64 x.fr, .int .i64 x.to, .int .i64 x.drops] 43)) = w0 at *
 by_cases hf : x.fr = x.to
 ·
  have hf1 : (x.fr != x.to) = false := by simpa using hf
  have HR : Hid (right2B T.m s x = false) := Lib.hid (by unfold right2B; simp [hf])
  clear hf
  have x0_0 := (HLay.out.blk 0 rfl).cell 0
  have x0_1 := (HLay.out.blk 0 rfl).cell 1
  have x0_2 := (HLay.out.blk 0 rfl).cell 2
  have x0_3 := (HLay.out.blk 0 rfl).cell 3
  have l0_ := HLay.out.lt 0 rfl
  have x1_0 := (HLay.out.blk 1 rfl).cell 0
  have x1_1 := (HLay.out.blk 1 rfl).cell 1
  have x1_2 := (HLay.out.blk 1 rfl).cell 2
  have x1_3 := (HLay.out.blk 1 rfl).cell 3
  have l1_ := HLay.out.lt 1 rfl
  gi_wp2
  clear x0_0 x0_1 x0_2 x0_3 l0_ x1_0 x1_1 x1_2 x1_3 l1_
  refine ⟨trivial, ?_⟩
  gi_wp2
  refine ⟨trivial, ?_⟩
  gi_wp2
  refine bodyPost_ret (v := .bool false) (by simp [results, Tryd.results65, go_sem]) rfl ?_
  exact ⟨by rw [HR.out], HLay.out.1⟩
 ·
  have hf1 : (x.fr != x.to) = true := by simpa using hf
  have HF := Lib.hid hf
  clear hf
  have x0_0 := (HLay.out.blk 0 rfl).cell 0
  have x0_1 := (HLay.out.blk 0 rfl).cell 1
  have x0_2 := (HLay.out.blk 0 rfl).cell 2
  have x0_3 := (HLay.out.blk 0 rfl).cell 3
  have l0_ := HLay.out.lt 0 rfl
  have x1_0 := (HLay.out.blk 1 rfl).cell 0
  have x1_1 := (HLay.out.blk 1 rfl).cell 1
  have x1_2 := (HLay.out.blk 1 rfl).cell 2
  have x1_3 := (HLay.out.blk 1 rfl).cell 3
  have l1_ := HLay.out.lt 1 rfl
  gi_wp2
  clear x0_0 x0_1 x0_2 x0_3 l0_ x1_0 x1_1 x1_2 x1_3 l1_
  clear hf1
  refine ⟨trivial, (callsIn_wide.2 (callsIn_wide.1 (held_in T s x w0 (HT.out.below HLay.out.1) HS.out))).mono ?_⟩
  rintro e W1 ⟨rfl, hb⟩
  replace HLay := Lib.hid (HLay.out.below hb)
  clear hb
  cases hh : heldB T.m s x with
  | false =>
   have HH := Lib.hid hh
   clear hh
   have HR : Hid (right2B T.m s x = false) := Lib.hid (by unfold right2B; simp [HF.out, HH.out])
   gi_wp2
   refine ⟨trivial, ?_⟩
   gi_wp2
   refine bodyPost_ret (v := .bool false) (by simp [results, Tryd.results65, go_sem]) rfl ?_
   exact ⟨by rw [HR.out], HLay.out.1⟩
  | true =>
   have HH := Lib.hid hh
   clear hh
   have HR : Hid (right2B T.m s x = roomB T.m s x) := Lib.hid (by unfold right2B; simp [HF.out, HH.out])
   have x0_0 := (HLay.out.blk 0 rfl).cell 0
   have x0_1 := (HLay.out.blk 0 rfl).cell 1
   have x0_2 := (HLay.out.blk 0 rfl).cell 2
   have x0_3 := (HLay.out.blk 0 rfl).cell 3
   have l0_ := HLay.out.lt 0 rfl
   have x1_0 := (HLay.out.blk 1 rfl).cell 0
   have x1_1 := (HLay.out.blk 1 rfl).cell 1
   have x1_2 := (HLay.out.blk 1 rfl).cell 2
   have x1_3 := (HLay.out.blk 1 rfl).cell 3
   have l1_ := HLay.out.lt 1 rfl
   gi_wp2
   clear x0_0 x0_1 x0_2 x0_3 l0_ x1_0 x1_1 x1_2 x1_3 l1_
   refine ⟨trivial, (callsIn_wide.2 (callsIn_wide.1 (room_in T s x W1 (HT.out.below HLay.out.1) HS.out HZ.out))).mono ?_⟩
   rintro e W2 ⟨rfl, hb⟩
   replace HLay := Lib.hid (HLay.out.below hb)
   clear hb
   gi_wp2
   refine bodyPost_ret (v := .bool (roomB T.m s x)) (by simp [results, Tryd.results65, go_sem]) rfl ?_
   exact ⟨by rw [HR.out], HLay.out.1⟩

set_option maxRecDepth 100000 in
set_option maxHeartbeats 8000000 in
theorem kind3_in (T : Tb) (s : Held) (x : MAct) (w : World)
  (h : TbAt w T) (hs : ∀ q : Nat, 0 ≤ heldAt s q ∧ heldAt s q ≤ 1000) (hz : VesOk T.m) :
  CallsIn Fence.wide 9 Tryd.prog 68 #[.pointer (some ⟨T.g, 0, none⟩), .agg #[.int .i64 (heldAt s 0), .int .i64 (heldAt s 1), .int .i64 (heldAt s 2), .int .i64 (heldAt s 3)], .agg #[.int .i64 x.kind, .int .i64 x.fr, .int .i64 x.to, .int .i64 x.drops]] w (fun e w' => e = .returned (.bool (right3B T.m s x)) ∧ Below w.heap.size w w') := by
 have HT := Lib.hid h
 have HS := Lib.hid hs
 have HZ := Lib.hid hz
 clear h hs hz
 refine callsIn_of_wp Tryd.func68 rfl trivial ?_ rfl
 simp only [Tryd.ntmps68, List.size_toArray, List.length_cons, List.length_nil, Nat.reduceAdd, Nat.reduceSub, Array.replicate_succ, Array.replicate_zero, List.push_toArray, List.append_toArray, List.nil_append, List.cons_append]
 gi_upto_region 1 with fail
 have HLay := Lib.hid (Lay.two w 74 #[.int .i64 (heldAt s 0), .int .i64 (heldAt s 1), .int .i64 (heldAt s 2), .int .i64 (heldAt s 3)] 43 #[.int .i64 x.kind, .int .i64 x.fr, .int .i64 x.to, .int .i64 x.drops])
 generalize ((w.alloc (.cells #[.int .i64 (heldAt s 0), .int .i64 (heldAt s 1), .int .i64 (heldAt s 2), .int .i64 (heldAt s 3)] 74)).alloc (.cells #[.int .i64 x.kind, .int .i64 x.fr, .int .i64 x.to, .int .i64 x.drops] 43)) = w0 at *
 by_cases hf : x.to = 0
 ·
  have hf1 : (x.to == 0) = true := by simpa using hf
  have HR : Hid (right3B T.m s x = heldB T.m s x) := Lib.hid (by unfold right3B; simp [hf])
  clear hf
  have x0_0 := (HLay.out.blk 0 rfl).cell 0
  have x0_1 := (HLay.out.blk 0 rfl).cell 1
  have x0_2 := (HLay.out.blk 0 rfl).cell 2
  have x0_3 := (HLay.out.blk 0 rfl).cell 3
  have l0_ := HLay.out.lt 0 rfl
  have x1_0 := (HLay.out.blk 1 rfl).cell 0
  have x1_1 := (HLay.out.blk 1 rfl).cell 1
  have x1_2 := (HLay.out.blk 1 rfl).cell 2
  have x1_3 := (HLay.out.blk 1 rfl).cell 3
  have l1_ := HLay.out.lt 1 rfl
  gi_wp2
  clear x0_0 x0_1 x0_2 x0_3 l0_ x1_0 x1_1 x1_2 x1_3 l1_
  refine ⟨trivial, (callsIn_wide.2 (callsIn_wide.1 (held_in T s x w0 (HT.out.below HLay.out.1) HS.out))).mono ?_⟩
  rintro e W1 ⟨rfl, hb⟩
  replace HLay := Lib.hid (HLay.out.below hb)
  clear hb
  gi_wp2
  refine bodyPost_ret (v := .bool (heldB T.m s x)) (by simp [results, Tryd.results68, go_sem]) rfl ?_
  exact ⟨by rw [HR.out], HLay.out.1⟩
 ·
  have hf1 : (x.to == 0) = false := by simpa using hf
  have HR : Hid (right3B T.m s x = false) := Lib.hid (by unfold right3B; simp [hf])
  clear hf
  have x0_0 := (HLay.out.blk 0 rfl).cell 0
  have x0_1 := (HLay.out.blk 0 rfl).cell 1
  have x0_2 := (HLay.out.blk 0 rfl).cell 2
  have x0_3 := (HLay.out.blk 0 rfl).cell 3
  have l0_ := HLay.out.lt 0 rfl
  have x1_0 := (HLay.out.blk 1 rfl).cell 0
  have x1_1 := (HLay.out.blk 1 rfl).cell 1
  have x1_2 := (HLay.out.blk 1 rfl).cell 2
  have x1_3 := (HLay.out.blk 1 rfl).cell 3
  have l1_ := HLay.out.lt 1 rfl
  gi_wp2
  clear x0_0 x0_1 x0_2 x0_3 l0_ x1_0 x1_1 x1_2 x1_3 l1_
  refine ⟨trivial, ?_⟩
  gi_wp2
  refine bodyPost_ret (v := .bool false) (by simp [results, Tryd.results68, go_sem]) rfl ?_
  exact ⟨by rw [HR.out], HLay.out.1⟩

set_option maxRecDepth 100000 in
set_option maxHeartbeats 8000000 in
theorem kind4_in (T : Tb) (s : Held) (x : MAct) (w : World)
  (h : TbAt w T) (hs : ∀ q : Nat, 0 ≤ heldAt s q ∧ heldAt s q ≤ 1000) (hz : VesOk T.m) :
  CallsIn Fence.wide 9 Tryd.prog 69 #[.pointer (some ⟨T.g, 0, none⟩), .agg #[.int .i64 (heldAt s 0), .int .i64 (heldAt s 1), .int .i64 (heldAt s 2), .int .i64 (heldAt s 3)], .agg #[.int .i64 x.kind, .int .i64 x.fr, .int .i64 x.to, .int .i64 x.drops]] w (fun e w' => e = .returned (.bool (right4B T.m s x)) ∧ Below w.heap.size w w') := by
 have HT := Lib.hid h
 have HS := Lib.hid hs
 have HZ := Lib.hid hz
 clear h hs hz
 refine callsIn_of_wp Tryd.func69 rfl trivial ?_ rfl
 simp only [Tryd.ntmps69, List.size_toArray, List.length_cons, List.length_nil, Nat.reduceAdd, Nat.reduceSub, Array.replicate_succ, Array.replicate_zero, List.push_toArray, List.append_toArray, List.nil_append, List.cons_append]
 gi_upto_region 1 with fail
 have HLay := Lib.hid (Lay.two w 74 #[.int .i64 (heldAt s 0), .int .i64 (heldAt s 1), .int .i64 (heldAt s 2), .int .i64 (heldAt s 3)] 43 #[.int .i64 x.kind, .int .i64 x.fr, .int .i64 x.to, .int .i64 x.drops])
 generalize ((w.alloc (.cells #[.int .i64 (heldAt s 0), .int .i64 (heldAt s 1), .int .i64 (heldAt s 2), .int .i64 (heldAt s 3)] 74)).alloc (.cells #[.int .i64 x.kind, .int .i64 x.fr, .int .i64 x.to, .int .i64 x.drops] 43)) = w0 at *
 by_cases hf : x.to = 0 ∧ x.drops = 0
 ·
  have HR : Hid (right4B T.m s x = decide (0 ≤ idxV T.m.vessels x.fr)) := Lib.hid (by unfold right4B; simp [hf])
  obtain ⟨ha, hb0⟩ := hf
  have hf1 : (x.to == 0) = true := by simpa using ha
  have hf2 : (x.drops == 0) = true := by simpa using hb0
  clear ha hb0
  have x0_0 := (HLay.out.blk 0 rfl).cell 0
  have x0_1 := (HLay.out.blk 0 rfl).cell 1
  have x0_2 := (HLay.out.blk 0 rfl).cell 2
  have x0_3 := (HLay.out.blk 0 rfl).cell 3
  have l0_ := HLay.out.lt 0 rfl
  have x1_0 := (HLay.out.blk 1 rfl).cell 0
  have x1_1 := (HLay.out.blk 1 rfl).cell 1
  have x1_2 := (HLay.out.blk 1 rfl).cell 2
  have x1_3 := (HLay.out.blk 1 rfl).cell 3
  have l1_ := HLay.out.lt 1 rfl
  gi_wp2
  clear x0_0 x0_1 x0_2 x0_3 l0_ x1_0 x1_1 x1_2 x1_3 l1_
  refine ⟨trivial, (callsIn_wide.2 (vessel_any T x.fr w0 (HT.out.below HLay.out.1))).mono ?_⟩
  rintro e W1 ⟨rfl, hb⟩
  replace HLay := Lib.hid (HLay.out.below hb)
  clear hb
  generalize idxV T.m.vessels x.fr = j at *
  gi_wp2
  refine bodyPost_ret (v := .bool (decide (0 ≤ j))) (by simp [results, Tryd.results69, go_sem]) rfl ?_
  exact ⟨by rw [HR.out], HLay.out.1⟩
 ·
  have HR : Hid (right4B T.m s x = false) := Lib.hid (by unfold right4B; rw [decide_eq_false hf]; rfl)
  rcases (show (x.to == 0) = false ∨ ((x.to == 0) = true ∧ (x.drops == 0) = false) by
   by_cases q : x.to = 0
   ·right; exact ⟨by simpa using q, by simpa using fun r => hf ⟨q, r⟩⟩
   ·left; simpa using q) with hf1 | ⟨hf1, hf2⟩
  all_goals
   clear hf
   have x0_0 := (HLay.out.blk 0 rfl).cell 0
   have x0_1 := (HLay.out.blk 0 rfl).cell 1
   have x0_2 := (HLay.out.blk 0 rfl).cell 2
   have x0_3 := (HLay.out.blk 0 rfl).cell 3
   have l0_ := HLay.out.lt 0 rfl
   have x1_0 := (HLay.out.blk 1 rfl).cell 0
   have x1_1 := (HLay.out.blk 1 rfl).cell 1
   have x1_2 := (HLay.out.blk 1 rfl).cell 2
   have x1_3 := (HLay.out.blk 1 rfl).cell 3
   have l1_ := HLay.out.lt 1 rfl
   gi_wp2
   clear x0_0 x0_1 x0_2 x0_3 l0_ x1_0 x1_1 x1_2 x1_3 l1_
   refine ⟨trivial, ?_⟩
   gi_wp2
   refine bodyPost_ret (v := .bool false) (by simp [results, Tryd.results69, go_sem]) rfl ?_
   exact ⟨by rw [HR.out], HLay.out.1⟩

end Go.Proofs.YtjdgdeiedkickaaDoor.Mx
