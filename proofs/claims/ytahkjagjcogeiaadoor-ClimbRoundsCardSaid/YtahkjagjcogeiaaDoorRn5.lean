/- Part 5 of the texts of this claim, joined. -/
import Derived.Lib.AppendZeros
import Derived.Shelf.Spec.SlicesInsert
import Derived.Lib.Overlaps
import Derived.WideKeyPair
import Derived.Deep.Cut
import Derived.Laws.StructEq
import Derived.Test.YtahkjagjcogeiaaDoorRn4
/- The law of a drawn region by stages. -/
namespace Go.Proofs.YtahkjagjcogeiaaDoor
open Go.RowKit
set_option linter.unusedVariables false

/-- A class of worlds above V that is shut under growth. -/
def Good (V : World) (C : World → Prop) : Prop := (∃ W, C W) ∧ (∀ W, C W → Below V.heap.size V W) ∧ ∀ W W', C W → Below W.heap.size W W' → C W'
theorem Good.above (V : World) : Good V fun W => Below V.heap.size V W := ⟨⟨V, Below.refl _ _⟩, fun _ h => h, fun _ _ h k => h.trans (k.mono h.size)⟩
theorem Good.up {V V' : World} {C : World → Prop} (h : Good V' C) (hb : Below V.heap.size V V') : Good V C := ⟨h.1, fun W hW => hb.trans ((h.2.1 W hW).mono hb.size), h.2.2⟩

section
variable {F : Fence} {n : Nat} {P : Program} {l : List Oper}
/-- Quiet operations, in whatever world above V. -/
def Quietly (F : Fence) (n : Nat) (P : Program) (l : List Oper) (V : World) (qs : List Oper) (a A : Act) : Prop :=
  ∀ (σ : Type) (_ : Nonempty σ) (of : σ → World), (∀ z, Below V.heap.size V (of z)) → (∀ z W', Below (of z).heap.size (of z) W' → Cls of W') → wpQuietIn F n P l.toArray (Cls of) (fun a2 => a2 = A) qs a
theorem Quietly.cls {V : World} {qs : List Oper} {a A : Act} (hq : Quietly F n P l V qs a A) {C : World → Prop} (hC : Good V C) : wpQuietIn F n P l.toArray C (fun a2 => a2 = A) qs a := by
  obtain ⟨⟨W0, h0⟩, h1, h2⟩ := hC
  have e : C = Cls (fun z : { W : World // C W } => z.1) := by
    funext W
    exact propext ⟨fun h => ⟨⟨W, h⟩, rfl⟩, fun ⟨z, hz⟩ => by rw [hz]; exact z.2⟩
  rw [e]
  exact hq _ ⟨⟨W0, h0⟩⟩ _ (fun z => h1 _ z.2) (fun z W' hb => ⟨⟨W', h2 _ _ z.2 hb⟩, rfl⟩)

theorem Quietly.none {V : World} {a : Act} : Quietly F n P l V (pickB l []) a a := fun _ _ _ _ _ => by cases l <;> exact rfl

/-- The effects, one behind the other. -/
def wpT (F : Fence) (n : Nat) (P : Program) (ops : Array Oper) (Qn : Act → World → Prop) : List Oper → Act → World → Prop
  | [], a, w => Qn a w
  | o :: r, a, w => wpListIn F n P ops (Exit.then (wpT F n P ops Qn r) (fun _ _ _ => False)) [o] a w
theorem wpT_nil {ops : Array Oper} {Qn : Act → World → Prop} {a : Act} {w : World} (h : Qn a w) : wpT F n P ops Qn [] a w := h
theorem wpT_cons {ops : Array Oper} {Qn : Act → World → Prop} {o : Oper} {r : List Oper} {a : Act} {w : World} (h : wpListIn F n P ops (Exit.then (wpT F n P ops Qn r) (fun _ _ _ => False)) [o] a w) : wpT F n P ops Qn (o :: r) a w := h

/-- Stage by stage: quiet operations, then one that may make memory. -/
def wpFlow (F : Fence) (n : Nat) (P : Program) (l : List Oper) (tail : List (Nat × Nat) → World → Act → Prop) : List (List Bool × Nat) → List Bool → List (Nat × Nat) → World → Act → Prop
  | [], fin, I, V, a => ∃ A, Quietly F n P l V (pickB l fin) a A ∧ tail I V A
  | (m, x) :: r, fin, I, V, a => ∃ A, Quietly F n P l V (pickB l m) a A ∧ ∃ o, l[x]? = some o ∧ ∀ W, Below V.heap.size V W →
      wpListIn F n P l.toArray (Exit.then (fun a' W' => a'.defers = A.defers ∧ Below W.heap.size W W' ∧ wpFlow F n P l tail r fin ((W.heap.size, W'.heap.size) :: I) W' a') (fun _ _ _ => False)) [o] A W
theorem wpFlow_nil {tail : List (Nat × Nat) → World → Act → Prop} {fin : List Bool} {I : List (Nat × Nat)} {V : World} {a A : Act} (hq : Quietly F n P l V (pickB l fin) a A) (h : tail I V A) : wpFlow F n P l tail [] fin I V a := ⟨A, hq, h⟩
theorem wpFlow_cons {tail : List (Nat × Nat) → World → Act → Prop} {m : List Bool} {x : Nat} {r : List (List Bool × Nat)} {fin : List Bool} {I : List (Nat × Nat)} {V : World} {a A : Act} {o : Oper} (ho : l[x]? = some o) (hq : Quietly F n P l V (pickB l m) a A)
    (h : ∀ W, Below V.heap.size V W → wpListIn F n P l.toArray (Exit.then (fun a' W' => a'.defers = A.defers ∧ Below W.heap.size W W' ∧ wpFlow F n P l tail r fin ((W.heap.size, W'.heap.size) :: I) W' a') (fun _ _ _ => False)) [o] A W) : wpFlow F n P l tail ((m, x) :: r) fin I V a := ⟨A, hq, o, ho, h⟩

/-- What is next. -/
def NextF (F : Fence) (n : Nat) (P : Program) (l : List Oper) (tail : List (Nat × Nat) → World → Act → Prop) (ws : List Nat) (fin : List Bool) (later : List Nat) (I : List (Nat × Nat)) (V : World) (A : Act) : Prop :=
  (later = [] ∧ tail I V A) ∨ ∃ x r o, later = x :: xsOf r fin ∧ x ∈ ws ∧ (∀ p ∈ r, p.2 ∈ ws ∧ p.1.length ≤ l.length) ∧ l[x]? = some o ∧ ∀ W, Below V.heap.size V W →
      wpListIn F n P l.toArray (Exit.then (fun a' W' => a'.defers = A.defers ∧ Below W.heap.size W W' ∧ wpFlow F n P l tail r fin ((W.heap.size, W'.heap.size) :: I) W' a') (fun _ _ _ => False)) [o] A W
/-- It may come up, and yields what A says. -/
def AvF (F : Fence) (n : Nat) (P : Program) (l : List Oper) (xs : List Nat) (a0 : Act) (ys : List Nat) (V : World) (A : Act) (i : Nat) : Prop :=
  ∀ o, l[i]? = some o → ∃ pre post, xs = pre ++ i :: post ∧ (∀ k ∈ pre, k ∈ ys) ∧ ∀ C, Good V C → ∃ LF, Mixed l (· ∈ pre) A a0 LF ∧ YieldsQuiet F n P l.toArray C o (valOf l A i) LF
section
variable {xs ws es : List Nat} {j : Nat} {a0 : Act} {tail : List (Nat × Nat) → World → Act → Prop} {fin : List Bool}
theorem enter_core (ok : FlowOk l xs ws es j) (hs : slotsM l a0.tmps.size = true) {ys qs rest : List Nat} {V : World} {A1 A : Act} (hx : xs = ys ++ (qs ++ rest)) (hA1 : Mixed l (· ∈ ys) A1 a0 A1) (hq : Quietly F n P l V (pick l qs) A1 A) :
    Mixed l (· ∈ ys ++ qs) A a0 A ∧ (∀ i ∈ ys, ∀ t, dstAt l i = some t → A1.tmps.getD t undef = A.tmps.getD t undef) ∧ ∀ i ∈ qs, AvF F n P l xs a0 (ys ++ qs) V A i := by
  have hslot : ∀ i, i < l.length → ∀ d, dstAt l i = some d → d < a0.tmps.size := fun i hi d hd => by
    have := List.all_eq_true.1 hs i (List.mem_range.2 hi)
    rw [hd] at this
    simpa using this
  have hnd := ok.nodup
  rw [hx, List.nodup_append] at hnd
  obtain ⟨_, hnd2, hdis⟩ := hnd
  have hqx : ∀ i ∈ qs, i ∈ xs := fun i hi => by rw [hx]; simp [hi]
  have hyx : ∀ i ∈ ys, i ∈ xs := fun i hi => by rw [hx]; simp [hi]
  have hcond : ∀ i ∈ qs, i < l.length ∧ ∃ d, dstAt l i = some d ∧ d < A1.tmps.size ∧ ∀ i' ∈ qs, dstAt l i' = some d → i' = i := fun i hi => by
    obtain ⟨h1, h2, h3⟩ := ok.x i (hqx i hi)
    obtain ⟨d, h4, h5⟩ := ok.own i h1 h3
    exact ⟨h1, d, h4, by rw [hA1.size]; exact hslot i h1 d h4, fun i' hi' hd' => h5 i' (ok.x i' (hqx i' hi')).1 hd'⟩
  have hnq : qs.Nodup := (List.nodup_append.1 hnd2).1
  have S := fun (C : World → Prop) (hC : Good V C) => quiet_seq (F := F) (n := n) (P := P) (l := l) (C := C) (A := A) qs A1 hcond hnq (hq.cls hC)
  obtain ⟨M, _⟩ := S _ (Good.above V)
  have same : ∀ i ∈ ys, ∀ t, dstAt l i = some t → A1.tmps.getD t undef = A.tmps.getD t undef := fun i hi t ht => by
    refine (M.out t fun i' hi' hd' => ?_).symm
    obtain ⟨h1, h2, h3⟩ := ok.x i (hyx i hi)
    obtain ⟨d, h4, h5⟩ := ok.own i h1 h3
    rw [ht] at h4
    cases h4
    have := h5 i' (ok.x i' (hqx i' hi')).1 hd'
    subst this
    exact hdis i' hi i' (by simp [hi']) rfl
  have B := hA1.change same
  refine ⟨(M.trans B).congr (fun i => by simp [or_comm]), same, fun i hi o ho => ?_⟩
  obtain ⟨pre, post, e⟩ := List.append_of_mem hi
  refine ⟨ys ++ pre, post ++ rest, by rw [hx, e]; simp, fun k hk => ?_, fun C hC => ?_⟩
  · rw [e]
    rcases List.mem_append.1 hk with h | h <;> simp [h]
  · obtain ⟨LF, h1, h2⟩ := (S C hC).2 pre i post e o ho
    exact ⟨LF, (h1.trans B).congr (fun k => by simp [or_comm]), h2⟩
theorem flow_enter (ok : FlowOk l xs ws es j) (hs : slotsM l a0.tmps.size = true) (hfin : fin.length ≤ l.length) (r : List (List Bool × Nat)) (hr : ∀ p ∈ r, p.2 ∈ ws ∧ p.1.length ≤ l.length) {ys : List Nat} {I : List (Nat × Nat)} {V : World} {A1 : Act} (h : wpFlow F n P l tail r fin I V A1) (hx : xs = ys ++ xsOf r fin) (hA1 : Mixed l (· ∈ ys) A1 a0 A1) :
    ∃ qs later A, xs = (ys ++ qs) ++ later ∧ Mixed l (· ∈ ys ++ qs) A a0 A ∧ (∀ i ∈ ys, ∀ t, dstAt l i = some t → A1.tmps.getD t undef = A.tmps.getD t undef) ∧ (∀ i ∈ qs, AvF F n P l xs a0 (ys ++ qs) V A i) ∧ NextF F n P l tail ws fin later I V A := by
  cases r with
  | nil =>
    obtain ⟨A, hq, ht⟩ := h
    rw [pickB_all l fin hfin] at hq
    obtain ⟨h1, h2, h3⟩ := enter_core ok hs (rest := []) (by rw [hx]; simp [xsOf]) hA1 hq
    exact ⟨idxs 0 fin, [], A, by rw [hx]; simp [xsOf], h1, h2, h3, .inl ⟨rfl, ht⟩⟩
  | cons p r =>
    obtain ⟨m, x⟩ := p
    obtain ⟨A, hq, o, ho, hw⟩ := h
    obtain ⟨hxw, hm⟩ := hr (m, x) (by simp)
    rw [pickB_all l m hm] at hq
    obtain ⟨h1, h2, h3⟩ := enter_core ok hs (rest := x :: xsOf r fin) (by rw [hx]; simp [xsOf]) hA1 hq
    exact ⟨idxs 0 m, x :: xsOf r fin, A, by rw [hx]; simp [xsOf], h1, h2, h3, .inr ⟨x, r, o, rfl, hxw, fun p hp => hr p (by simp [hp]), ho, hw⟩⟩
end

/-- What the end is given: the new block's place. -/
def tailF (F : Fence) (n : Nat) (P : Program) (l : List Oper) (es : List Bool) (j : Nat) (dj : Tmp) (fv : Nat → Value) (ty : TypeId) (cs : Array Value) (V0 : World) (Qn : Act → World → Prop) : List (Nat × Nat) → World → Act → Prop := fun I V A =>
  ∀ b W, Below V.heap.size V W → (j < l.length → V0.heap.size ≤ b ∧ Blk W b ty cs ∧ ∀ p ∈ I, b < p.1 ∨ p.2 ≤ b) → wpT F n P l.toArray Qn (pickB l es) (if j < l.length then A.put (some dj) (fv b) else A) W

/-- THE LAW. -/
theorem wpIn_region_flow {Q : Exit → Act → World → Prop} {id : Nat} {a0 : Act} {w V0 : World} (stages : List (List Bool × Nat)) (fin em : List Bool) (j : Nat) (dj : Tmp) (fv : Nat → Value) (ty : TypeId) (cs : Array Value)
    (hm : P.follows .mixedOrders = true) (hB : (flowB l (xsOf stages fin) (stages.map (·.2)) (idxs 0 em) j && stages.all (fun p => decide (p.1.length ≤ l.length)) && decide (fin.length ≤ l.length) && decide (em.length ≤ l.length)) = true)
    (hs : slotsM l a0.tmps.size = true) (hV : Below V0.heap.size V0 w.drew)
    (hj : j < l.length → ∃ oj, l[j]? = some oj ∧ oj.dst = some dj ∧ oj.guard = none ∧ (∀ ρ W, oj.about P W ρ = none) ∧ ∀ ρ W, (execOp ρ oj).run P W = .ok (.value (fv W.heap.size)) (W.alloc (.cells cs ty)))
    (h : wpFlow F n P l (tailF F n P l em j dj fv ty cs V0 (Q .normal)) stages fin [] V0 a0) : (Code.region id l.toArray true).wpIn F n P Q a0 w := by
  simp only [Bool.and_eq_true, decide_eq_true_eq] at hB
  obtain ⟨⟨⟨hB, hst⟩, hfin⟩, hem⟩ := hB
  have ok := flowOk hB
  obtain ⟨xs, hxs⟩ : ∃ xs, xsOf stages fin = xs := ⟨_, rfl⟩
  obtain ⟨ws, hws⟩ : ∃ ws, stages.map (·.2) = ws := ⟨_, rfl⟩
  obtain ⟨es, hes⟩ : ∃ es, idxs 0 em = es := ⟨_, rfl⟩
  rw [hxs, hws, hes] at ok
  have hpe : pickB l em = pick l es := by rw [← hes]; exact pickB_all l em hem
  have hr0 : ∀ p ∈ stages, p.2 ∈ ws ∧ p.1.length ≤ l.length := fun p hp => ⟨by rw [← hws]; exact List.mem_map.2 ⟨p, hp, rfl⟩, by simpa using List.all_eq_true.1 hst p hp⟩
  have hnd : noDefer l.toArray := noDefer_of ok.nodef
  have hslot : ∀ i, i < l.length → ∀ d, dstAt l i = some d → d < a0.tmps.size := fun i hi d hd => by
    have := List.all_eq_true.1 hs i (List.mem_range.2 hi)
    rw [hd] at this
    simpa using this
  have hje : j < l.length → j ∉ es := fun hlt he => (ok.e j he).2 rfl
  have hdj : j < l.length → dstAt l j = some dj := fun hlt => by
    obtain ⟨oj, h1, h2, _⟩ := hj hlt
    unfold dstAt; rw [h1]; exact h2
  have hjd : j < l.length → ∀ i, i < l.length → dstAt l i = some dj → i = j := fun hlt i hi hd => by
    obtain ⟨d, h1, h2⟩ := ok.own j hlt (hje hlt)
    rw [hdj hlt] at h1
    cases h1
    exact h2 i hi hd
  let tail := tailF F n P l em j dj fv ty cs V0 (Q .normal)
  let cls : List (Nat × Nat) → World → Option Nat → World → Prop := fun I V ob W => Below V.heap.size V W ∧ ∀ b, ob = some b → V0.heap.size ≤ b ∧ Blk W b ty cs ∧ ∀ p ∈ I, b < p.1 ∨ p.2 ≤ b
  have growC : ∀ {I V ob W W'}, cls I V ob W → Below W.heap.size W W' → cls I V ob W' := fun hc hb => ⟨hc.1.trans (hb.mono hc.1.size), fun b e => ⟨(hc.2 b e).1, (hc.2 b e).2.1.below hb (hc.2 b e).2.1.lt, (hc.2 b e).2.2⟩⟩
  let wJ : Option Nat → Act → Act := fun ob a => match ob with
    | some b => a.put (some dj) (fv b)
    | none => a
  have wJs : ∀ ob a, (wJ ob a).tmps.size = a.tmps.size := fun ob a => by cases ob <;> simp [wJ, Act.put]
  have wJd : ∀ ob a, (wJ ob a).defers = a.defers := fun ob a => by cases ob <;> simp [wJ, Act.put]
  have wJo : ∀ ob a t, (ob.isSome = true → dj ≠ t) → (wJ ob a).tmps.getD t undef = a.tmps.getD t undef := fun ob a t ht => by
    cases ob with
    | none => rfl
    | some b => exact getD_set_other a.tmps (fv b) (ht rfl)
  have wJp : ∀ ob a d v, (ob.isSome = true → d ≠ dj) → (wJ ob a).put (some d) v = wJ ob (a.put (some d) v) := fun ob a d v hd => by
    cases ob with
    | none => rfl
    | some b => exact Act.put_comm a (x := some dj) (y := some d) (fv b) v (fun d' e => by cases e; intro e'; exact hd rfl (Option.some.inj e'))
  let StA : Array Bool → Act → World → Prop := fun listed a W => listed.size = l.length ∧ (∀ e ∈ es, listed.getD e false = false) ∧ ∃ (ys later : List Nat) (A : Act) (V : World) (I : List (Nat × Nat)) (ob : Option Nat) (a1 : Act), xs = ys ++ later ∧ (∀ i ∈ later, listed.getD i false = false) ∧ Mixed l (· ∈ ys) A a0 A ∧
    Mixed l (fun i => i ∈ xs ∧ listed.getD i false = true) A a0 a1 ∧ a = wJ ob a1 ∧ (∀ i ∈ ys, listed.getD i false = false → AvF F n P l xs a0 ys V A i) ∧ (j < l.length → listed.getD j false = ob.isSome) ∧ (l.length ≤ j → ob = none) ∧ cls I V ob W ∧ (∀ p ∈ I, p.2 ≤ V.heap.size) ∧ V0.heap.size ≤ V.heap.size ∧ NextF F n P l tail ws fin later I V A
  let Miss : Array Bool → Tmp → Prop := fun listed t => ∃ i ∈ xs, listed.getD i false = false ∧ dstAt l i = some t
  let StB : Array Bool → Act → World → Prop := fun listed a W => listed.size = l.length ∧ ∃ (A Ac : Act) (m : Nat), m ≤ es.length ∧ (∀ e ∈ es.take m, listed.getD e false = true) ∧ (∀ e ∈ es.drop m, listed.getD e false = false) ∧ (j < l.length → listed.getD j false = true) ∧ Rel (Miss listed) a Ac ∧ Ac.tmps.size = a0.tmps.size ∧
    (∀ i ∈ xs, ∀ t, dstAt l i = some t → Ac.tmps.getD t undef = A.tmps.getD t undef) ∧ (∀ t, (∀ i, i < l.length → dstAt l i ≠ some t) → Ac.tmps.getD t undef = a0.tmps.getD t undef) ∧
    (∀ i ∈ xs, listed.getD i false = false → ∀ o, l[i]? = some o → ∃ pre post LF, xs = pre ++ i :: post ∧ Mixed l (· ∈ pre) A a0 LF ∧ YieldsAll F P l.toArray o (valOf l A i) LF) ∧ wpT F n P l.toArray (Q .normal) (pick l (es.drop m)) Ac W
  have setD : ∀ (listed : Array Bool) (i i' : Nat), listed.size = l.length → i < l.length → (listed.setIfInBounds i true).getD i' false = done (fun i => listed.getD i false) i i' := fun listed i i' hsz hi => by
    unfold done
    by_cases e : i' = i
    · subst e
      rw [if_pos rfl, Array.getD_eq_getD_getElem?, Array.getElem?_setIfInBounds]
      have : i' < listed.size := by omega
      simp [this]
    · rw [if_neg e, getD_set_ne false (Ne.symm e)]
  have mixS : ∀ (listed : Array Bool) (i : Nat), listed.size = l.length → i < l.length → i ∈ xs → ∀ k, ((k ∈ xs ∧ listed.getD k false = true) ∨ k = i) ↔ (k ∈ xs ∧ (listed.setIfInBounds i true).getD k false = true) := fun listed i hsz hi hix k => by
    rw [setD listed i k hsz hi]
    unfold done
    by_cases e : k = i
    · subst e; simp [hix]
    · simp [e]
  have obJ : ∀ {ob : Option Nat}, (l.length ≤ j → ob = none) → ob.isSome = true → j < l.length := fun h h' => by
    rcases Nat.lt_or_ge j l.length with h1 | h1
    · exact h1
    · rw [h h1] at h'; cases h'
  -- what an operation reads
  have agreeA : ∀ {listed : Array Bool} {A LF a1 : Act} {ob : Option Nat} {pre post : List Nat} {i : Nat} {o : Oper}, l[i]? = some o → xs = pre ++ i :: post → (∀ i', afterB l i i' = true → listed.getD i' false = true) → (l.length ≤ j → ob = none) →
      Mixed l (· ∈ pre) A a0 LF → Mixed l (fun i => i ∈ xs ∧ listed.getD i false = true) A a0 a1 → ∀ t ∈ o.looksAt l.toArray, LF.tmps.getD t undef = (wJ ob a1).tmps.getD t undef := by
    intro listed A LF a1 ob pre post i o hol hx hwait hob hLF hM t ht
    by_cases hex : ∃ i', i' < l.length ∧ dstAt l i' = some t
    · obtain ⟨i', hi', hd⟩ := hex
      obtain ⟨h1, h2⟩ := ok.deps pre i post hx o hol t ht i' hi' hd
      have hix : i' ∈ xs := by rw [hx]; simp [h2]
      rw [wJo ob a1 t (fun hsm e => by
        have hlt := obJ hob hsm
        subst e
        exact (ok.x i' hix).2.1 (hjd hlt i' hi' hd)), hLF.in_ i' h2 t hd, hM.in_ i' ⟨hix, hwait i' h1⟩ t hd]
    · have hno : ∀ i', i' < l.length → dstAt l i' ≠ some t := fun i' hi' hd => hex ⟨i', hi', hd⟩
      rw [wJo ob a1 t (fun hsm e => by
        have hlt := obJ hob hsm
        subst e
        exact hno j hlt (hdj hlt)), hLF.out t (fun i' hi' => hno i' (ok.x i' (by rw [hx]; simp [hi'])).1), hM.out t (fun i' hi' => hno i' (ok.x i' hi'.1).1)]
  have toB : ∀ listed a W, StA listed a W → (j < l.length → listed.getD j false = true) → (∀ i ∈ xs, listed.getD i false = false → ∀ o, l[i]? = some o → lateB o = true ∧ i ∉ ws) → StB listed a W := by
    rintro listed a W ⟨hsz, hesl, ys, later, A, V, I, ob, a1, hx, hlater, hA, hM, rfl, hav, h1, h2, hc, hI, hVV, hnext⟩ hjl hfl
    have hlt : later = [] ∧ tail I V A := by
      rcases hnext with h | ⟨x, r, o, e, hxw, _, ho, _⟩
      · exact h
      · exact absurd hxw (hfl x (by rw [hx, e]; simp) (hlater x (by rw [e]; simp)) o ho).2
    obtain ⟨rfl, ht⟩ := hlt
    rw [List.append_nil] at hx
    have hyx : ∀ i, i ∈ ys ↔ i ∈ xs := fun i => by rw [hx]
    have hfacts : ∃ b, (j < l.length → ob = some b) ∧ (j < l.length → V0.heap.size ≤ b ∧ Blk W b ty cs ∧ ∀ p ∈ I, b < p.1 ∨ p.2 ≤ b) := by
      by_cases h : j < l.length
      · have h3 := h1 h
        rw [hjl h] at h3
        obtain ⟨b, rfl⟩ := Option.isSome_iff_exists.1 h3.symm
        exact ⟨b, fun _ => rfl, fun _ => hc.2 b rfl⟩
      · exact ⟨0, fun h' => absurd h' h, fun h' => absurd h' h⟩
    obtain ⟨b, hob, hblk⟩ := hfacts
    have hw := ht b W hc.1 hblk
    have hAc : (if j < l.length then A.put (some dj) (fv b) else A) = wJ ob A := by
      by_cases h : j < l.length
      · rw [if_pos h, hob h]
      · rw [if_neg h, h2 (by omega)]
    rw [hAc, hpe] at hw
    refine ⟨hsz, A, _, 0, Nat.zero_le _, (fun e he => by simp at he), (fun e he => hesl e (by simpa using he)), hjl, ⟨?_, ?_, fun t ht' => ?_⟩, ?_, fun i hi t hd => ?_, fun t hno => ?_, fun i hi hf o ho => ?_, by simpa using hw⟩
    · rw [wJd, wJd, hM.defers, hA.defers]
    · rw [wJs, wJs, hM.size, hA.size]
    · by_cases e : ob.isSome = true ∧ dj = t
      · obtain ⟨e1, rfl⟩ := e
        obtain ⟨b', rfl⟩ := Option.isSome_iff_exists.1 e1
        have hlt := obJ h2 e1
        show (a1.tmps.setIfInBounds dj (fv b')).getD dj undef = (A.tmps.setIfInBounds dj (fv b')).getD dj undef
        rw [getD_set_same _ _ _ (by rw [hM.size]; exact hslot j hlt dj (hdj hlt)), getD_set_same _ _ _ (by rw [hA.size]; exact hslot j hlt dj (hdj hlt))]
      · rw [wJo ob a1 t (fun h3 h4 => e ⟨h3, h4⟩), wJo ob A t (fun h3 h4 => e ⟨h3, h4⟩)]
        by_cases hex : ∃ i ∈ xs, dstAt l i = some t
        · obtain ⟨i, hi, hd⟩ := hex
          have hl : listed.getD i false = true := by
            cases hc' : listed.getD i false with
            | true => rfl
            | false => exact absurd ⟨i, hi, hc', hd⟩ ht'
          exact hM.in_ i ⟨hi, hl⟩ t hd
        · rw [hM.out t (fun i hi hd => hex ⟨i, hi.1, hd⟩), hA.out t (fun i hi hd => hex ⟨i, (hyx i).1 hi, hd⟩)]
    · rw [wJs, hA.size]
    · exact wJo ob A t (fun h3 h4 => (ok.x i hi).2.1 (hjd (obJ h2 h3) i (ok.x i hi).1 (by rw [hd, h4])))
    · rw [wJo ob A t (fun h3 h4 => hno j (obJ h2 h3) (by rw [hdj (obJ h2 h3), h4]))]
      exact hA.out t fun i hi => hno i (ok.x i ((hyx i).1 hi)).1
    · obtain ⟨pre, post, e1, e2, e3⟩ := hav i ((hyx i).2 hi) hf o ho
      obtain ⟨LF, h3, h4⟩ := e3 _ (Good.above V)
      exact ⟨pre, post, LF, e1, h3, late_yields (hfl i hi hf o ho).1 ⟨V, Below.refl _ _⟩ h4⟩
  let St : Array Bool → Act → World → Prop := fun listed a W => StA listed a W ∨ StB listed a W
  have stepB : ∀ listed a W i o, l[i]? = some o → listed.getD i true = false → (∀ i', afterB l i i' = true → listed.getD i' false = true) → StB listed a W → wpListIn F n P l.toArray (Exit.then (St (listed.setIfInBounds i true)) Q) [o] a W := by
    rintro listed a W i o hol hu hwait ⟨hsz, A, Ac, m, hm', ht, hdp, hjl, hR, hAcs, hAcx, hAco, hfl, hwp⟩
    have hi : i < l.length := (List.getElem?_eq_some_iff.1 hol).1
    have hfalse : listed.getD i false = false := getD_both hu
    have hsel : ∀ cs b, o.op ≠ .select cs b := fun cs b => Region.noSelect_spec ok.nosel i o cs b (by simpa using hol)
    rcases ok.part i hi with hix | hie | hij
    · obtain ⟨pre, post, LF, hx, hLF, hy⟩ := hfl i hix hfalse o hol
      have hag : ∀ t ∈ o.looksAt l.toArray, LF.tmps.getD t undef = a.tmps.getD t undef := fun t ht' => by
        by_cases hex : ∃ i', i' < l.length ∧ dstAt l i' = some t
        · obtain ⟨i', hi', hd⟩ := hex
          obtain ⟨h1, h2⟩ := ok.deps pre i post hx o hol t ht' i' hi' hd
          have hix' : i' ∈ xs := by rw [hx]; simp [h2]
          rw [hLF.in_ i' h2 t hd, hR.same t (fun ⟨i2, h5, h6, h7⟩ => by
            obtain ⟨d, h8, h9⟩ := ok.own i' hi' (ok.x i' hix').2.2
            rw [hd] at h8
            cases h8
            have := h9 i2 (ok.x i2 h5).1 h7
            subst this
            rw [hwait _ h1] at h6
            cases h6), hAcx i' hix' t hd]
        · have hno : ∀ i', i' < l.length → dstAt l i' ≠ some t := fun i' hi' hd => hex ⟨i', hi', hd⟩
          rw [hLF.out t (fun i' hi' => hno i' (ok.x i' (by rw [hx]; simp [hi'])).1), hR.same t (fun ⟨i2, h5, _, h7⟩ => hno i2 (ok.x i2 h5).1 h7), hAco t hno]
      have hya := hy.agree hsel (hLF.size.trans (hAcs.symm.trans hR.size.symm)) hag
      obtain ⟨d, hdi, huniq⟩ := ok.own i hi (ok.x i hix).2.2
      have hdo : o.dst = some d := by unfold dstAt at hdi; rw [hol] at hdi; exact hdi
      have hnext : St (listed.setIfInBounds i true) (a.put o.dst (valOf l A i)) W := by
        refine .inr ⟨by simpa using hsz, A, Ac, m, hm', fun e he => ?_, fun e he => ?_, fun h => ?_, ?_, hAcs, hAcx, hAco, fun i' hi' hf => ?_, hwp⟩
        · rw [setD _ _ _ hsz hi]; unfold done; split
          · rfl
          · exact ht e he
        · rw [setD _ _ _ hsz hi]; unfold done; rw [if_neg (fun e' => by subst e'; exact (ok.x e hix).2.2 (List.mem_of_mem_drop he))]; exact hdp e he
        · rw [setD _ _ _ hsz hi]; unfold done; split
          · rfl
          · exact hjl h
        · rw [hdo]
          refine ⟨hR.defers, by rw [← hR.size]; simp [Act.put], fun t ht' => ?_⟩
          by_cases e : t = d
          · subst e
            rw [show (a.put (some t) (valOf l A i)).tmps = a.tmps.setIfInBounds t (valOf l A i) from rfl, getD_set_same _ _ _ (by rw [hR.size, hAcs]; exact hslot i hi t hdi), hAcx i hix t hdi]
            unfold valOf; rw [hdi]; rfl
          · rw [show (a.put (some d) (valOf l A i)).tmps = a.tmps.setIfInBounds d (valOf l A i) from rfl, getD_set_other _ _ (Ne.symm e)]
            refine hR.same t fun ⟨i2, h5, h6, h7⟩ => ht' ⟨i2, h5, ?_, h7⟩
            rw [setD _ _ _ hsz hi]; unfold done
            rw [if_neg (fun e' => by subst e'; rw [hdi] at h7; exact e (Option.some.inj h7).symm)]
            exact h6
        · rw [setD _ _ _ hsz hi] at hf
          unfold done at hf
          split at hf
          · cases hf
          · exact hfl i' hi' hf
      simp only [wpListIn]
      rcases hya.2 with ⟨hw, hv⟩ | ⟨hw, hv⟩
      · rw [if_pos hw]
        unfold Oper.wpIn
        refine ⟨hya.1 W, ?_⟩
        rw [Oper.semAt_eq _ _ _ (hnd i o (by simpa using hol)), hv W]
        exact hnext
      · rw [if_neg (by rw [hw]; simp)]
        refine ⟨hya.1 W, ?_⟩
        rw [hv] at hnext
        exact hnext
    · have hmem : i ∈ es.drop m := by
        rcases (List.mem_append.1 (by rw [List.take_append_drop]; exact hie : i ∈ es.take m ++ es.drop m)) with h | h
        · rw [ht i h] at hfalse; cases hfalse
        · exact h
      have hml : m < es.length := by
        rcases Nat.lt_or_ge m es.length with h | h
        · exact h
        · rw [List.drop_of_length_le h] at hmem; cases hmem
      have hdrop : es.drop m = es[m] :: es.drop (m + 1) := List.drop_eq_getElem_cons hml
      have hie' : i = es[m] := by
        rw [hdrop] at hmem
        rcases List.mem_cons.1 hmem with h | h
        · exact h
        · exfalso
          have hlt : es[m] < i := by
            have hp := ok.upE.sublist (List.drop_sublist m es)
            rw [hdrop, List.pairwise_cons] at hp
            exact hp.1 i h
          have h1 := hwait _ (ok.chain i hie es[m] (List.getElem_mem _) hlt)
          rw [hdp es[m] (by rw [hdrop]; exact List.mem_cons_self)] at h1
          cases h1
      rw [hdrop, ← hie', pick_cons hol] at hwp
      have hdn : o.dst = none := by
        have := ok.edst i hie
        unfold dstAt at this
        rw [hol] at this
        exact this
      refine wpListIn_rel hsel (hnd i o (by simpa using hol)) hdn hR (fun t ht' => ?_) hwp ?_
      · rintro ⟨i2, h5, h6, h7⟩
        rw [hwait _ (ok.depsE i hie o hol t ht' i2 (ok.x i2 h5).1 h7)] at h6
        cases h6
      · rintro A' a' W' eA ea ed hwp'
        refine .inr ⟨by simpa using hsz, A, A', m + 1, hml, fun e he => ?_, fun e he => ?_, fun h => ?_, ?_, by rw [eA]; exact hAcs, by rw [eA]; exact hAcx, by rw [eA]; exact hAco, fun i' hi' hf => ?_, hwp'⟩
        · rw [setD _ _ _ hsz hi]; unfold done; split
          · rfl
          · rename_i hne
            rw [List.take_succ_eq_append_getElem hml] at he
            rcases List.mem_append.1 he with h | h
            · exact ht e h
            · exact absurd ((List.mem_singleton.1 h).trans hie'.symm) hne
        · rw [setD _ _ _ hsz hi]; unfold done
          have hne : e ≠ i := fun e' => by
            have hp := ok.upE.sublist (List.drop_sublist m es)
            rw [hdrop, List.pairwise_cons] at hp
            have := hp.1 e he
            omega
          rw [if_neg hne]
          exact hdp e (by rw [hdrop]; exact List.mem_cons_of_mem _ he)
        · rw [setD _ _ _ hsz hi]; unfold done; split
          · rfl
          · exact hjl h
        · refine ⟨ed, by rw [ea, eA]; exact hR.size, fun t ht' => ?_⟩
          rw [ea, eA]
          refine hR.same t fun ⟨i2, h5, h6, h7⟩ => ht' ⟨i2, h5, ?_, h7⟩
          rw [setD _ _ _ hsz hi]; unfold done
          rw [if_neg (fun e' => by subst e'; exact (ok.x i2 h5).2.2 hie)]
          exact h6
        · rw [setD _ _ _ hsz hi] at hf
          unfold done at hf
          split at hf
          · cases hf
          · exact hfl i' hi' hf
    · subst hij
      rw [hjl hi] at hfalse
      cases hfalse
  refine wpIn_region_inv hm St ?_ ?_ ?_ ?_
  · rintro listed a W (⟨h, _⟩ | ⟨h, _⟩) <;> simpa using h
  · obtain ⟨qs, later, A, hx, hA, _, hav, hnext⟩ := flow_enter (F := F) (n := n) (P := P) (tail := tail) (a0 := a0) ok hs hfin stages hr0 (ys := []) h (by simpa using hxs.symm) (Mixed.nil (by simp))
    have hrep : ∀ i, (Array.replicate l.toArray.size false).getD i false = false := fun i => getD_replicate_false _ _
    refine .inl ⟨by simp, fun e _ => hrep e, qs, later, A, V0, [], none, a0, by simpa using hx, fun i _ => hrep i, by simpa using hA, Mixed.nil (fun i hi => by rw [hrep i] at hi; cases hi.2), rfl, fun i hi _ => by simpa using hav i hi, fun _ => hrep j, fun _ => rfl, ⟨hV, fun b e => by cases e⟩, fun p hp => by simp at hp, Nat.le_refl _, hnext⟩
  · rintro listed a W i o ho hu hd hst
    have hol : l[i]? = some o := by simpa using ho
    have hi : i < l.length := (List.getElem?_eq_some_iff.1 hol).1
    have hwait : ∀ i', afterB l i i' = true → listed.getD i' false = true := fun i' h => by
      unfold afterB at h
      rw [hol] at h
      obtain ⟨e, he, h2⟩ := List.any_eq_true.1 h
      simp only [Bool.and_eq_true, beq_iff_eq] at h2
      rw [← h2.1]
      exact hd e (by simpa using he) h2.2
    rcases hst with hA0 | hBB
    · obtain ⟨hsz, hesl, ys, later, A, V, I, ob, a1, hx, hlater, hA, hM, rfl, hav, h1, h2, hc, hI, hVV, hnext⟩ := hA0
      have hfalse : listed.getD i false = false := getD_both hu
      have hsel : ∀ cs b, o.op ≠ .select cs b := fun cs b => Region.noSelect_spec ok.nosel i o cs b ho
      rcases ok.part i hi with hix | hie | hij
      · have hij : i ≠ j := (ok.x i hix).2.1
        obtain ⟨d, hdi, hun⟩ := ok.own i hi (ok.x i hix).2.2
        have hdo : o.dst = some d := by unfold dstAt at hdi; rw [hol] at hdi; exact hdi
        have hdd : ob.isSome = true → d ≠ dj := fun hsm e => by subst e; exact hij (hjd (obJ h2 hsm) i hi hdi)
        have e1 : ∀ e ∈ es, (listed.setIfInBounds i true).getD e false = false := fun e he => by
          rw [setD _ _ _ hsz hi]; unfold done
          rw [if_neg (fun e' => by subst e'; exact (ok.x e hix).2.2 he)]
          exact hesl e he
        have e2 : j < l.length → (listed.setIfInBounds i true).getD j false = ob.isSome := fun h => by
          rw [setD _ _ _ hsz hi]; unfold done
          rw [if_neg (Ne.symm hij)]
          exact h1 h
        have hmem : i ∈ ys ∨ i ∈ later := by rw [hx] at hix; exact List.mem_append.1 hix
        rcases hmem with hy | hlt
        · -- quiet
          obtain ⟨pre, post, hp1, hp2, hp3⟩ := hav i hy hfalse o hol
          obtain ⟨LF, hLF, hyq⟩ := hp3 (cls I V ob) ⟨⟨W, hc⟩, fun _ h => h.1, fun W W' h k => growC h k⟩
          have hag := agreeA hol hp1 hwait h2 hLF hM
          have hya := yields_agree hsel (hLF.size.trans ((wJs ob a1).trans hM.size).symm) hag hyq
          have hval : valOf l A i = A.tmps.getD d undef := by unfold valOf; rw [hdi]; rfl
          have hnx : ∀ W', cls I V ob W' → St (listed.setIfInBounds i true) ((wJ ob a1).put o.dst (valOf l A i)) W' := fun W' hW' => by
            refine .inl ⟨by simpa using hsz, e1, ys, later, A, V, I, ob, a1.put (some d) (A.tmps.getD d undef), hx, fun k hk => ?_, hA, (hM.step hdi (fun i' hi' hd' => hun i' (ok.x i' hi'.1).1 hd') (hslot i hi d hdi)).congr (mixS listed i hsz hi hix), by rw [hdo, hval]; exact wJp ob a1 d _ hdd, fun k hk hf => ?_, e2, h2, hW', hI, hVV, hnext⟩
            · rw [setD _ _ _ hsz hi]; unfold done
              rw [if_neg (fun e' => by
                subst e'
                have := ok.nodup
                rw [hx, List.nodup_append] at this
                exact this.2.2 k hy k hk rfl)]
              exact hlater k hk
            · rw [setD _ _ _ hsz hi] at hf
              unfold done at hf
              split at hf
              · cases hf
              · exact hav k hk hf
          simp only [wpListIn]
          rcases hya.2 with ⟨hw, hv⟩ | ⟨hw, hv⟩
          · rw [if_pos hw]
            exact wpIn_of_quiet' (K := fun a' => a' = (wJ ob a1).put o.dst (valOf l A i)) (hnd i o ho) hc (fun a' W' hW' ha' => by subst ha'; exact hnx W' hW') hya.1 ⟨_, hv, rfl⟩
          · rw [if_neg (by rw [hw]; simp)]
            refine ⟨hya.1 W hc, ?_⟩
            have := hnx W hc
            rw [hv] at this
            exact this
        · rcases hnext with ⟨h3, _⟩ | ⟨x, r, ox, he, hxw, hr, hox, hwx⟩
          · rw [h3] at hlt; cases hlt
          rw [he] at hlt
          rcases List.mem_cons.1 hlt with rfl | hlt
          · -- the next call
            obtain rfl : ox = o := Option.some.inj (hox.symm.trans hol)
            have hp1 : xs = ys ++ i :: xsOf r fin := by rw [hx, he]
            have hag := agreeA hol hp1 hwait h2 hA hM
            refine wpListIn_relD hsel (hnd i ox ho) (by rw [wJs, hM.size, hA.size]) hag (hwx W hc.1) ?_
            rintro A' a' W' v eA ea ed ⟨hdf, hbW, hfl⟩
            have hpd : ∀ (z : Act) (u : Value), (z.put ox.dst u).defers = z.defers := fun z u => by cases ox.dst <;> rfl
            have eA' : A' = A.put (some d) v := by
              obtain ⟨t1, d1⟩ := A'
              rw [hdo] at eA
              simp only at eA hdf
              subst eA hdf
              rfl
            have ea' : a' = (wJ ob a1).put (some d) v := by
              obtain ⟨t1, d1⟩ := a'
              rw [hdo] at ea
              have h5 := ed hdf
              simp only at ea h5
              subst ea h5
              rfl
            rw [eA'] at hfl
            have hA1 : Mixed l (· ∈ ys ++ [i]) (A.put (some d) v) a0 (A.put (some d) v) := by
              have hpt : (A.put (some d) v).tmps = A.tmps.setIfInBounds d v := rfl
              refine ⟨hA.defers, by rw [hpt]; simpa using hA.size, fun _ _ _ _ => rfl, fun t ht => ?_⟩
              rw [hpt, getD_set_other _ _ (fun e => ht i (by simp) (by rw [hdi, e]))]
              exact hA.out t fun k hk => ht k (by simp [hk])
            obtain ⟨qs, later', A2, hx2, hA2, hsame, hav2, hnext2⟩ := flow_enter (F := F) (n := n) (P := P) (tail := tail) (a0 := a0) ok hs hfin r hr (ys := ys ++ [i]) hfl (by rw [hp1]; simp) hA1
            have hbV : Below V.heap.size V W' := hc.1.trans (hbW.mono hc.1.size)
            have hdv : (A.put (some d) v).tmps.getD d undef = v := getD_set_same _ _ _ (by rw [hA.size]; exact hslot i hi d hdi)
            have hold : ∀ k ∈ ys, ∀ t, dstAt l k = some t → A.tmps.getD t undef = A2.tmps.getD t undef := fun k hk t hd => by
              rw [← hsame k (by simp [hk]) t hd]
              refine (getD_set_other _ _ (fun e => ?_)).symm
              subst e
              have hkx : k ∈ xs := by rw [hx]; simp [hk]
              have := hun k (ok.x k hkx).1 hd
              subst this
              have h6 := ok.nodup
              rw [hp1, List.nodup_append] at h6
              exact h6.2.2 k hk k (by simp) rfl
            have hlat : ∀ k ∈ later', k ∈ later := fun k hk => by
              have h6 : xs = ys ++ (i :: (qs ++ later')) := by rw [hx2]; simp
              rw [hp1] at h6
              have h7 := List.append_cancel_left h6
              rw [he, h7]
              simp [hk]
            have hlist : ∀ k, k ∈ xs ∧ listed.getD k false = true → k ∈ ys := fun k hk => by
              have := hk.1
              rw [hx] at this
              rcases List.mem_append.1 this with h | h
              · exact h
              · rw [hlater k h] at hk; cases hk.2
            have hM2 : Mixed l (fun k => k ∈ xs ∧ (listed.setIfInBounds i true).getD k false = true) A2 a0 (a1.put (some d) v) := by
              have h6 := (hM.change (A' := A2) (fun k hk t hd => hold k (hlist k hk) t hd)).step hdi (fun i' hi' hd' => hun i' (ok.x i' hi'.1).1 hd') (hslot i hi d hdi)
              have h7 : A2.tmps.getD d undef = v := by rw [← hsame i (by simp) d hdi]; exact hdv
              rw [h7] at h6
              exact h6.congr (mixS listed i hsz hi hix)
            refine .inl ⟨by simpa using hsz, e1, ys ++ [i] ++ qs, later', A2, W', (W.heap.size, W'.heap.size) :: I, ob, a1.put (some d) v, hx2, fun k hk => ?_, hA2, hM2, by rw [ea']; exact wJp ob a1 d v hdd, fun k hk hf => ?_, e2, h2, ⟨Below.refl _ _, fun b e => ?_⟩, fun p hp => ?_, Nat.le_trans hVV hbV.size, hnext2⟩
            · rw [setD _ _ _ hsz hi]; unfold done
              rw [if_neg (fun e' => by
                subst e'
                have := ok.nodup
                rw [hx2, List.nodup_append] at this
                exact this.2.2 k (by simp) k hk rfl)]
              exact hlater k (hlat k hk)
            · rw [setD _ _ _ hsz hi] at hf
              unfold done at hf
              split at hf
              · cases hf
              · rename_i hki
                rcases List.mem_append.1 hk with hk | hk
                · have hk' : k ∈ ys := by
                    rcases List.mem_append.1 hk with h | h
                    · exact h
                    · exact absurd (List.mem_singleton.1 h) hki
                  intro o' ho'
                  obtain ⟨pre, post, q1, q2, q3⟩ := hav k hk' hf o' ho'
                  refine ⟨pre, post, q1, fun k' hk2 => by simp [q2 k' hk2], fun C hC => ?_⟩
                  obtain ⟨LF, q4, q5⟩ := q3 C (hC.up hbV)
                  have hkv : valOf l A k = valOf l A2 k := by
                    have hkx : k ∈ xs := by rw [hx]; simp [hk']
                    obtain ⟨dk, g1, _⟩ := ok.own k (ok.x k hkx).1 (ok.x k hkx).2.2
                    unfold valOf
                    rw [g1]
                    exact hold k hk' dk g1
                  exact ⟨LF, q4.change (fun k2 hk2 t hd => hold k2 (q2 k2 hk2) t hd), by rw [← hkv]; exact q5⟩
                · exact hav2 k hk
            · obtain ⟨g1, g2, g3⟩ := hc.2 b e
              refine ⟨g1, g2.below hbW g2.lt, fun p hp => ?_⟩
              rcases List.mem_cons.1 hp with rfl | hp
              · exact .inl g2.lt
              · exact g3 p hp
            · rcases List.mem_cons.1 hp with rfl | hp
              · exact Nat.le_refl _
              · exact Nat.le_trans (hI p hp) hbV.size
          · -- not yet
            exfalso
            have hp1 : xs = ys ++ x :: xsOf r fin := by rw [hx, he]
            obtain ⟨m, hm1, hm2⟩ := ok.ord ys x _ hp1 hxw i hlt
            have := hwait m hm2
            rw [hlater m (by rw [he]; exact hm1)] at this
            cases this
      · refine stepB listed _ W i o hol hu hwait (toB listed _ W ⟨hsz, hesl, ys, later, A, V, I, ob, a1, hx, hlater, hA, hM, rfl, hav, h1, h2, hc, hI, hVV, hnext⟩ (fun h => hwait j (ok.fresh i hie h)) fun i' hi' hf o' ho' => ?_)
        rcases ok.late i' hi' o' ho' with h | h
        · exact h
        · rw [hwait i' (h i hie)] at hf
          cases hf
      · subst hij
        obtain ⟨oj, hoj, hdd, hgj, hab, hrun⟩ := hj hi
        obtain rfl : oj = o := Option.some.inj (hoj.symm.trans hol)
        have hob : ob = none := by
          have h3 := h1 hi
          rw [hfalse] at h3
          cases ob with
          | none => rfl
          | some b => cases h3
        subst hob
        have hwant : Region.wanted oj (yielded l.toArray (wJ none a1).tmps) = true := by unfold Region.wanted; rw [hgj]
        simp only [wpListIn]
        rw [if_pos hwant]
        unfold Oper.wpIn
        refine ⟨fun f hf => (by rw [hab] at hf; cases hf), ?_⟩
        rw [Oper.semAt_eq _ _ _ (hnd i oj ho), hrun]
        show Exit.then _ Q .normal _ _
        refine .inl ⟨by simpa using hsz, fun e he => ?_, ys, later, A, V, I, some W.heap.size, a1, hx, fun k hk => ?_, hA, hM.congr (fun k => ?_), by rw [hdd], fun k hk hf => ?_, fun _ => ?_, fun h => absurd hi (by omega), ⟨hc.1.alloc hc.1.size _, fun b hb => ?_⟩, hI, hVV, hnext⟩
        · rw [setD _ _ _ hsz hi]; unfold done
          rw [if_neg (fun e' => by subst e'; exact hje hi he)]
          exact hesl e he
        · rw [setD _ _ _ hsz hi]; unfold done
          rw [if_neg (fun e' => by subst e'; exact (ok.x k (by rw [hx]; simp [hk])).2.1 rfl)]
          exact hlater k hk
        · rw [setD _ _ _ hsz hi]; unfold done
          by_cases e : k = i
          · subst e
            simp only
            exact ⟨fun h => absurd rfl (ok.x k h.1).2.1, fun h => absurd rfl (ok.x k h.1).2.1⟩
          · rw [if_neg e]
        · rw [setD _ _ _ hsz hi] at hf
          unfold done at hf
          split at hf
          · cases hf
          · exact hav k hk hf
        · rw [setD _ _ _ hsz hi]; simp [done]
        · cases hb
          exact ⟨Nat.le_trans hVV hc.1.size, Blk.new W _ _, fun p hp => .inr (Nat.le_trans (hI p hp) hc.1.size)⟩
    · exact stepB listed a W i o hol hu hwait hBB
  · rintro listed a W hr hst
    have hal : ∀ i, i < l.length → listed.getD i false = true := by
      rcases hst with ⟨h, _⟩ | ⟨h, _⟩ <;> exact fun i hi => ready_nil_all ok.back (by simpa using h) hr i (by simpa using hi)
    have hBB : StB listed a W := by
      rcases hst with h | h
      · exact toB listed a W h (fun h' => hal j h') (fun i hi hf => by rw [hal i (ok.x i hi).1] at hf; cases hf)
      · exact h
    obtain ⟨hsz, A, Ac, m, hm', ht, hdp, hjl, hR, hAcs, hAcx, hAco, hfl, hwp⟩ := hBB
    have hnil : es.drop m = [] := by
      cases h : es.drop m with
      | nil => rfl
      | cons e r =>
        have h1 := hdp e (by rw [h]; simp)
        rw [hal e (ok.e e (List.mem_of_mem_drop (by rw [h]; simp))).1] at h1
        cases h1
    rw [hnil] at hwp
    have hEq : a = Ac := by
      obtain ⟨t, d⟩ := a
      obtain ⟨t', d'⟩ := Ac
      have e1 : d = d' := hR.defers
      have s1 : t.size = t'.size := hR.size
      have e2 : t = t' := by
        apply Array.ext s1
        intro i h1 h2
        have := hR.same i (fun ⟨i2, h5, h6, _⟩ => by rw [hal i2 (ok.x i2 h5).1] at h6; cases h6)
        simpa [h1, h2] using this
      rw [e1, e2]
    subst hEq
    exact hwp

/-- THE LAW, without a new block. -/
theorem wpIn_flow_old {Q : Exit → Act → World → Prop} {id : Nat} {a0 : Act} {w V0 : World} (stages : List (List Bool × Nat)) (fin em : List Bool)
    (hm : P.follows .mixedOrders = true) (hB : (flowB l (xsOf stages fin) (stages.map (·.2)) (idxs 0 em) l.length && stages.all (fun p => decide (p.1.length ≤ l.length)) && decide (fin.length ≤ l.length) && decide (em.length ≤ l.length)) = true)
    (hs : slotsM l a0.tmps.size = true) (hV : Below V0.heap.size V0 w.drew)
    (h : wpFlow F n P l (fun I V A => ∀ W, Below V.heap.size V W → wpT F n P l.toArray (Q .normal) (pickB l em) A W) stages fin [] V0 a0) : (Code.region id l.toArray true).wpIn F n P Q a0 w := by
  refine wpIn_region_flow stages fin em l.length 0 (fun _ => undef) 0 #[] hm hB hs hV (fun h => absurd h (Nat.lt_irrefl _)) ?_
  have e : tailF F n P l em l.length 0 (fun _ => undef) 0 #[] V0 (Q .normal) = fun I V A => ∀ W, Below V.heap.size V W → wpT F n P l.toArray (Q .normal) (pickB l em) A W := by
    funext I V A
    unfold tailF
    exact propext ⟨fun k W h1 => by have := k 0 W h1 (fun h => absurd h (Nat.lt_irrefl _)); rwa [if_neg (Nat.lt_irrefl _)] at this, fun k b W h1 _ => by rw [if_neg (Nat.lt_irrefl _)]; exact k W h1⟩
  rw [e]
  exact h
end
end Go.Proofs.YtahkjagjcogeiaaDoor
/- What lies in memory, block by block. -/
namespace Go.Proofs.YtahkjagjcogeiaaDoor
open Go.RowKit
set_option linter.unusedVariables false

/-- Below w's end all is as in w; and these blocks lie behind it. -/
def Lay (w W : World) (bs : List (Nat × TypeId × Array Value)) : Prop := Below w.heap.size w W ∧ ∀ b ∈ bs, w.heap.size ≤ b.1 ∧ Blk W b.1 b.2.1 b.2.2
section
variable {w W W' : World} {bs : List (Nat × TypeId × Array Value)}
theorem Lay.nil (w : World) : Lay w w [] := ⟨Below.refl _ _, fun b hb => by simp at hb⟩
theorem Lay.bel (h : Lay w W bs) : Below w.heap.size w W := h.1
theorem Lay.below (h : Lay w W bs) (hb : Below W.heap.size W W') : Lay w W' bs := ⟨h.1.trans (hb.mono h.1.size), fun b k => ⟨(h.2 b k).1, (h.2 b k).2.below hb (h.2 b k).2.lt⟩⟩
theorem Lay.blk (h : Lay w W bs) (i : Nat) {g : Nat} {t : TypeId} {cs : Array Value} (hi : bs[i]? = some (g, t, cs)) : Blk W g t cs := (h.2 _ (List.mem_of_getElem? hi)).2
theorem Lay.ge (h : Lay w W bs) (i : Nat) {g : Nat} {t : TypeId} {cs : Array Value} (hi : bs[i]? = some (g, t, cs)) : w.heap.size ≤ g := (h.2 _ (List.mem_of_getElem? hi)).1
theorem Lay.lt (h : Lay w W bs) (i : Nat) {g : Nat} {t : TypeId} {cs : Array Value} (hi : bs[i]? = some (g, t, cs)) : g < W.heap.size := (h.blk i hi).lt
theorem Lay.alloc (h : Lay w W bs) (t : TypeId) (cs : Array Value) : Lay w (W.alloc (.cells cs t)) (bs ++ [(W.heap.size, t, cs)]) := by
  have hb : Below W.heap.size W (W.alloc (.cells cs t)) := (Below.refl _ _).alloc (Nat.le_refl _) _
  refine ⟨(h.below hb).1, fun b k => ?_⟩
  rcases List.mem_append.1 k with k | k
  · exact (h.below hb).2 b k
  · obtain rfl := List.mem_singleton.1 k
    exact ⟨h.1.size, Blk.new W t cs⟩
/-- One more block that is known. -/
theorem Lay.add (h : Lay w W bs) {g : Nat} {t : TypeId} {cs : Array Value} (hg : w.heap.size ≤ g) (hb : Blk W g t cs) : Lay w W (bs ++ [(g, t, cs)]) := ⟨h.1, fun b k => by
  rcases List.mem_append.1 k with k | k
  · exact h.2 b k
  · obtain rfl := List.mem_singleton.1 k
    exact ⟨hg, hb⟩⟩
/-- A block turned. -/
theorem Lay.turn (h : Lay w W bs) {g : Nat} {t : TypeId} {cs : Array Value} (hk : ∀ i, i ≠ g → i < W.heap.size → W'.heap[i]? = W.heap[i]?) (hz : W.heap.size ≤ W'.heap.size) (hos : W'.os = W.os) (htp : W'.tape = W.tape) (hop : W'.output = W.output) (hg : w.heap.size ≤ g) (hb : Blk W' g t cs) {bs' : List (Nat × TypeId × Array Value)} (hs : ∀ b ∈ bs', (b ∈ bs ∧ b.1 ≠ g) ∨ b = (g, t, cs)) : Lay w W' bs' := by
  refine ⟨⟨hos.trans h.1.os, htp.trans h.1.tape, hop.trans h.1.output, Nat.le_trans h.1.size hz, fun i hi => (hk i (by omega) (Nat.lt_of_lt_of_le hi h.1.size)).trans (h.1.block i hi)⟩, fun b k => ?_⟩
  rcases hs b k with ⟨k1, k2⟩ | rfl
  · exact ⟨(h.2 b k1).1, (hk _ k2 (h.2 b k1).2.lt).trans (h.2 b k1).2⟩
  · exact ⟨hg, hb⟩
end
theorem Lay.one (w : World) (t : TypeId) (X : Array Value) : Lay w (w.alloc (.cells X t)) [(w.heap.size, t, X)] := (Lay.nil w).alloc t X
theorem Lay.two (w : World) (t : TypeId) (X : Array Value) (t2 : TypeId) (X2 : Array Value) : Lay w ((w.alloc (.cells X t)).alloc (.cells X2 t2)) [(w.heap.size, t, X), (w.heap.size + 1, t2, X2)] := by
  have h := (Lay.one w t X).alloc t2 X2
  rwa [World.size_alloc] at h
theorem Lay.three (w : World) (t : TypeId) (X : Array Value) (t2 : TypeId) (X2 : Array Value) (t3 : TypeId) (X3 : Array Value) : Lay w (((w.alloc (.cells X t)).alloc (.cells X2 t2)).alloc (.cells X3 t3)) [(w.heap.size, t, X), (w.heap.size + 1, t2, X2), (w.heap.size + 1 + 1, t3, X3)] := by
  have h := (Lay.two w t X t2 X2).alloc t3 X3
  rwa [World.size_alloc, World.size_alloc] at h
theorem Lay.four (w : World) (t : TypeId) (X : Array Value) (t2 : TypeId) (X2 : Array Value) (t3 : TypeId) (X3 : Array Value) (t4 : TypeId) (X4 : Array Value) : Lay w ((((w.alloc (.cells X t)).alloc (.cells X2 t2)).alloc (.cells X3 t3)).alloc (.cells X4 t4)) [(w.heap.size, t, X), (w.heap.size + 1, t2, X2), (w.heap.size + 1 + 1, t3, X3), (w.heap.size + 1 + 1 + 1, t4, X4)] := by
  have h := (Lay.three w t X t2 X2 t3 X3).alloc t4 X4
  rwa [World.size_alloc, World.size_alloc, World.size_alloc] at h
theorem Lay.drewN {w W : World} {bs : List (Nat × TypeId × Array Value)} (h : Lay w W bs) (k : Nat) : Lay w (W.drewN k) bs := ⟨below_drewN h.1 k, h.2⟩

/-- A block of two cells written anew. -/
theorem ret2 {w W : World} {B g : Nat} {t : TypeId} {z0 z1 : Value} (R : Blk W g t #[z0, z1]) (L : Below B w W) (hg : B ≤ g) (v0 v1 : Value) :
    Blk ((W.setCell ⟨g, 0, none⟩ v0).setCell ⟨g, 1, none⟩ v1) g t #[v0, v1] ∧ Below B w ((W.setCell ⟨g, 0, none⟩ v0).setCell ⟨g, 1, none⟩ v1) :=
  ⟨(R.set_ 0 v0).set_ 1 v1, (L.setCell (p := ⟨g, 0, none⟩) hg _).setCell (p := ⟨g, 1, none⟩) hg _⟩
theorem ret4' {w W : World} {B g : Nat} {t : TypeId} {z0 z1 z2 z3 : Value} (R : Blk W g t #[z0, z1, z2, z3]) (L : Below B w W) (hg : B ≤ g) (v0 v1 v2 v3 : Value) :
    Blk ((((W.setCell ⟨g, 0, none⟩ v0).setCell ⟨g, 1, none⟩ v1).setCell ⟨g, 2, none⟩ v2).setCell ⟨g, 3, none⟩ v3) g t #[v0, v1, v2, v3] ∧ Below B w ((((W.setCell ⟨g, 0, none⟩ v0).setCell ⟨g, 1, none⟩ v1).setCell ⟨g, 2, none⟩ v2).setCell ⟨g, 3, none⟩ v3) ∧
    W.grownBy ((((W.setCell ⟨g, 0, none⟩ v0).setCell ⟨g, 1, none⟩ v1).setCell ⟨g, 2, none⟩ v2).setCell ⟨g, 3, none⟩ v3) (some g) := by
  refine ⟨(((R.set_ 0 v0).set_ 1 v1).set_ 2 v2).set_ 3 v3, (((L.setCell (p := ⟨g, 0, none⟩) hg _).setCell (p := ⟨g, 1, none⟩) hg _).setCell (p := ⟨g, 2, none⟩) hg _).setCell (p := ⟨g, 3, none⟩) hg _, ?_⟩
  exact grown_setCell (grown_setCell (grown_setCell (grown_setCell (grown_refl W (some g)) (p := ⟨g, 0, none⟩) (.inl rfl) v0) (p := ⟨g, 1, none⟩) (.inl rfl) v1) (p := ⟨g, 2, none⟩) (.inl rfl) v2) (p := ⟨g, 3, none⟩) (.inl rfl) v3
/-- A turn of another block: what reads ints, stays. -/
theorem ints_off {W W' : World} {n b : Nat} {A : Option Addr} {l : List Int} (h : IntsAt W W.heap.size A n l) (hne : ∀ a, A = some a → a.block ≠ b) (hg : W.grownBy W' (some b)) : IntsAt W' W'.heap.size A n l :=
  (Reads.grown h hg (Nat.le_refl _) (fun a ha e => hne a ha (Option.some.inj e))).more hg.size
theorem ints_up {W W' : World} {n : Nat} {A : Option Addr} {l : List Int} (h : IntsAt W W.heap.size A n l) (hb : Below W.heap.size W W') : IntsAt W' W'.heap.size A n l := (h.below hb).more hb.size
theorem ret2' {w W : World} {B g : Nat} {t : TypeId} {z0 z1 : Value} (R : Blk W g t #[z0, z1]) (L : Below B w W) (hg : B ≤ g) (v0 v1 : Value) :
    Blk ((W.setCell ⟨g, 0, none⟩ v0).setCell ⟨g, 1, none⟩ v1) g t #[v0, v1] ∧ Below B w ((W.setCell ⟨g, 0, none⟩ v0).setCell ⟨g, 1, none⟩ v1) ∧ W.grownBy ((W.setCell ⟨g, 0, none⟩ v0).setCell ⟨g, 1, none⟩ v1) (some g) :=
  ⟨(R.set_ 0 v0).set_ 1 v1, (L.setCell (p := ⟨g, 0, none⟩) hg _).setCell (p := ⟨g, 1, none⟩) hg _, grown_setCell (grown_setCell (grown_refl W (some g)) (p := ⟨g, 0, none⟩) (.inl rfl) v0) (p := ⟨g, 1, none⟩) (.inl rfl) v1⟩
end Go.Proofs.YtahkjagjcogeiaaDoor
/- The toils of all ways, in a map; climb.legs.add. -/
namespace Go.Proofs.YtahkjagjcogeiaaDoor
open Go.RowKit Go.Shelf
set_option linter.unusedVariables false

abbrev P2 := Int × Int
def P2.key (x : P2) : Value := .agg #[.int .i64 x.1, .int .i64 x.2]
def Leg.val (x : Leg) : Value := .agg #[.int .i64 x.1, .int .i64 x.2]
def okP (x : P2) : Prop := okI x.1 ∧ okI x.2
abbrev LgMap (w : World) (r : Nat) (m : List (P2 × Leg)) : Prop := MapIs P2.key Leg.val okP w r m
theorem arr2 : WideMaps.ArrKey Tryd.prog 204 3 2 := ⟨Tryd.underlying204, by kernel_rfl, by kernel_rfl, by kernel_rfl⟩
theorem types_pos : ∃ m, Tryd.prog.types.size = m + 1 := by
  have h : 0 < Tryd.prog.types.size := of_decide_eq_true (by kernel_rfl)
  exact ⟨Tryd.prog.types.size - 1, by omega⟩
abbrev zeroLeg : Value := .agg #[.int .i64 0, .int .i64 0]
theorem lgTy : MapTy Tryd.prog 151 204 59 P2 Leg P2.key Leg.val okP zeroLeg where
  und := Tryd.underlying151
  keyed := Maps.Keyed.of_law arr2.law
  reads := fun x hx => ⟨_, WideMaps.keyOf_pair arr2 Tryd.underlying3 types_pos hx.1 hx.2⟩
  inj := fun x y h => by
    obtain ⟨a, b⟩ := x
    obtain ⟨a', b'⟩ := y
    simp [P2.key] at h
    simp [h]
  zero := fun w => by kernel_rfl

def legD (m : List (P2 × Leg)) (a b : Int) : Leg := (look m (a, b)).getD (0, 0)
def legB (m : List (P2 × Leg)) (a b : Int) : Bool := (look m (a, b)).isSome
def AddOut (w : World) (m : List (P2 × Leg)) (s : Leg) (a b : Int) (e : Ending) (w' : World) : Prop :=
  e = .returned (.tuple #[.agg #[.int .i64 (s.1 + (legD m a b).1), .int .i64 (s.2 + (legD m a b).2)], .bool (legB m a b)]) ∧ Below w.heap.size w w'

set_option maxRecDepth 100000 in
set_option maxHeartbeats 8000000 in
theorem add_any (r : Nat) (m : List (P2 × Leg)) (s : Leg) (a b : Int) (w : World) (hm : LgMap w r m) (ha : okI a) (hb : okI b) (hs1 : 0 ≤ s.1 ∧ s.1 ≤ 1000000) (hs2 : 0 ≤ s.2 ∧ s.2 ≤ 1000000) (hl : ∀ p ∈ m, (0 ≤ p.2.1 ∧ p.2.1 ≤ 100000) ∧ 0 ≤ p.2.2 ∧ p.2.2 ≤ 100000) :
    Calls Tryd.prog 94 #[.map (some r), .agg #[.int .i64 s.1, .int .i64 s.2], .int .i64 a, .int .i64 b] w (AddOut w m s a b) := by
  obtain ⟨s1, s2⟩ := s
  have HM := Lib.hid hm
  have hok : okP (a, b) := ⟨ha, hb⟩
  have HOK := Lib.hid hok
  obtain ⟨d, hd⟩ : ∃ d, legD m a b = d := ⟨_, rfl⟩
  obtain ⟨f, hf⟩ : ∃ f, legB m a b = f := ⟨_, rfl⟩
  have hdb : (0 ≤ d.1 ∧ d.1 ≤ 100000) ∧ 0 ≤ d.2 ∧ d.2 ≤ 100000 := by
    rw [← hd]
    unfold legD
    cases h : look m (a, b) with
    | none => simp
    | some v => exact hl _ (look_mem h)
  have HD := Lib.hid hd
  have HF := Lib.hid hf
  have hlv : ∀ W : World, LgMap W r m → (Instr.lookup 151 (.map (some r)) (.agg #[.int .i64 a, .int .i64 b]) true).run Tryd.prog W = .ok (.tuple #[.agg #[.int .i64 d.1, .int .i64 d.2], .bool f]) W := by
    intro W hW
    have h := hW.lookup lgTy hok true
    rw [show P2.key (a, b) = .agg #[.int .i64 a, .int .i64 b] from rfl] at h
    rw [h, ← hd, ← hf]
    unfold legD legB
    cases look m (a, b) <;> rfl
  have HLV := Lib.hid hlv
  clear hm hok ha hb hd hf hlv hl
  obtain ⟨d1, d2⟩ := d
  obtain ⟨⟨q1, q2⟩, q3, q4⟩ := hdb
  obtain ⟨q5, q6⟩ := hs1
  obtain ⟨q7, q8⟩ := hs2
  dsimp only at *
  go_enter Tryd.func94, Tryd.ntmps94
  go_upto_region 1 with fail
  have HLay := Lib.hid (Lay.two w 59 #[.int .i64 s1, .int .i64 s2] 59 #[.int .i64 0, .int .i64 0])
  generalize ((w.alloc (.cells #[.int .i64 s1, .int .i64 s2] 59)).alloc (.cells #[.int .i64 0, .int .i64 0] 59)) = w0 at *
  have hlk := HLV.out w0 (HM.out.below HLay.out.1 HM.out.lt)
  have x0 := (HLay.out.blk 0 rfl).cell 0
  have x1 := (HLay.out.blk 0 rfl).cell 1
  have l0 := HLay.out.lt 0 rfl
  have y0 := (HLay.out.blk 1 rfl).frozen 0
  have y1 := (HLay.out.blk 1 rfl).frozen 1
  have z0 := (HLay.out.blk 1 rfl).cell 0
  have z1 := (HLay.out.blk 1 rfl).cell 1
  have l1 := HLay.out.lt 1 rfl
  go_wp2_with fail
  have R1 := ret2' (HLay.out.blk 1 rfl) HLay.out.1 (by omega) (.int .i64 (s1 + d1)) (.int .i64 (s2 + d2))
  have R2 := R1.1.alloc (.cells #[.int .i64 d1, .int .i64 d2] 59)
  have v0 := R2.cell 0
  have v1 := R2.cell 1
  refine bodyPost_ret (v := .tuple #[.agg #[.int .i64 (s1 + d1), .int .i64 (s2 + d2)], .bool f]) (by simp [results, Tryd.results94, go_sem, v0, v1]) rfl ?_
  unfold AddOut
  rw [HD.out, HF.out]
  exact ⟨rfl, R1.2.1.alloc R1.2.1.size _⟩
end Go.Proofs.YtahkjagjcogeiaaDoor
/- climb.asked; cmp.Or at errors. -/
namespace Go.Proofs.YtahkjagjcogeiaaDoor
open Go.RowKit
set_option linter.unusedVariables false

/-- The error of a town, and of places. -/
def askE (t : Town) (l : List Int) : Int := if townB t then (if hasB t l then 0 else 31) else 30

set_option maxRecDepth 100000 in
set_option maxHeartbeats 2000000 in
theorem asked_any (A : Option Addr) (n c : Nat) (A' : Option Addr) (m d : Nat) (t : Town) (A2 : Option Addr) (k e : Nat) (l : List Int) (w : World) (hn : n ≤ maxLen) (hm : m ≤ maxLen) (hk : k ≤ maxLen) (ht : TownAt w w.heap.size A n A' m t) (hr : IntsAt w w.heap.size A2 k l) (hL : Laid w) :
    Calls Tryd.prog 48 #[.agg #[.slice A n c, .slice A' m d], .slice A2 k e] w fun e w' => e = .returned (.int .i64 (askE t l)) ∧ Below w.heap.size w w' := by
  have HT := Lib.hid ht
  have HR := Lib.hid hr
  have HL := Lib.hid hL
  clear ht hr hL
  go_enter Tryd.func48, Tryd.ntmps48
  go_wp2_with fail
  have X0 := Blk.new w 25 #[.slice A n c, .slice A' m d]
  have B0 : Below w.heap.size w (w.alloc (.cells #[.slice A n c, .slice A' m d] 25)) := (Below.refl _ _).alloc (Nat.le_refl _) _
  generalize (w.alloc (.cells #[.slice A n c, .slice A' m d] 25)) = w0 at *
  have hl0 := HL.out.2.2.2
  refine (check_any A n c A' m d t w0 hn hm ((HT.out.below B0).more B0.size) (HL.out.below B0 hl0)).mono ?_
  rintro e w1 ⟨rfl, hb1⟩
  have X1 := X0.below hb1 X0.lt
  have B1 := B0.trans (hb1.mono B0.size)
  have x0 := X1.cell 0
  have x1 := X1.cell 1
  clear X0 B0 hb1 X1
  unfold chk
  cases ht : townB t with
  | false =>
    have HTB := Lib.hid ht
    clear ht
    go_wp2_with fail
    go_ret
    exact ⟨ret_int (by unfold askE; rw [HTB.out]; rfl), B1⟩
  | true =>
    have HTB := Lib.hid ht
    clear ht
    go_wp2_with fail
    refine (has_any A n c A' m d t A2 k e l w1 hn hk ((HT.out.below B1).more B1.size) ((HR.out.below B1).more B1.size)).mono ?_
    rintro e w2 ⟨rfl, hb2⟩
    have B2 := B1.trans (hb2.mono B1.size)
    cases hh : hasB t l with
    | false =>
      have HH := Lib.hid hh
      clear hh
      go_wp2_with fail
      go_ret
      exact ⟨ret_int (by unfold askE; rw [HTB.out, HH.out]; rfl), B2⟩
    | true =>
      have HH := Lib.hid hh
      clear hh
      go_wp2_with fail
      go_ret
      exact ⟨ret_int (by unfold askE; rw [HTB.out, HH.out]; rfl), B2⟩

/-- The first that is no zero. -/
def or2 (a b : Int) : Int := if a = 0 then b else a
end Go.Proofs.YtahkjagjcogeiaaDoor
/- climb.easier, and the order of toils. -/
namespace Go.Proofs.YtahkjagjcogeiaaDoor
open Go.RowKit Go.Shelf
set_option linter.unusedVariables false
set_option maxRecDepth 100000 in
set_option maxHeartbeats 2000000 in
theorem orI_any (a b : Int) (g : Nat) (w : World) (hg : Blk w g 3 #[.int .i64 a, .int .i64 b]) :
    Calls Tryd.prog 127 #[.slice (some ⟨g, 0, none⟩) 2 2] w fun e w' => e = .returned (.int .i64 (or2 a b)) ∧ w' = w := by
  have c0 := hg.cell 0
  have c1 := hg.cell 1
  have hlt := hg.lt
  clear hg
  go_enter Tryd.func127, Tryd.ntmps127
  go_wp2_with fail
  go_loop [8, 5] (fun i x => ∃ k : Nat, k ≤ 2 ∧ i = .int .i64 k ∧ Hid ((0 < k → a = 0) ∧ (1 < k → b = 0))) (fun i _ => 2 - (intOf i).toNat)
  case atStart => exact ⟨0, by omega, rfl, Lib.hid ⟨fun h => absurd h (by omega), fun h => absurd h (by omega)⟩⟩
  case round =>
    obtain ⟨k, hk, rfl, HP⟩ := hrel
    have hk' : k = 0 ∨ k = 1 ∨ k = 2 := by omega
    rcases hk' with rfl | rfl | rfl
    · by_cases ha : a = 0
      · have ha' : (a == 0) = true := by simpa using ha
        have ha2 : (a != 0) = false := by simpa using ha
        have HA := Lib.hid ha
        clear ha
        go_wp2_with fail
        go_round
        case rel => exact ⟨1, by omega, by go_num, Lib.hid ⟨fun _ => HA.out, fun h => absurd h (by omega)⟩⟩
        case measure => simp [intOf]
      · have ha' : (a == 0) = false := by simpa using ha
        have ha2 : (a != 0) = true := by simpa using ha
        have HA := Lib.hid ha
        clear ha
        go_wp2_with fail
        go_ret
        exact ⟨ret_int (by unfold or2; rw [if_neg HA.out]), rfl⟩
    · by_cases hb : b = 0
      · have hb' : (b == 0) = true := by simpa using hb
        have hb2 : (b != 0) = false := by simpa using hb
        have HB := Lib.hid hb
        clear hb
        go_wp2_with fail
        go_round
        case rel => exact ⟨2, by omega, by go_num, Lib.hid ⟨fun _ => HP.out.1 (by omega), fun _ => HB.out⟩⟩
        case measure => simp [intOf]
      · have hb' : (b == 0) = false := by simpa using hb
        have hb2 : (b != 0) = true := by simpa using hb
        have HB := Lib.hid hb
        clear hb
        go_wp2_with fail
        go_ret
        exact ⟨ret_int (by unfold or2; rw [if_pos (HP.out.1 (by omega))]), rfl⟩
    · go_wp2_with fail
      go_ret
      exact ⟨ret_int (by unfold or2; rw [if_pos (HP.out.1 (by omega)), HP.out.2 (by omega)]), rfl⟩
def lessP (a1 a2 b1 b2 : Int) : Bool := decide (a1 < b1) || (a1 == b1 && decide (a2 < b2))
set_option maxRecDepth 100000 in
set_option maxHeartbeats 8000000 in
theorem easier_in (a1 a2 b1 b2 : Int) (w : World) :
    CallsIn Fence.wide 9 Tryd.prog 80 #[.agg #[.int .i64 a1, .int .i64 a2], .agg #[.int .i64 b1, .int .i64 b2]] w fun e w' => e = .returned (.int .i64 (or2 (cmpI a1 b1) (cmpI a2 b2))) ∧ Below w.heap.size w w' := by
  refine callsIn_of_wp Tryd.func80 rfl trivial ?_ rfl
  simp only [Tryd.ntmps80, List.size_toArray, List.length_cons, List.length_nil, Nat.reduceAdd, Nat.reduceSub, Array.replicate_succ, Array.replicate_zero, List.push_toArray, List.append_toArray, List.nil_append, List.cons_append]
  gi_wp2
  have HLay := Lib.hid (Lay.two w 59 #[.int .i64 a1, .int .i64 a2] 59 #[.int .i64 b1, .int .i64 b2])
  generalize ((w.alloc (.cells #[.int .i64 a1, .int .i64 a2] 59)).alloc (.cells #[.int .i64 b1, .int .i64 b2] 59)) = w0 at *
  refine wpIn_flow_old [([true, true, true, true, false, true, true, true, true], 4), ([], 9), ([], 10), ([], 11)] [false, false, false, false, false, false, false, false, false, false, false, false, true] [] (by kernel_rfl) (by kernel_rfl) (by kernel_rfl) (below_drewN (Below.refl _ _) 1) ?_
  refine wpFlow_cons (A := ?AF1) rfl ?hq1 ?_
  case hq1 =>
    rintro σ hσ of hof hcl
    have HOF := Lib.hid hof
    have HCL := Lib.hid hcl
    clear hof hcl
    have c0_ : ∀ z, (of z).cell? ⟨w.heap.size, 0, none⟩ = some (.int .i64 a1) := fun z => ((HLay.out.below (HOF.out z)).blk 0 rfl).cell 0
    have c1_ : ∀ z, (of z).cell? ⟨w.heap.size, 1, none⟩ = some (.int .i64 a2) := fun z => ((HLay.out.below (HOF.out z)).blk 0 rfl).cell 1
    have c2_ : ∀ z, (of z).cell? ⟨w.heap.size + 1, 0, none⟩ = some (.int .i64 b1) := fun z => ((HLay.out.below (HOF.out z)).blk 1 rfl).cell 0
    have c3_ : ∀ z, (of z).cell? ⟨w.heap.size + 1, 1, none⟩ = some (.int .i64 b2) := fun z => ((HLay.out.below (HOF.out z)).blk 1 rfl).cell 1
    have hfw : ∀ f, Fence.wide.fn f := fun _ => trivial
    simp only [pickB]
    repeat (gi_big_quiet_step (fail))
    refine wpQuietIn_nil ?_
    exact rfl
  intro W1 hW
  replace HLay := Lib.hid (HLay.out.below hW)
  clear hW
  gi_wp2
  refine ⟨trivial, (callsIn_wide.2 (cmp_int a1 b1 W1)).mono ?_⟩
  rintro e W2 ⟨rfl, rfl⟩
  gi_wp2
  refine ⟨trivial, Below.refl _ _, ?_⟩
  refine wpFlow_cons rfl Quietly.none ?_
  intro W3 hW
  replace HLay := Lib.hid (HLay.out.below hW)
  clear hW
  gi_wp2
  refine ⟨trivial, (callsIn_wide.2 (cmp_int a2 b2 W3)).mono ?_⟩
  rintro e W4 ⟨rfl, rfl⟩
  gi_wp2
  refine ⟨trivial, Below.refl _ _, ?_⟩
  refine wpFlow_cons rfl Quietly.none ?_
  intro W5 hW
  replace HLay := Lib.hid (HLay.out.below hW)
  clear hW
  gi_wp2
  refine ⟨trivial, (Below.refl _ _).alloc (Nat.le_refl _) _, ?_⟩
  have hb : Below W5.heap.size W5 (W5.alloc (.cells #[.int .i64 (cmpI a1 b1), .int .i64 (cmpI a2 b2)] 3)) := (Below.refl _ _).alloc (Nat.le_refl _) _
  replace HLay := Lib.hid (HLay.out.below hb)
  have HOr := Lib.hid (Blk.new W5 3 #[.int .i64 (cmpI a1 b1), .int .i64 (cmpI a2 b2)])
  obtain ⟨P7, hP⟩ : ∃ P, W5.heap.size = P := ⟨_, rfl⟩
  rw [hP] at HOr ⊢
  generalize (W5.alloc (.cells #[.int .i64 (cmpI a1 b1), .int .i64 (cmpI a2 b2)] 3)) = V6 at *
  clear hb hP
  refine wpFlow_cons rfl Quietly.none ?_
  intro W8 hW
  replace HLay := Lib.hid (HLay.out.below hW)
  replace HOr := Lib.hid (HOr.out.below hW HOr.out.lt)
  clear hW
  gi_wp2
  refine ⟨trivial, (callsIn_wide.2 (orI_any (cmpI a1 b1) (cmpI a2 b2) P7 W8 HOr.out)).mono ?_⟩
  rintro e W9 ⟨rfl, rfl⟩
  gi_wp2
  refine ⟨trivial, Below.refl _ _, ?_⟩
  refine wpFlow_nil (A := ?AF2) ?hq2 ?_
  case hq2 =>
    rintro σ hσ of hof hcl
    have HOF := Lib.hid hof
    have HCL := Lib.hid hcl
    clear hof hcl
    have c0_ : ∀ z, (of z).cell? ⟨w.heap.size, 0, none⟩ = some (.int .i64 a1) := fun z => ((HLay.out.below (HOF.out z)).blk 0 rfl).cell 0
    have c1_ : ∀ z, (of z).cell? ⟨w.heap.size, 1, none⟩ = some (.int .i64 a2) := fun z => ((HLay.out.below (HOF.out z)).blk 0 rfl).cell 1
    have c2_ : ∀ z, (of z).cell? ⟨w.heap.size + 1, 0, none⟩ = some (.int .i64 b1) := fun z => ((HLay.out.below (HOF.out z)).blk 1 rfl).cell 0
    have c3_ : ∀ z, (of z).cell? ⟨w.heap.size + 1, 1, none⟩ = some (.int .i64 b2) := fun z => ((HLay.out.below (HOF.out z)).blk 1 rfl).cell 1
    have hfw : ∀ f, Fence.wide.fn f := fun _ => trivial
    simp only [pickB]
    repeat (gi_big_quiet_step (fail))
    refine wpQuietIn_nil ?_
    exact rfl
  intro W10 hW
  replace HLay := Lib.hid (HLay.out.below hW)
  replace HOr := Lib.hid (HOr.out.below hW HOr.out.lt)
  clear hW
  simp only [pickB]
  refine wpT_nil ?_
  gi_wp2
  exact bodyPost_ret (v := .int .i64 (or2 (cmpI a1 b1) (cmpI a2 b2))) (by simp [results, Tryd.results80, go_sem]) rfl ⟨rfl, HLay.out.1⟩

theorem easier_any (a1 a2 b1 b2 : Int) (w : World) :
    Calls Tryd.prog 80 #[.agg #[.int .i64 a1, .int .i64 a2], .agg #[.int .i64 b1, .int .i64 b2]] w fun e w' => e = .returned (.int .i64 (or2 (cmpI a1 b1) (cmpI a2 b2))) ∧ Below w.heap.size w w' :=
  callsIn_wide.1 (easier_in a1 a2 b1 b2 w)
end Go.Proofs.YtahkjagjcogeiaaDoor
/- Rounds as they lie; the order of rounds (the function handed to climb.first in climb.Round). -/
namespace Go.Proofs.YtahkjagjcogeiaaDoor
open Go.RowKit Go.Shelf
set_option linter.unusedVariables false

/-- A round, and where its order lies. -/
structure Rd where
  l : List Int
  s : Leg
  A : Option Addr
  n : Nat
  cap : Nat
@[reducible] def Rd.val (x : Rd) : Value := .agg #[.slice x.A x.n x.cap, .int .i64 x.s.1, .int .i64 x.s.2]
@[reducible] def Rd.cells (x : Rd) : Array Value := #[.slice x.A x.n x.cap, .int .i64 x.s.1, .int .i64 x.s.2]
def Rd.rnd (x : Rd) : Rnd := (x.l, x.s)
def Rd.at_ (x : Rd) (w : World) : Prop := IntsAt w w.heap.size x.A x.n x.l ∧ x.n ≤ 1000
theorem Rd.at_.below {x : Rd} {w w' : World} (h : x.at_ w) (hb : Below w.heap.size w w') : x.at_ w' := ⟨(h.1.below hb).more hb.size, h.2⟩
def eqG (x y : Leg) : Bool := x.1 == y.1 && x.2 == y.2
theorem eqG_iff {x y : Leg} : eqG x y = true ↔ x = y := by
  obtain ⟨a, b⟩ := x
  obtain ⟨a', b'⟩ := y
  simp [eqG]
theorem eqG_run (a1 a2 b1 b2 : Int) (w : World) : (Op.equalIn 10000 59 (.agg #[.int .i64 a1, .int .i64 a2]) (.agg #[.int .i64 b1, .int .i64 b2])).run Tryd.prog w = .ok (eqG (a1, a2) (b1, b2)) w := by
  rw [Op.equalIn]
  simp [go_sem, run_underlying Tryd.underlying59, eqi_run, Std.Legacy.Range.forIn_eq_forIn_range', part, eqG]
  by_cases h1 : a1 = b1 <;> by_cases h2 : a2 = b2 <;> simp [h1, h2]
theorem or2_cmpG (x y : Leg) : or2 (cmpI x.1 y.1) (cmpI x.2 y.2) = cmpG x y := by
  unfold or2 cmpI cmpG
  by_cases h1 : x.1 < y.1
  · simp [h1]
  · by_cases h2 : y.1 < x.1
    · simp [h1, h2]
    · simp [h1, h2]

set_option maxRecDepth 100000 in
set_option maxHeartbeats 8000000 in
theorem rorder_any (x y : Rd) (w : World) (hx : x.at_ w) (hy : y.at_ w) :
    Calls Tryd.prog 98 #[x.val, y.val] w fun e w' => e = .returned (.int .i64 (cmpR x.rnd y.rnd)) ∧ Below w.heap.size w w' := by
  have hq := eqG_run
  obtain ⟨xl, ⟨x1, x2⟩, xA, xn, xc⟩ := x
  obtain ⟨yl, ⟨y1, y2⟩, yA, yn, yc⟩ := y
  have HX := Lib.hid hx
  have HY := Lib.hid hy
  have HR : Hid (cmpR (⟨xl, (x1, x2), xA, xn, xc⟩ : Rd).rnd (⟨yl, (y1, y2), yA, yn, yc⟩ : Rd).rnd = if (x1, x2) = (y1, y2) then cmpL xl yl else cmpG (x1, x2) (y1, y2)) := Lib.hid rfl
  clear hx hy
  generalize cmpR (⟨xl, (x1, x2), xA, xn, xc⟩ : Rd).rnd (⟨yl, (y1, y2), yA, yn, yc⟩ : Rd).rnd = cr at *
  have L0 := Lay.two w 155 #[.slice xA xn xc, .int .i64 x1, .int .i64 x2] 155 #[.slice yA yn yc, .int .i64 y1, .int .i64 y2]
  have HL := Lib.hid L0
  clear L0
  go_enter Tryd.func98, Tryd.ntmps98
  go_upto_region 1 with fail
  generalize ((w.alloc (.cells #[.slice xA xn xc, .int .i64 x1, .int .i64 x2] 155)).alloc (.cells #[.slice yA yn yc, .int .i64 y1, .int .i64 y2] 155)) = w0 at *
  have a0 := (HL.out.blk 0 rfl).cell 0
  have a1 := (HL.out.blk 0 rfl).cell 1
  have a2 := (HL.out.blk 0 rfl).cell 2
  have b0 := (HL.out.blk 1 rfl).cell 0
  have b1 := (HL.out.blk 1 rfl).cell 1
  have b2 := (HL.out.blk 1 rfl).cell 2
  have l0 := HL.out.lt 0 rfl
  have l1 := HL.out.lt 1 rfl
  cases he : eqG (x1, x2) (y1, y2) with
  | true =>
    have HE := Lib.hid (eqG_iff.1 he)
    go_wp2_with fail
    refine (compare_int xA xn xc xl yA yn yc yl w0 (HX.out.below HL.out.1).1 (HY.out.below HL.out.1).1 (Nat.le_trans HX.out.2 (by unfold maxLen; omega)) (Nat.le_trans HY.out.2 (by unfold maxLen; omega))).mono ?_
    rintro e w1 ⟨rfl, rfl⟩
    go_wp2_with fail
    go_ret
    refine ⟨ret_int ?_, HL.out.1⟩
    rw [HR.out, if_pos HE.out]
  | false =>
    have HE := Lib.hid (show ¬ (x1, x2) = (y1, y2) from fun h => by rw [eqG_iff.2 h] at he; cases he)
    go_wp2_with fail
    refine (easier_any x1 x2 y1 y2 w0).mono ?_
    rintro e w1 ⟨rfl, hb⟩
    have HB := Lib.hid (HL.out.1.trans (hb.mono HL.out.1.size))
    clear hb
    go_wp2_with fail
    go_ret
    refine ⟨ret_int ?_, HB.out⟩
    rw [HR.out, if_neg HE.out, ← or2_cmpG]
end Go.Proofs.YtahkjagjcogeiaaDoor
/- climb.first over the walks of a map: the first one by climb.before. -/
namespace Go.Proofs.YtahkjagjcogeiaaDoor
open Go.RowKit Go.Shelf
attribute [local go_sem] Oper.semAt_some
set_option linter.unusedVariables false

/-- The first one so far. -/
def BestOf (pre : List Wk) (v : Value) (f : Bool) : Prop := (pre = [] ∧ v = zeroWk ∧ f = false) ∨ ∃ x ∈ pre, v = x.val ∧ f = true ∧ ∀ y ∈ pre, cmpW x.cost x.links y.cost y.links ≤ 0
def FirstOut (w : World) (vs : List Wk) (e : Ending) (w' : World) : Prop := ∃ v f, e = .returned (.tuple #[v, .bool f]) ∧ BestOf vs v f ∧ Below w.heap.size w w'

theorem eqC_iff (x y : Cost) : eqC x y = true ↔ x = y := by
  obtain ⟨a, b, c, d⟩ := x
  obtain ⟨a', b', c', d'⟩ := y
  simp [eqC, and_assoc]
theorem cmpW_key (x : Cost) (l : List Int) (y : Cost) (m : List Int) : cmpW x l y m = cmpL (key x l) (key y m) := by
  unfold cmpW
  rw [cmp_key]
  by_cases h : eqC x y = true
  · rw [if_pos h]
    have := (eqC_iff x y).1 h
    subst this
    rw [if_pos (cmpL_refl _)]
  · rw [if_neg h, if_neg (fun h0 => h ((eqC_iff x y).2 (list_eq h0)))]
    rfl
theorem BestOf.perm {vs ws : List Wk} {v : Value} {f : Bool} (h : BestOf vs v f) (hp : vs.Perm ws) : BestOf ws v f := by
  rcases h with ⟨rfl, h⟩ | ⟨x, hx, h1, h2, h3⟩
  · exact .inl ⟨hp.symm.eq_nil, h⟩
  · exact .inr ⟨x, hp.mem_iff.1 hx, h1, h2, fun y hy => h3 y (hp.mem_iff.2 hy)⟩
theorem BestOf.keep {pre : List Wk} {x y : Wk} (hx : x ∈ pre) (h : ∀ z ∈ pre, cmpW x.cost x.links z.cost z.links ≤ 0) (hy : ¬ cmpW y.cost y.links x.cost x.links < 0) : BestOf (pre ++ [y]) x.val true := by
  refine .inr ⟨x, by simp [hx], rfl, rfl, fun z hz => ?_⟩
  rcases List.mem_append.1 hz with hz | hz
  · exact h z hz
  · rw [List.mem_singleton.1 hz]
    rw [cmpW_key] at hy ⊢
    have := cmpL_swap (key y.cost y.links) (key x.cost x.links)
    omega
theorem BestOf.take {pre : List Wk} {x y : Wk} (h : ∀ z ∈ pre, cmpW x.cost x.links z.cost z.links ≤ 0) (hy : cmpW y.cost y.links x.cost x.links < 0) : BestOf (pre ++ [y]) y.val true := by
  refine .inr ⟨y, by simp, rfl, rfl, fun z hz => ?_⟩
  rcases List.mem_append.1 hz with hz | hz
  · have h1 := h z hz
    rw [cmpW_key] at h1 hy ⊢
    exact cmpL_trans (by omega) h1
  · rw [List.mem_singleton.1 hz, cmpW_key, cmpL_refl]; omega
theorem BestOf.one (y : Wk) : BestOf [y] y.val true := .inr ⟨y, by simp, rfl, rfl, fun z hz => by rw [List.mem_singleton.1 hz, cmpW_key, cmpL_refl]; omega⟩

theorem walks_below {W W' : World} (h : Below W.heap.size W W') : KeepsWalks W W' := ⟨h.size, fun k o hk _ => (h.block k (Array.getElem?_eq_some_iff.1 hk).1).trans hk⟩
theorem Wk.at_.below {w w' : World} {B : Nat} {x : Wk} (h : x.at_ w B) (hb : Below B w w') (hB : B ≤ w'.heap.size) : x.at_ w' w'.heap.size := (IntsAt.below h hb).more hB

theorem Marks.drew {B : Nat} {w : World} {ds : List Deferred} (h : Marks B w ds) : Marks B w.drew ds := h.keep fun _ _ _ _ h0 => h0

structure FirstSt (w : World) (v : Value) (f : Bool) (S : Nat) (W : World) : Prop where
  bel : Below w.heap.size w W
  ord : Blk W w.heap.size 188 #[.func (.func 116) #[] #[]]
  res : Blk W (w.heap.size + 1) 111 #[.int .i64 0, .int .i64 0, .int .i64 0, .int .i64 0, .int .i64 0, .slice none 0 0]
  best : ∃ x : Wk, v = x.val ∧ Blk W (w.heap.size + 1 + 1) 111 #[.int .i64 x.to, .int .i64 x.cost.a, .int .i64 x.cost.b, .int .i64 x.cost.c, .int .i64 x.cost.d, .slice x.A x.n x.cap]
  fnd : Blk W (w.heap.size + 1 + 1 + 1) 4 #[.bool f]
  sz : S ≤ W.heap.size
section
variable {w W W' : World} {v : Value} {f : Bool} {S : Nat}
theorem FirstSt.below (h : FirstSt w v f S W) (hb : Below W.heap.size W W') : FirstSt w v f S W' :=
  ⟨h.bel.trans (hb.mono h.bel.size), h.ord.below hb h.ord.lt, h.res.below hb h.res.lt, by obtain ⟨x, e, hx⟩ := h.best; exact ⟨x, e, hx.below hb hx.lt⟩, h.fnd.below hb h.fnd.lt, Nat.le_trans h.sz hb.size⟩
theorem FirstSt.shut (h : FirstSt w v f S W) (hs : Shut S W W') (hS : w.heap.size ≤ S) : FirstSt w v f S W' :=
  ⟨h.bel.trans (hs.below.mono hS), hs.blk h.ord, hs.blk h.res, by obtain ⟨x, e, hx⟩ := h.best; exact ⟨x, e, hs.blk hx⟩, hs.blk h.fnd, Nat.le_trans h.sz hs.below.size⟩
theorem FirstSt.put (h : FirstSt w v f S W) (y : Wk) : FirstSt w y.val true S (((((((W.setCell ⟨w.heap.size + 1 + 1, 0, none⟩ (.int .i64 y.to)).setCell ⟨w.heap.size + 1 + 1, 1, none⟩ (.int .i64 y.cost.a)).setCell ⟨w.heap.size + 1 + 1, 2, none⟩ (.int .i64 y.cost.b)).setCell ⟨w.heap.size + 1 + 1, 3, none⟩ (.int .i64 y.cost.c)).setCell ⟨w.heap.size + 1 + 1, 4, none⟩ (.int .i64 y.cost.d)).setCell ⟨w.heap.size + 1 + 1, 5, none⟩ (.slice y.A y.n y.cap)).setCell ⟨w.heap.size + 1 + 1 + 1, 0, none⟩ (.bool true)) ∧ KeepsFrom S W (((((((W.setCell ⟨w.heap.size + 1 + 1, 0, none⟩ (.int .i64 y.to)).setCell ⟨w.heap.size + 1 + 1, 1, none⟩ (.int .i64 y.cost.a)).setCell ⟨w.heap.size + 1 + 1, 2, none⟩ (.int .i64 y.cost.b)).setCell ⟨w.heap.size + 1 + 1, 3, none⟩ (.int .i64 y.cost.c)).setCell ⟨w.heap.size + 1 + 1, 4, none⟩ (.int .i64 y.cost.d)).setCell ⟨w.heap.size + 1 + 1, 5, none⟩ (.slice y.A y.n y.cap)).setCell ⟨w.heap.size + 1 + 1 + 1, 0, none⟩ (.bool true)) ∧ KeepsWalks W (((((((W.setCell ⟨w.heap.size + 1 + 1, 0, none⟩ (.int .i64 y.to)).setCell ⟨w.heap.size + 1 + 1, 1, none⟩ (.int .i64 y.cost.a)).setCell ⟨w.heap.size + 1 + 1, 2, none⟩ (.int .i64 y.cost.b)).setCell ⟨w.heap.size + 1 + 1, 3, none⟩ (.int .i64 y.cost.c)).setCell ⟨w.heap.size + 1 + 1, 4, none⟩ (.int .i64 y.cost.d)).setCell ⟨w.heap.size + 1 + 1, 5, none⟩ (.slice y.A y.n y.cap)).setCell ⟨w.heap.size + 1 + 1 + 1, 0, none⟩ (.bool true)) := by
  obtain ⟨x, e, hx⟩ := h.best
  have fr : ∀ {g : Nat} {ty : TypeId} {cs : Array Value}, Blk W g ty cs → g ≠ w.heap.size + 1 + 1 → Blk ((((((W.setCell ⟨w.heap.size + 1 + 1, 0, none⟩ (.int .i64 y.to)).setCell ⟨w.heap.size + 1 + 1, 1, none⟩ (.int .i64 y.cost.a)).setCell ⟨w.heap.size + 1 + 1, 2, none⟩ (.int .i64 y.cost.b)).setCell ⟨w.heap.size + 1 + 1, 3, none⟩ (.int .i64 y.cost.c)).setCell ⟨w.heap.size + 1 + 1, 4, none⟩ (.int .i64 y.cost.d)).setCell ⟨w.heap.size + 1 + 1, 5, none⟩ (.slice y.A y.n y.cap)) g ty cs :=
    fun b hne => (((((b.far (p := ⟨w.heap.size + 1 + 1, 0, none⟩) hne _).far (p := ⟨w.heap.size + 1 + 1, 1, none⟩) hne _).far (p := ⟨w.heap.size + 1 + 1, 2, none⟩) hne _).far (p := ⟨w.heap.size + 1 + 1, 3, none⟩) hne _).far (p := ⟨w.heap.size + 1 + 1, 4, none⟩) hne _).far (p := ⟨w.heap.size + 1 + 1, 5, none⟩) hne _
  have far : ∀ {g : Nat} {ty : TypeId} {cs : Array Value}, Blk ((((((W.setCell ⟨w.heap.size + 1 + 1, 0, none⟩ (.int .i64 y.to)).setCell ⟨w.heap.size + 1 + 1, 1, none⟩ (.int .i64 y.cost.a)).setCell ⟨w.heap.size + 1 + 1, 2, none⟩ (.int .i64 y.cost.b)).setCell ⟨w.heap.size + 1 + 1, 3, none⟩ (.int .i64 y.cost.c)).setCell ⟨w.heap.size + 1 + 1, 4, none⟩ (.int .i64 y.cost.d)).setCell ⟨w.heap.size + 1 + 1, 5, none⟩ (.slice y.A y.n y.cap)) g ty cs → g ≠ w.heap.size + 1 + 1 + 1 → Blk (((((((W.setCell ⟨w.heap.size + 1 + 1, 0, none⟩ (.int .i64 y.to)).setCell ⟨w.heap.size + 1 + 1, 1, none⟩ (.int .i64 y.cost.a)).setCell ⟨w.heap.size + 1 + 1, 2, none⟩ (.int .i64 y.cost.b)).setCell ⟨w.heap.size + 1 + 1, 3, none⟩ (.int .i64 y.cost.c)).setCell ⟨w.heap.size + 1 + 1, 4, none⟩ (.int .i64 y.cost.d)).setCell ⟨w.heap.size + 1 + 1, 5, none⟩ (.slice y.A y.n y.cap)).setCell ⟨w.heap.size + 1 + 1 + 1, 0, none⟩ (.bool true)) g ty cs := fun b hne => b.far (p := ⟨w.heap.size + 1 + 1 + 1, 0, none⟩) hne _
  have ko : KeepsOthers W (((((((W.setCell ⟨w.heap.size + 1 + 1, 0, none⟩ (.int .i64 y.to)).setCell ⟨w.heap.size + 1 + 1, 1, none⟩ (.int .i64 y.cost.a)).setCell ⟨w.heap.size + 1 + 1, 2, none⟩ (.int .i64 y.cost.b)).setCell ⟨w.heap.size + 1 + 1, 3, none⟩ (.int .i64 y.cost.c)).setCell ⟨w.heap.size + 1 + 1, 4, none⟩ (.int .i64 y.cost.d)).setCell ⟨w.heap.size + 1 + 1, 5, none⟩ (.slice y.A y.n y.cap)).setCell ⟨w.heap.size + 1 + 1 + 1, 0, none⟩ (.bool true)) := (((((((KeepsOthers.setCell W _ _).trans (KeepsOthers.setCell _ _ _)).trans (KeepsOthers.setCell _ _ _)).trans (KeepsOthers.setCell _ _ _)).trans (KeepsOthers.setCell _ _ _)).trans (KeepsOthers.setCell _ _ _)).trans (KeepsOthers.setCell _ _ _))
  refine ⟨⟨((((((h.bel.setCell (p := ⟨w.heap.size + 1 + 1, 0, none⟩) (by simp; omega) _).setCell (p := ⟨w.heap.size + 1 + 1, 1, none⟩) (by simp; omega) _).setCell (p := ⟨w.heap.size + 1 + 1, 2, none⟩) (by simp; omega) _).setCell (p := ⟨w.heap.size + 1 + 1, 3, none⟩) (by simp; omega) _).setCell (p := ⟨w.heap.size + 1 + 1, 4, none⟩) (by simp; omega) _).setCell (p := ⟨w.heap.size + 1 + 1, 5, none⟩) (by simp; omega) _).setCell (p := ⟨w.heap.size + 1 + 1 + 1, 0, none⟩) (by simp; omega) _,
    far (fr h.ord (by omega)) (by omega), far (fr h.res (by omega)) (by omega), ⟨y, rfl, far ((((((hx.set_ 0 _).set_ 1 _).set_ 2 _).set_ 3 _).set_ 4 _).set_ 5 _) (by omega)⟩, (fr h.fnd (by omega)).set_ 0 _, Nat.le_trans h.sz ko.size⟩, ko.from S, ko.walks⟩
end

set_option maxRecDepth 100000 in
set_option maxHeartbeats 8000000 in
theorem first_in (g r : Nat) (m : List (Int × Wk)) (w : World) (hg : Blk w g 113 #[.map (some r)]) (hm : WkMap w r m) (hl : ∀ y ∈ m.map Prod.snd, y.at_ w w.heap.size ∧ y.n ≤ 1000) :
    CallsIn Fence.wide 9 Tryd.prog 114 #[.func (.func 115) #[] #[.pointer (some ⟨g, 0, none⟩)], .func (.func 116) #[] #[]] w (FirstOut w (m.map Prod.snd)) := by
  have HG := Lib.hid hg
  have HM := Lib.hid hm
  have HL := Lib.hid hl
  clear hg hm hl
  refine callsIn_of_wp_marks Tryd.func114 rfl trivial ?_ rfl
  simp only [Tryd.ntmps114, List.size_toArray, List.length_cons, List.length_nil, Nat.reduceAdd, Nat.reduceSub, Array.replicate_succ, Array.replicate_zero, List.push_toArray, List.append_toArray, List.nil_append, List.cons_append]
  gi_wp2
  have F0 : FirstSt w zeroWk false ((((w.alloc (.cells #[.func (.func 116) #[] #[]] 188)).alloc (.cells #[.int .i64 0, .int .i64 0, .int .i64 0, .int .i64 0, .int .i64 0, .slice none 0 0] 111)).alloc (.cells #[.int .i64 0, .int .i64 0, .int .i64 0, .int .i64 0, .int .i64 0, .slice none 0 0] 111)).alloc (.cells #[.bool false] 4)).heap.size ((((w.alloc (.cells #[.func (.func 116) #[] #[]] 188)).alloc (.cells #[.int .i64 0, .int .i64 0, .int .i64 0, .int .i64 0, .int .i64 0, .slice none 0 0] 111)).alloc (.cells #[.int .i64 0, .int .i64 0, .int .i64 0, .int .i64 0, .int .i64 0, .slice none 0 0] 111)).alloc (.cells #[.bool false] 4)) := by
    have Y := ((Blk.new (w.alloc (.cells #[.func (.func 116) #[] #[]] 188)) 111 #[.int .i64 0, .int .i64 0, .int .i64 0, .int .i64 0, .int .i64 0, .slice none 0 0]).alloc (.cells #[.int .i64 0, .int .i64 0, .int .i64 0, .int .i64 0, .int .i64 0, .slice none 0 0] 111)).alloc (.cells #[.bool false] 4)
    have V := (Blk.new ((w.alloc (.cells #[.func (.func 116) #[] #[]] 188)).alloc (.cells #[.int .i64 0, .int .i64 0, .int .i64 0, .int .i64 0, .int .i64 0, .slice none 0 0] 111)) 111 #[.int .i64 0, .int .i64 0, .int .i64 0, .int .i64 0, .int .i64 0, .slice none 0 0]).alloc (.cells #[.bool false] 4)
    have U := Blk.new (((w.alloc (.cells #[.func (.func 116) #[] #[]] 188)).alloc (.cells #[.int .i64 0, .int .i64 0, .int .i64 0, .int .i64 0, .int .i64 0, .slice none 0 0] 111)).alloc (.cells #[.int .i64 0, .int .i64 0, .int .i64 0, .int .i64 0, .int .i64 0, .slice none 0 0] 111)) 4 #[.bool false]
    rw [World.size_alloc] at Y
    rw [World.size_alloc, World.size_alloc] at V
    rw [World.size_alloc, World.size_alloc, World.size_alloc] at U
    exact ⟨((((Below.refl _ _).alloc (Nat.le_refl _) _).alloc (by simp) _).alloc (by simp; omega) _).alloc (by simp; omega) _, (((Blk.new w _ _).alloc _).alloc _).alloc _, Y, ⟨⟨0, ⟨0, 0, 0, 0⟩, [], none, 0, 0⟩, rfl, V⟩, U, Nat.le_refl _⟩
  generalize ((((w.alloc (.cells #[.func (.func 116) #[] #[]] 188)).alloc (.cells #[.int .i64 0, .int .i64 0, .int .i64 0, .int .i64 0, .int .i64 0, .slice none 0 0] 111)).alloc (.cells #[.int .i64 0, .int .i64 0, .int .i64 0, .int .i64 0, .int .i64 0, .slice none 0 0] 111)).alloc (.cells #[.bool false] 4)) = w0 at *
  have hws : w.heap.size ≤ w0.heap.size := F0.bel.size
  have hG := HG.out.below F0.bel HG.out.lt
  have hM := HM.out.below F0.bel HM.out.lt
  refine wpIn_rangeFunc_ownH rfl (by omega) (gf := 115) (lb := #[.pointer (some ⟨g, 0, none⟩)]) rfl trivial (enters_of Tryd.func115 (by kernel_rfl) rfl)
    (all1_stops 8 (by omega) g r m w0 hG hM) (fun h k => walksK_t h k) walksK_b (Below.refl _ _) (fun _ => rfl)
    (fun pre Wr => ∃ v f, FirstSt w v f w0.heap.size Wr ∧ BestOf (pre.map Subtype.val) v f)
    (fun cd pre Wr => False)
    (ownFrom_shut (fun s Wr h => by obtain ⟨v, f, h, _⟩ := h; exact h.sz) (fun s Wr Wr' h hs => by obtain ⟨v, f, h, h2⟩ := h; exact ⟨v, f, h.shut hs hws, h2⟩))
    (fun cd => ownFrom_shut (fun s Wr h => h.elim) (fun s Wr Wr' h hs => h))
    ⟨_, _, F0, .inl ⟨rfl, rfl, rfl⟩⟩
    (fun y a' Wr => ∃ Bx, w0.heap.size ≤ Bx ∧ Blk Wr Bx 111 #[.int .i64 y.1.to, .int .i64 y.1.cost.a, .int .i64 y.1.cost.b, .int .i64 y.1.cost.c, .int .i64 y.1.cost.d, .slice y.1.A y.1.n y.1.cap] ∧
      a' = { tmps := #[.func (.func 115) #[] #[.pointer (some ⟨g, 0, none⟩)], .func (.func 116) #[] #[], undef, .pointer (some ⟨w.heap.size, 0, none⟩), .pointer (some ⟨w.heap.size + 1, 0, none⟩), .bool false, .pointer (some ⟨w.heap.size + 1 + 1, 0, none⟩), .pointer (some ⟨w.heap.size + 1 + 1 + 1, 0, none⟩), .pointer (some ⟨Bx, 0, none⟩), .func (.func 115) #[] #[.pointer (some ⟨g, 0, none⟩)], y.1.val, undef, undef, undef, undef, undef, undef, undef, undef, undef, undef, undef, undef], defers := [] })
    (fun y a' => ownFrom_shut (fun _ Wr h => by obtain ⟨Bx, h1, h2, _⟩ := h; exact Nat.le_trans h1 (Nat.le_of_lt h2.lt)) (fun _ Wr Wr' h hs => by obtain ⟨Bx, h1, h2, h4⟩ := h; exact ⟨Bx, h1, hs.blk h2, h4⟩)) ?assign ?body ?done ?stop
  case assign =>
    rintro l' pre ⟨y, hy⟩ Wr K hI hK
    unfold WkOf.enc
    dsimp only
    gi_wp2
    obtain ⟨v, f, hI, hB⟩ := hI
    have hb : Below Wr.heap.size Wr (Wr.alloc (.cells #[.int .i64 y.to, .int .i64 y.cost.a, .int .i64 y.cost.b, .int .i64 y.cost.c, .int .i64 y.cost.d, .slice y.A y.n y.cap] 111)) := (Below.refl _ _).alloc (Nat.le_refl _) _
    exact hK _ _ (keepsFrom_below hb) (walks_below hb) ⟨v, f, hI.below hb, hB⟩ ⟨Wr.heap.size, hI.sz, Blk.new Wr _ _, rfl⟩
  case body =>
    rintro l' pre ⟨y, hy⟩ a' Wr hl ⟨rr, hrr⟩ ⟨v, f, hI, hB⟩ ⟨Bx, hBx, bX, rfl⟩ hlen
    dsimp only at bX ⊢
    have i0 := bX.cell 0
    have i1 := bX.cell 1
    have i2 := bX.cell 2
    have i3 := bX.cell 3
    have i4 := bX.cell 4
    have i5 := bX.cell 5
    have o0 := hI.ord.cell 0
    have f0 := hI.fnd.cell 0
    have f1 := hI.fnd.frozen 0
    obtain ⟨x, rfl, hbx⟩ := hI.best
    have x0 := hbx.cell 0
    have x1 := hbx.cell 1
    have x2 := hbx.cell 2
    have x3 := hbx.cell 3
    have x4 := hbx.cell 4
    have x5 := hbx.cell 5
    have z0 := hbx.frozen 0
    have z1 := hbx.frozen 1
    have z2 := hbx.frozen 2
    have z3 := hbx.frozen 3
    have z4 := hbx.frozen 4
    have z5 := hbx.frozen 5
    have HI := Lib.hid hI
    have HB := Lib.hid hB
    have HX := Lib.hid bX
    have HBX := Lib.hid hbx
    clear hI hB bX hbx hrr
    cases f
    · gi_wp2
      refine ⟨fun _ h => (by cases h), ?_⟩
      gi_wp2
      have hp := HI.out.put y
      refine ⟨hp.2.1, hp.2.2, _, _, hp.1, ?_⟩
      rcases HB.out with ⟨h0, _, _⟩ | ⟨_, _, _, h1, _⟩
      · rw [List.map_append, h0]; exact BestOf.one y
      · cases h1
    · have hxy : ∃ z ∈ pre.map Subtype.val, x.val = z.val ∧ ∀ u ∈ pre.map Subtype.val, cmpW z.cost z.links u.cost u.links ≤ 0 := by
        rcases HB.out with ⟨_, _, h1⟩ | ⟨z, hz, h0, _, h2⟩
        · cases h1
        · exact ⟨z, hz, h0, h2⟩
      obtain ⟨z, hz, hzx, hzb⟩ := hxy
      have hmz : z ∈ m.map Prod.snd := by obtain ⟨q, _, rfl⟩ := List.mem_map.1 hz; exact q.2
      have hbel : Below w.heap.size w Wr := HI.out.bel
      have hcall := before_any y z Wr ((HL.out y hy).1.below hbel hbel.size) ((HL.out z hmz).1.below hbel hbel.size) (Nat.le_trans (HL.out y hy).2 (by unfold maxLen; omega)) (Nat.le_trans (HL.out z hmz).2 (by unfold maxLen; omega))
      rw [← hzx] at hcall
      obtain ⟨cv, hcv⟩ : ∃ cv, cmpW y.cost y.links z.cost z.links = cv := ⟨_, rfl⟩
      rw [hcv] at hcall
      have HC := Lib.hid hcall
      have HCV := Lib.hid hcv
      have HZ := Lib.hid (And.intro hz (And.intro hzx hzb))
      clear hcall hcv hz hzx hzb hmz hbel
      gi_wp2
      refine ⟨trivial, (CallsIn.inRound l' (callsIn_wide.2 HC.out)).mono ?_⟩
      rintro e w1 ⟨rfl, hb1⟩
      have HI1 := Lib.hid (HI.out.below hb1)
      have HX1 := Lib.hid (HX.out.below hb1 HX.out.lt)
      have HB1 := Lib.hid hb1
      clear i0 i1 i2 i3 i4 i5 o0 f0 f1 x0 x1 x2 x3 x4 x5 z0 z1 z2 z3 z4 z5 hb1
      have i0 := HX1.out.cell 0
      have i1 := HX1.out.cell 1
      have i2 := HX1.out.cell 2
      have i3 := HX1.out.cell 3
      have i4 := HX1.out.cell 4
      have i5 := HX1.out.cell 5
      have f0 := HI1.out.fnd.cell 0
      have f1 := HI1.out.fnd.frozen 0
      obtain ⟨x', hx', hbx⟩ := HI1.out.best
      have x0 := hbx.cell 0
      have x1 := hbx.cell 1
      have x2 := hbx.cell 2
      have x3 := hbx.cell 3
      have x4 := hbx.cell 4
      have x5 := hbx.cell 5
      have z0 := hbx.frozen 0
      have z1 := hbx.frozen 1
      have z2 := hbx.frozen 2
      have z3 := hbx.frozen 3
      have z4 := hbx.frozen 4
      have z5 := hbx.frozen 5
      clear hbx hx'
      by_cases hlt : cv < 0
      · gi_wp2
        have hp := HI1.out.put y
        refine ⟨(keepsFrom_below HB1.out).trans hp.2.1, (walks_below HB1.out).trans hp.2.2, _, _, hp.1, ?_⟩
        rw [List.map_append]
        exact BestOf.take HZ.out.2.2 (by rw [HCV.out]; exact hlt)
      · gi_wp2
        refine ⟨keepsFrom_below HB1.out, walks_below HB1.out, _, _, HI1.out, ?_⟩
        rw [List.map_append, HZ.out.2.1]
        exact BestOf.keep HZ.out.1 HZ.out.2.2 (by rw [HCV.out]; omega)
  case done =>
    rintro D ys Wr hD hys ⟨v, f, hI, hB⟩ hK
    have f0 := hI.fnd.cell 0
    obtain ⟨x, rfl, hbx⟩ := hI.best
    have x0 := hbx.cell 0
    have x1 := hbx.cell 1
    have x2 := hbx.cell 2
    have x3 := hbx.cell 3
    have x4 := hbx.cell 4
    have x5 := hbx.cell 5
    have R := hI.res
    have z0 := R.frozen 0
    have z1 := R.frozen 1
    have z2 := R.frozen 2
    have z3 := R.frozen 3
    have z4 := R.frozen 4
    have z5 := R.frozen 5
    have r0 := R.cell 0
    have r1 := R.cell 1
    have r2 := R.cell 2
    have r3 := R.cell 3
    have r4 := R.cell 4
    have r5 := R.cell 5
    have hmk : Marks w.heap.size Wr [{ target := .collected D, args := #[] }] := ⟨⟨D, Nat.le_trans hws hD, rfl, hK, by simp⟩, trivial⟩
    have HR6 := Lib.hid (ret6 R hmk hI.bel (by omega) (.int .i64 x.to) (.int .i64 x.cost.a) (.int .i64 x.cost.b) (.int .i64 x.cost.c) (.int .i64 x.cost.d) (.slice x.A x.n x.cap))
    have HBB := Lib.hid (hB.perm hys)
    clear hI hbx R hK hmk hB hys
    gi_wp2
    gi_region
    all_goals
      gi_wp2
      refine leaves_marks _ _ (Marks.drew HR6.out.2.1) ?_
      intro w' hs
      have RW := hs.blk (Blk.drew HR6.out.1)
      have y0 := RW.cell 0
      have y1 := RW.cell 1
      have y2 := RW.cell 2
      have y3 := RW.cell 3
      have y4 := RW.cell 4
      have y5 := RW.cell 5
      refine ⟨.tuple #[x.val, .bool f], ?_, ⟨x.val, f, rfl, HBB.out, (below_drewN HR6.out.2.2 1).trans hs.below⟩⟩
      simp [results, Tryd.results114, go_sem, y0, y1, y2, y3, y4, y5]
  case stop =>
    rintro D cd pre Wr _ _ h _
    exact h.elim
end Go.Proofs.YtahkjagjcogeiaaDoor
/- A round of the search, by the links that have come out: plain Lean. -/
namespace Go.Proofs.YtahkjagjcogeiaaDoor
set_option linter.unusedVariables false

/-- What a map of walks tells of a place. -/
def fnOf (m : List (Int × Wk)) (v : Int) : Option (Cost × List Int) := (look m v).map fun x => (x.cost, x.links)
theorem fnOf_nil : fnOf [] = fun _ => none := rfl
theorem fnOf_put (m : List (Int × Wk)) (k : Int) (x : Wk) : fnOf (put m k x) = setF (fnOf m) k (some (x.cost, x.links)) := by
  funext v
  unfold fnOf setF
  rw [look_put]
  split <;> rfl
theorem fnOf_cut (m : List (Int × Wk)) (k : Int) : fnOf (cut m k) = setF (fnOf m) k none := by
  funext v
  unfold fnOf setF
  rw [look_cut]
  split <;> rfl
theorem fnOf_mem {m : List (Int × Wk)} (hn : (m.map Prod.fst).Nodup) {v : Int} {x : Wk} (h : (v, x) ∈ m) : fnOf m v = some (x.cost, x.links) := by
  unfold fnOf
  rw [look_of_mem hn h]
  rfl
theorem fnOf_some {m : List (Int × Wk)} {v : Int} {c : Cost} {l : List Int} (h : fnOf m v = some (c, l)) : ∃ x, (v, x) ∈ m ∧ x.cost = c ∧ x.links = l := by
  unfold fnOf at h
  cases hx : look m v with
  | none => rw [hx] at h; cases h
  | some x =>
    rw [hx] at h
    cases h
    exact ⟨x, look_mem hx, rfl, rfl⟩

/-- Within the round of place a: the links D are done. -/
structure DRound (t : Town) (dk : Bool) (p : Price) (s a : Int) (cw : Cost) (lw : List Int) (D : List (Link × Int × Cost)) (S O : Int → Option (Cost × List Int)) : Prop where
  disj : ∀ v, O v ≠ none → S v = none
  sFirst : ∀ v r, S v = some r → First t dk p s v (some r)
  oWalk : ∀ v c l, O v = some (c, l) → Walk t dk p s v c l
  cross : ∀ u c l, S u = some (c, l) → u ≠ a → ∀ x ∈ t.links, ∀ n d, leads dk p x u = some (n, d) → S n ≠ none ∨ ∃ c' l', O n = some (c', l') ∧ cmpL (key c' l') (key (addC c d) (l ++ [x.id])) ≤ 0
  now : ∀ y ∈ D, S y.2.1 ≠ none ∨ ∃ c' l', O y.2.1 = some (c', l') ∧ cmpL (key c' l') (key (addC cw y.2.2) (lw ++ [y.1.id])) ≤ 0
  start : S s ≠ none
  here : S a = some (cw, lw)

section
variable {t : Town} {dk : Bool} {p : Price} {s a : Int} {cw : Cost} {lw : List Int} {D : List (Link × Int × Cost)} {S O : Int → Option (Cost × List Int)}
theorem DInv.enter' (h : DInv t dk p s S O) (ht : Fine t) (hp : Fair p) {c : Cost} {l : List Int} (ho : O a = some (c, l)) (hmin : ∀ v' c' l', O v' = some (c', l') → cmpL (key c l) (key c' l') ≤ 0) : DRound t dk p s a c l [] (setF S a (some (c, l))) (setF O a none) := by
  have h1 := h.enter ht hp ho hmin
  exact ⟨h1.disj, h1.sFirst, h1.oWalk, h1.cross, (fun y hy => by cases hy), h1.start, h1.here⟩
theorem DRound.leave (h : DRound t dk p s a cw lw D S O) (hD : ∀ y ∈ outs dk p a t.links, y ∈ D) : DInv t dk p s S O := by
  refine ⟨h.disj, h.sFirst, h.oWalk, ?_, .inl h.start⟩
  intro u c l hu x hx n d hl
  by_cases e : u = a
  · subst e
    rw [h.here] at hu
    cases hu
    exact h.now (x, n, d) (hD _ (by unfold outs; rw [List.mem_filterMap]; exact ⟨x, hx, by rw [hl]; rfl⟩))
  · exact h.cross u c l hu e x hx n d hl
theorem DRound.skip (h : DRound t dk p s a cw lw D S O) {y : Link × Int × Cost} (hno : S y.2.1 ≠ none ∨ ∃ c' l', O y.2.1 = some (c', l') ∧ cmpL (key c' l') (key (addC cw y.2.2) (lw ++ [y.1.id])) ≤ 0) : DRound t dk p s a cw lw (D ++ [y]) S O := by
  refine ⟨h.disj, h.sFirst, h.oWalk, h.cross, fun z hz => ?_, h.start, h.here⟩
  rcases List.mem_append.1 hz with hz | hz
  · exact h.now z hz
  · rw [List.mem_singleton.1 hz]; exact hno
theorem DRound.take (h : DRound t dk p s a cw lw D S O) {y : Link × Int × Cost} (hy : y ∈ outs dk p a t.links) (hn : S y.2.1 = none) (hbe : ∀ c' l', O y.2.1 = some (c', l') → cmpL (key (addC cw y.2.2) (lw ++ [y.1.id])) (key c' l') ≤ 0) :
    DRound t dk p s a cw lw (D ++ [y]) S (setF O y.2.1 (some (addC cw y.2.2, lw ++ [y.1.id]))) := by
  obtain ⟨hxm, hl⟩ := outs_leads hy
  have hw : Walk t dk p s y.2.1 (addC cw y.2.2) (lw ++ [y.1.id]) := (h.sFirst a _ h.here).1.snoc hxm hl
  have old : ∀ {m : Int} {K : List Int}, (S m ≠ none ∨ ∃ c' l', O m = some (c', l') ∧ cmpL (key c' l') K ≤ 0) → S m ≠ none ∨ ∃ c' l', setF O y.2.1 (some (addC cw y.2.2, lw ++ [y.1.id])) m = some (c', l') ∧ cmpL (key c' l') K ≤ 0 := by
    intro m K h1
    rcases h1 with h1 | ⟨c', l', h1, h2⟩
    · exact .inl h1
    · by_cases e : m = y.2.1
      · subst e
        exact .inr ⟨_, _, setF_same _ _ _, cmpL_trans (hbe _ _ h1) h2⟩
      · exact .inr ⟨c', l', by rw [setF_other _ _ e]; exact h1, h2⟩
  refine ⟨?_, h.sFirst, ?_, ?_, ?_, h.start, h.here⟩
  · intro v hv
    by_cases e : v = y.2.1
    · subst e; exact hn
    · rw [setF_other _ _ e] at hv; exact h.disj v hv
  · intro v c' l' hr
    by_cases e : v = y.2.1
    · subst e; rw [setF_same] at hr; cases hr; exact hw
    · rw [setF_other _ _ e] at hr; exact h.oWalk v _ _ hr
  · intro u c' l' hu hne z hz m d hl'
    exact old (h.cross u c' l' hu hne z hz m d hl')
  · intro z hz
    rcases List.mem_append.1 hz with hz | hz
    · exact old (h.now z hz)
    · rw [List.mem_singleton.1 hz]
      exact .inr ⟨_, _, setF_same _ _ _, by rw [cmpL_refl]; omega⟩
end
end Go.Proofs.YtahkjagjcogeiaaDoor
/- append inside a fence, whatever its source; the marks of a function shut: maps lie as they lay. -/
namespace Go.Proofs.YtahkjagjcogeiaaDoor
open Go.RowKit
set_option linter.unusedVariables false

theorem wpListIn_append_any {F : Fence} {nn : Nat} {P : Program} {w : World} {ops : Array Oper} {rest : List Oper} {o : Oper} {a : Act} {Q : Exit → Act → World → Prop} (hgd : o.guard = none) (s x : Operand) {t e : TypeId}
    (ho : o.op = .call { callee := .builtin .append, args := #[s, x], argTypes := #[t, t] })
    {z : Value} {size bytes : Nat} (EE : ElemAt P t e z size bytes) {base : Nat} {A : Option Addr} {n cap : Nat} {xs : List Value} (hs : a.eval s = .slice A n cap) (hown : Own w base e size A n cap xs)
    {A2 : Option Addr} {m c B : Nat} {news : List Value} (hx : a.eval x = .slice A2 m c) (hR : Reads w B size A2 m news) (h1 : ∀ u ∈ news, u.oneCell' = true) (h63 : n + m ≤ maxLen) (hbytes : (n + m) * bytes ≤ 140737488355328) (hbase : base ≤ w.heap.size)
    (h : ∀ A' cap' w', Own w' base e size A' (n + m) cap' (xs ++ news) → w.grownBy w' (A.map (·.block)) → (A' = A ∨ A' = some ⟨w.heap.size, 0, none⟩) → wpListIn F nn P ops Q rest (a.put o.dst (.slice A' (n + m) cap')) w') :
    wpListIn F nn P ops Q (o :: rest) a w := by
  refine wpListIn_plain hgd fun K hK => ?_
  obtain ⟨A', cap', w', hr, h2, h3, h4⟩ := run_append_any (P := P) w o.type EE hown hR (c := c) h1 h63 hbytes hbase
  unfold Oper.wpIn
  refine ⟨?_, ?_⟩
  · simp [Oper.about, ho, resolve, Target.leads, Sem.run_pure]
  · rw [Oper.semAt_plain F _ _ (by rw [ho]; intro c hc'; cases hc')]
    unfold execOp
    simp only [ho, resolve, invoke, builtin, Sem.run_bind, Sem.run_pure, Result.andThen_ok, List.map_toArray, List.map_cons, List.map_nil, hs, hx, hr]
    exact hK _ _ (h A' cap' w' h2 h3 h4)

/-- What shutting the marks leaves: all that is no block of deferred calls. -/
structure ShutD (B : Nat) (w w' : World) : Prop where
  below : Below B w w'
  others : ∀ (b : Nat) o, w.heap[b]? = some o → (∀ x, o ≠ .deferred x) → w'.heap[b]? = some o
theorem ShutD.refl (B : Nat) (w : World) : ShutD B w w := ⟨Below.refl _ _, fun _ _ h _ => h⟩
theorem ShutD.trans {B : Nat} {w w' w'' : World} (h : ShutD B w w') (k : ShutD B w' w'') : ShutD B w w'' := ⟨h.below.trans k.below, fun b o e hn => k.others b o (h.others b o e hn) hn⟩
theorem ShutD.blk {B g : Nat} {w w' : World} {t : TypeId} {cs : Array Value} (h : ShutD B w w') (b : Blk w g t cs) : Blk w' g t cs := h.others _ _ b (fun x e => by cases e)
theorem ShutD.own {B base n cap size : Nat} {w w' : World} {e : TypeId} {A : Option Addr} {xs : List Value} (h : ShutD B w w') (o : Own w base e size A n cap xs) : Own w' base e size A n cap xs := by
  refine ⟨o.1, ?_⟩
  rcases o.2 with h' | ⟨g, cap', cur, hv, hb, hg, hr⟩
  · exact .inl h'
  · exact .inr ⟨g, cap', cur, hv, hb, h.others g _ hg (fun x e => by cases e), hr⟩
theorem ShutD.reads {B B' size n : Nat} {w w' : World} {A : Option Addr} {xs : List Value} (h : ShutD B w w') (r : Reads w B' size A n xs) : Reads w' B' size A n xs := by
  rcases Nat.eq_zero_or_pos size with h0 | h0
  · refine ⟨r.1, fun hn => ?_⟩
    obtain ⟨ad, e, hb, hc⟩ := r.2 hn
    refine ⟨ad, e, hb, fun j u hu => ?_⟩
    have := (List.getElem?_eq_some_iff.1 hu).1
    rw [r.1, h0] at this
    omega
  · refine ⟨r.1, fun hn => ?_⟩
    obtain ⟨ad, e, hb, hc⟩ := r.2 hn
    refine ⟨ad, e, hb, fun j u hu => ?_⟩
    have h1 := hc j u hu
    obtain ⟨o, ho, hcell⟩ := cells_of_cell h1
    rw [← h1]
    refine World.cell?_of_block ?_
    rw [ho]
    exact h.others _ _ ho (fun x e => by subst e; simp [Obj.isCells] at hcell)

theorem shutD_put {B r : Nat} {w : World} (hB : B ≤ r) (h : w.heap[r]? = some (.deferred (some []))) : ShutD B w (w.putObj r (.deferred none)) := by
  have hlt := (Array.getElem?_eq_some_iff.1 h).1
  refine ⟨(Below.refl B w).grown (grownBy_putObj' w r (.deferred none)) (by omega) (fun k e => by cases e; exact hB), fun b o e hn => ?_⟩
  have hne : b ≠ r := by
    intro e'
    subst e'
    rw [h] at e
    cases e
    exact hn _ rfl
  exact (World.putObj_heap_other hne).trans e

theorem leaves_marksD {F : Fence} {n : Nat} {P : Program} {fn : Func} {tmps : Array Value} {R : Ending → World → Prop} {B : Nat} : ∀ (ds : List Deferred) (w : World), Marks B w ds →
    (∀ w', ShutD B w w' → LeavesIn F n P fn tmps R [] .returning w') → LeavesInM F n P fn tmps R ds .returning w
  | [], w, _, h => h w (ShutD.refl _ _)
  | d :: ds, w, ⟨⟨r, h1, h2, h3, h4⟩, h5⟩, h => by
    refine ⟨by simp, .inl ⟨r, _, h2, run_takeDeferred h3, ?_⟩⟩
    refine leaves_marksD ds _ (h5.keep fun d' hd r' hr h0 => ?_) (fun w' hs => h w' ((shutD_put h1 h3).trans hs))
    have hne : r' ≠ r := by
      intro e
      subst e
      exact h4 d' hd hr
    exact (World.putObj_heap_other hne).trans h0
end Go.Proofs.YtahkjagjcogeiaaDoor
