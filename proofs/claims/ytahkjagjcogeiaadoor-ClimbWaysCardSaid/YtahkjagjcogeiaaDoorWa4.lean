/- Part 4 of the texts of this claim, joined. -/
import Derived.Lib.AppendZeros
import Derived.Shelf.Spec.SlicesInsert
import Derived.Lib.Overlaps
import Derived.Test.YtahkjagjcogeiaaDoorWa3
/- The law of a drawn region by stages. -/
namespace Go.Proofs.YtahkjagjcogeiaaDoor
open Go.RowKit
set_option linter.unusedVariables false

/-- A class of worlds above V that is shut under growth. -/
def Good (V : World) (C : World → Prop) : Prop := (∃ W, C W) ∧ (∀ W, C W → Below V.heap.size V W) ∧ ∀ W W', C W → Below W.heap.size W W' → C W'
theorem Good.above (V : World) : Good V fun W => Below V.heap.size V W := ⟨⟨V, Below.refl _ _⟩, fun _ h => h, fun _ _ h k => h.trans (k.mono h.size)⟩
theorem Good.up {V V' : World} {C : World → Prop} (h : Good V' C) (hb : Below V.heap.size V V') : Good V C := ⟨h.1, fun W hW => hb.trans ((h.2.1 W hW).mono hb.size), h.2.2⟩

section
variable {F : Fence} {n : Nat} {P : Program} {l : List Oper}
/-- Quiet operations, in whatever world above V. -/
def Quietly (F : Fence) (n : Nat) (P : Program) (l : List Oper) (V : World) (qs : List Oper) (a A : Act) : Prop :=
  ∀ (σ : Type) (_ : Nonempty σ) (of : σ → World), (∀ z, Below V.heap.size V (of z)) → (∀ z W', Below (of z).heap.size (of z) W' → Cls of W') → wpQuietIn F n P l.toArray (Cls of) (fun a2 => a2 = A) qs a
theorem Quietly.cls {V : World} {qs : List Oper} {a A : Act} (hq : Quietly F n P l V qs a A) {C : World → Prop} (hC : Good V C) : wpQuietIn F n P l.toArray C (fun a2 => a2 = A) qs a := by
  obtain ⟨⟨W0, h0⟩, h1, h2⟩ := hC
  have e : C = Cls (fun z : { W : World // C W } => z.1) := by
    funext W
    exact propext ⟨fun h => ⟨⟨W, h⟩, rfl⟩, fun ⟨z, hz⟩ => by rw [hz]; exact z.2⟩
  rw [e]
  exact hq _ ⟨⟨W0, h0⟩⟩ _ (fun z => h1 _ z.2) (fun z W' hb => ⟨⟨W', h2 _ _ z.2 hb⟩, rfl⟩)

theorem Quietly.none {V : World} {a : Act} : Quietly F n P l V (pickB l []) a a := fun _ _ _ _ _ => by cases l <;> exact rfl

/-- The effects, one behind the other. -/
def wpT (F : Fence) (n : Nat) (P : Program) (ops : Array Oper) (Qn : Act → World → Prop) : List Oper → Act → World → Prop
  | [], a, w => Qn a w
  | o :: r, a, w => wpListIn F n P ops (Exit.then (wpT F n P ops Qn r) (fun _ _ _ => False)) [o] a w
theorem wpT_nil {ops : Array Oper} {Qn : Act → World → Prop} {a : Act} {w : World} (h : Qn a w) : wpT F n P ops Qn [] a w := h
theorem wpT_cons {ops : Array Oper} {Qn : Act → World → Prop} {o : Oper} {r : List Oper} {a : Act} {w : World} (h : wpListIn F n P ops (Exit.then (wpT F n P ops Qn r) (fun _ _ _ => False)) [o] a w) : wpT F n P ops Qn (o :: r) a w := h

/-- Stage by stage: quiet operations, then one that may make memory. -/
def wpFlow (F : Fence) (n : Nat) (P : Program) (l : List Oper) (tail : List (Nat × Nat) → World → Act → Prop) : List (List Bool × Nat) → List Bool → List (Nat × Nat) → World → Act → Prop
  | [], fin, I, V, a => ∃ A, Quietly F n P l V (pickB l fin) a A ∧ tail I V A
  | (m, x) :: r, fin, I, V, a => ∃ A, Quietly F n P l V (pickB l m) a A ∧ ∃ o, l[x]? = some o ∧ ∀ W, Below V.heap.size V W →
      wpListIn F n P l.toArray (Exit.then (fun a' W' => a'.defers = A.defers ∧ Below W.heap.size W W' ∧ wpFlow F n P l tail r fin ((W.heap.size, W'.heap.size) :: I) W' a') (fun _ _ _ => False)) [o] A W
theorem wpFlow_nil {tail : List (Nat × Nat) → World → Act → Prop} {fin : List Bool} {I : List (Nat × Nat)} {V : World} {a A : Act} (hq : Quietly F n P l V (pickB l fin) a A) (h : tail I V A) : wpFlow F n P l tail [] fin I V a := ⟨A, hq, h⟩
theorem wpFlow_cons {tail : List (Nat × Nat) → World → Act → Prop} {m : List Bool} {x : Nat} {r : List (List Bool × Nat)} {fin : List Bool} {I : List (Nat × Nat)} {V : World} {a A : Act} {o : Oper} (ho : l[x]? = some o) (hq : Quietly F n P l V (pickB l m) a A)
    (h : ∀ W, Below V.heap.size V W → wpListIn F n P l.toArray (Exit.then (fun a' W' => a'.defers = A.defers ∧ Below W.heap.size W W' ∧ wpFlow F n P l tail r fin ((W.heap.size, W'.heap.size) :: I) W' a') (fun _ _ _ => False)) [o] A W) : wpFlow F n P l tail ((m, x) :: r) fin I V a := ⟨A, hq, o, ho, h⟩

/-- What is next. -/
def NextF (F : Fence) (n : Nat) (P : Program) (l : List Oper) (tail : List (Nat × Nat) → World → Act → Prop) (ws : List Nat) (fin : List Bool) (later : List Nat) (I : List (Nat × Nat)) (V : World) (A : Act) : Prop :=
  (later = [] ∧ tail I V A) ∨ ∃ x r o, later = x :: xsOf r fin ∧ x ∈ ws ∧ (∀ p ∈ r, p.2 ∈ ws ∧ p.1.length ≤ l.length) ∧ l[x]? = some o ∧ ∀ W, Below V.heap.size V W →
      wpListIn F n P l.toArray (Exit.then (fun a' W' => a'.defers = A.defers ∧ Below W.heap.size W W' ∧ wpFlow F n P l tail r fin ((W.heap.size, W'.heap.size) :: I) W' a') (fun _ _ _ => False)) [o] A W
/-- It may come up, and yields what A says. -/
def AvF (F : Fence) (n : Nat) (P : Program) (l : List Oper) (xs : List Nat) (a0 : Act) (ys : List Nat) (V : World) (A : Act) (i : Nat) : Prop :=
  ∀ o, l[i]? = some o → ∃ pre post, xs = pre ++ i :: post ∧ (∀ k ∈ pre, k ∈ ys) ∧ ∀ C, Good V C → ∃ LF, Mixed l (· ∈ pre) A a0 LF ∧ YieldsQuiet F n P l.toArray C o (valOf l A i) LF
section
variable {xs ws es : List Nat} {j : Nat} {a0 : Act} {tail : List (Nat × Nat) → World → Act → Prop} {fin : List Bool}
theorem enter_core (ok : FlowOk l xs ws es j) (hs : slotsM l a0.tmps.size = true) {ys qs rest : List Nat} {V : World} {A1 A : Act} (hx : xs = ys ++ (qs ++ rest)) (hA1 : Mixed l (· ∈ ys) A1 a0 A1) (hq : Quietly F n P l V (pick l qs) A1 A) :
    Mixed l (· ∈ ys ++ qs) A a0 A ∧ (∀ i ∈ ys, ∀ t, dstAt l i = some t → A1.tmps.getD t undef = A.tmps.getD t undef) ∧ ∀ i ∈ qs, AvF F n P l xs a0 (ys ++ qs) V A i := by
  have hslot : ∀ i, i < l.length → ∀ d, dstAt l i = some d → d < a0.tmps.size := fun i hi d hd => by
    have := List.all_eq_true.1 hs i (List.mem_range.2 hi)
    rw [hd] at this
    simpa using this
  have hnd := ok.nodup
  rw [hx, List.nodup_append] at hnd
  obtain ⟨_, hnd2, hdis⟩ := hnd
  have hqx : ∀ i ∈ qs, i ∈ xs := fun i hi => by rw [hx]; simp [hi]
  have hyx : ∀ i ∈ ys, i ∈ xs := fun i hi => by rw [hx]; simp [hi]
  have hcond : ∀ i ∈ qs, i < l.length ∧ ∃ d, dstAt l i = some d ∧ d < A1.tmps.size ∧ ∀ i' ∈ qs, dstAt l i' = some d → i' = i := fun i hi => by
    obtain ⟨h1, h2, h3⟩ := ok.x i (hqx i hi)
    obtain ⟨d, h4, h5⟩ := ok.own i h1 h3
    exact ⟨h1, d, h4, by rw [hA1.size]; exact hslot i h1 d h4, fun i' hi' hd' => h5 i' (ok.x i' (hqx i' hi')).1 hd'⟩
  have hnq : qs.Nodup := (List.nodup_append.1 hnd2).1
  have S := fun (C : World → Prop) (hC : Good V C) => quiet_seq (F := F) (n := n) (P := P) (l := l) (C := C) (A := A) qs A1 hcond hnq (hq.cls hC)
  obtain ⟨M, _⟩ := S _ (Good.above V)
  have same : ∀ i ∈ ys, ∀ t, dstAt l i = some t → A1.tmps.getD t undef = A.tmps.getD t undef := fun i hi t ht => by
    refine (M.out t fun i' hi' hd' => ?_).symm
    obtain ⟨h1, h2, h3⟩ := ok.x i (hyx i hi)
    obtain ⟨d, h4, h5⟩ := ok.own i h1 h3
    rw [ht] at h4
    cases h4
    have := h5 i' (ok.x i' (hqx i' hi')).1 hd'
    subst this
    exact hdis i' hi i' (by simp [hi']) rfl
  have B := hA1.change same
  refine ⟨(M.trans B).congr (fun i => by simp [or_comm]), same, fun i hi o ho => ?_⟩
  obtain ⟨pre, post, e⟩ := List.append_of_mem hi
  refine ⟨ys ++ pre, post ++ rest, by rw [hx, e]; simp, fun k hk => ?_, fun C hC => ?_⟩
  · rw [e]
    rcases List.mem_append.1 hk with h | h <;> simp [h]
  · obtain ⟨LF, h1, h2⟩ := (S C hC).2 pre i post e o ho
    exact ⟨LF, (h1.trans B).congr (fun k => by simp [or_comm]), h2⟩
theorem flow_enter (ok : FlowOk l xs ws es j) (hs : slotsM l a0.tmps.size = true) (hfin : fin.length ≤ l.length) (r : List (List Bool × Nat)) (hr : ∀ p ∈ r, p.2 ∈ ws ∧ p.1.length ≤ l.length) {ys : List Nat} {I : List (Nat × Nat)} {V : World} {A1 : Act} (h : wpFlow F n P l tail r fin I V A1) (hx : xs = ys ++ xsOf r fin) (hA1 : Mixed l (· ∈ ys) A1 a0 A1) :
    ∃ qs later A, xs = (ys ++ qs) ++ later ∧ Mixed l (· ∈ ys ++ qs) A a0 A ∧ (∀ i ∈ ys, ∀ t, dstAt l i = some t → A1.tmps.getD t undef = A.tmps.getD t undef) ∧ (∀ i ∈ qs, AvF F n P l xs a0 (ys ++ qs) V A i) ∧ NextF F n P l tail ws fin later I V A := by
  cases r with
  | nil =>
    obtain ⟨A, hq, ht⟩ := h
    rw [pickB_all l fin hfin] at hq
    obtain ⟨h1, h2, h3⟩ := enter_core ok hs (rest := []) (by rw [hx]; simp [xsOf]) hA1 hq
    exact ⟨idxs 0 fin, [], A, by rw [hx]; simp [xsOf], h1, h2, h3, .inl ⟨rfl, ht⟩⟩
  | cons p r =>
    obtain ⟨m, x⟩ := p
    obtain ⟨A, hq, o, ho, hw⟩ := h
    obtain ⟨hxw, hm⟩ := hr (m, x) (by simp)
    rw [pickB_all l m hm] at hq
    obtain ⟨h1, h2, h3⟩ := enter_core ok hs (rest := x :: xsOf r fin) (by rw [hx]; simp [xsOf]) hA1 hq
    exact ⟨idxs 0 m, x :: xsOf r fin, A, by rw [hx]; simp [xsOf], h1, h2, h3, .inr ⟨x, r, o, rfl, hxw, fun p hp => hr p (by simp [hp]), ho, hw⟩⟩
end

/-- What the end is given: the new block's place. -/
def tailF (F : Fence) (n : Nat) (P : Program) (l : List Oper) (es : List Bool) (j : Nat) (dj : Tmp) (fv : Nat → Value) (ty : TypeId) (cs : Array Value) (V0 : World) (Qn : Act → World → Prop) : List (Nat × Nat) → World → Act → Prop := fun I V A =>
  ∀ b W, Below V.heap.size V W → (j < l.length → V0.heap.size ≤ b ∧ Blk W b ty cs ∧ ∀ p ∈ I, b < p.1 ∨ p.2 ≤ b) → wpT F n P l.toArray Qn (pickB l es) (if j < l.length then A.put (some dj) (fv b) else A) W

/-- THE LAW. -/
theorem wpIn_region_flow {Q : Exit → Act → World → Prop} {id : Nat} {a0 : Act} {w V0 : World} (stages : List (List Bool × Nat)) (fin em : List Bool) (j : Nat) (dj : Tmp) (fv : Nat → Value) (ty : TypeId) (cs : Array Value)
    (hm : P.follows .mixedOrders = true) (hB : (flowB l (xsOf stages fin) (stages.map (·.2)) (idxs 0 em) j && stages.all (fun p => decide (p.1.length ≤ l.length)) && decide (fin.length ≤ l.length) && decide (em.length ≤ l.length)) = true)
    (hs : slotsM l a0.tmps.size = true) (hV : Below V0.heap.size V0 w.drew)
    (hj : j < l.length → ∃ oj, l[j]? = some oj ∧ oj.dst = some dj ∧ oj.guard = none ∧ (∀ ρ W, oj.about P W ρ = none) ∧ ∀ ρ W, (execOp ρ oj).run P W = .ok (.value (fv W.heap.size)) (W.alloc (.cells cs ty)))
    (h : wpFlow F n P l (tailF F n P l em j dj fv ty cs V0 (Q .normal)) stages fin [] V0 a0) : (Code.region id l.toArray true).wpIn F n P Q a0 w := by
  simp only [Bool.and_eq_true, decide_eq_true_eq] at hB
  obtain ⟨⟨⟨hB, hst⟩, hfin⟩, hem⟩ := hB
  have ok := flowOk hB
  obtain ⟨xs, hxs⟩ : ∃ xs, xsOf stages fin = xs := ⟨_, rfl⟩
  obtain ⟨ws, hws⟩ : ∃ ws, stages.map (·.2) = ws := ⟨_, rfl⟩
  obtain ⟨es, hes⟩ : ∃ es, idxs 0 em = es := ⟨_, rfl⟩
  rw [hxs, hws, hes] at ok
  have hpe : pickB l em = pick l es := by rw [← hes]; exact pickB_all l em hem
  have hr0 : ∀ p ∈ stages, p.2 ∈ ws ∧ p.1.length ≤ l.length := fun p hp => ⟨by rw [← hws]; exact List.mem_map.2 ⟨p, hp, rfl⟩, by simpa using List.all_eq_true.1 hst p hp⟩
  have hnd : noDefer l.toArray := noDefer_of ok.nodef
  have hslot : ∀ i, i < l.length → ∀ d, dstAt l i = some d → d < a0.tmps.size := fun i hi d hd => by
    have := List.all_eq_true.1 hs i (List.mem_range.2 hi)
    rw [hd] at this
    simpa using this
  have hje : j < l.length → j ∉ es := fun hlt he => (ok.e j he).2 rfl
  have hdj : j < l.length → dstAt l j = some dj := fun hlt => by
    obtain ⟨oj, h1, h2, _⟩ := hj hlt
    unfold dstAt; rw [h1]; exact h2
  have hjd : j < l.length → ∀ i, i < l.length → dstAt l i = some dj → i = j := fun hlt i hi hd => by
    obtain ⟨d, h1, h2⟩ := ok.own j hlt (hje hlt)
    rw [hdj hlt] at h1
    cases h1
    exact h2 i hi hd
  let tail := tailF F n P l em j dj fv ty cs V0 (Q .normal)
  let cls : List (Nat × Nat) → World → Option Nat → World → Prop := fun I V ob W => Below V.heap.size V W ∧ ∀ b, ob = some b → V0.heap.size ≤ b ∧ Blk W b ty cs ∧ ∀ p ∈ I, b < p.1 ∨ p.2 ≤ b
  have growC : ∀ {I V ob W W'}, cls I V ob W → Below W.heap.size W W' → cls I V ob W' := fun hc hb => ⟨hc.1.trans (hb.mono hc.1.size), fun b e => ⟨(hc.2 b e).1, (hc.2 b e).2.1.below hb (hc.2 b e).2.1.lt, (hc.2 b e).2.2⟩⟩
  let wJ : Option Nat → Act → Act := fun ob a => match ob with
    | some b => a.put (some dj) (fv b)
    | none => a
  have wJs : ∀ ob a, (wJ ob a).tmps.size = a.tmps.size := fun ob a => by cases ob <;> simp [wJ, Act.put]
  have wJd : ∀ ob a, (wJ ob a).defers = a.defers := fun ob a => by cases ob <;> simp [wJ, Act.put]
  have wJo : ∀ ob a t, (ob.isSome = true → dj ≠ t) → (wJ ob a).tmps.getD t undef = a.tmps.getD t undef := fun ob a t ht => by
    cases ob with
    | none => rfl
    | some b => exact getD_set_other a.tmps (fv b) (ht rfl)
  have wJp : ∀ ob a d v, (ob.isSome = true → d ≠ dj) → (wJ ob a).put (some d) v = wJ ob (a.put (some d) v) := fun ob a d v hd => by
    cases ob with
    | none => rfl
    | some b => exact Act.put_comm a (x := some dj) (y := some d) (fv b) v (fun d' e => by cases e; intro e'; exact hd rfl (Option.some.inj e'))
  let StA : Array Bool → Act → World → Prop := fun listed a W => listed.size = l.length ∧ (∀ e ∈ es, listed.getD e false = false) ∧ ∃ (ys later : List Nat) (A : Act) (V : World) (I : List (Nat × Nat)) (ob : Option Nat) (a1 : Act), xs = ys ++ later ∧ (∀ i ∈ later, listed.getD i false = false) ∧ Mixed l (· ∈ ys) A a0 A ∧
    Mixed l (fun i => i ∈ xs ∧ listed.getD i false = true) A a0 a1 ∧ a = wJ ob a1 ∧ (∀ i ∈ ys, listed.getD i false = false → AvF F n P l xs a0 ys V A i) ∧ (j < l.length → listed.getD j false = ob.isSome) ∧ (l.length ≤ j → ob = none) ∧ cls I V ob W ∧ (∀ p ∈ I, p.2 ≤ V.heap.size) ∧ V0.heap.size ≤ V.heap.size ∧ NextF F n P l tail ws fin later I V A
  let Miss : Array Bool → Tmp → Prop := fun listed t => ∃ i ∈ xs, listed.getD i false = false ∧ dstAt l i = some t
  let StB : Array Bool → Act → World → Prop := fun listed a W => listed.size = l.length ∧ ∃ (A Ac : Act) (m : Nat), m ≤ es.length ∧ (∀ e ∈ es.take m, listed.getD e false = true) ∧ (∀ e ∈ es.drop m, listed.getD e false = false) ∧ (j < l.length → listed.getD j false = true) ∧ Rel (Miss listed) a Ac ∧ Ac.tmps.size = a0.tmps.size ∧
    (∀ i ∈ xs, ∀ t, dstAt l i = some t → Ac.tmps.getD t undef = A.tmps.getD t undef) ∧ (∀ t, (∀ i, i < l.length → dstAt l i ≠ some t) → Ac.tmps.getD t undef = a0.tmps.getD t undef) ∧
    (∀ i ∈ xs, listed.getD i false = false → ∀ o, l[i]? = some o → ∃ pre post LF, xs = pre ++ i :: post ∧ Mixed l (· ∈ pre) A a0 LF ∧ YieldsAll F P l.toArray o (valOf l A i) LF) ∧ wpT F n P l.toArray (Q .normal) (pick l (es.drop m)) Ac W
  have setD : ∀ (listed : Array Bool) (i i' : Nat), listed.size = l.length → i < l.length → (listed.setIfInBounds i true).getD i' false = done (fun i => listed.getD i false) i i' := fun listed i i' hsz hi => by
    unfold done
    by_cases e : i' = i
    · subst e
      rw [if_pos rfl, Array.getD_eq_getD_getElem?, Array.getElem?_setIfInBounds]
      have : i' < listed.size := by omega
      simp [this]
    · rw [if_neg e, getD_set_ne false (Ne.symm e)]
  have mixS : ∀ (listed : Array Bool) (i : Nat), listed.size = l.length → i < l.length → i ∈ xs → ∀ k, ((k ∈ xs ∧ listed.getD k false = true) ∨ k = i) ↔ (k ∈ xs ∧ (listed.setIfInBounds i true).getD k false = true) := fun listed i hsz hi hix k => by
    rw [setD listed i k hsz hi]
    unfold done
    by_cases e : k = i
    · subst e; simp [hix]
    · simp [e]
  have obJ : ∀ {ob : Option Nat}, (l.length ≤ j → ob = none) → ob.isSome = true → j < l.length := fun h h' => by
    rcases Nat.lt_or_ge j l.length with h1 | h1
    · exact h1
    · rw [h h1] at h'; cases h'
  -- what an operation reads
  have agreeA : ∀ {listed : Array Bool} {A LF a1 : Act} {ob : Option Nat} {pre post : List Nat} {i : Nat} {o : Oper}, l[i]? = some o → xs = pre ++ i :: post → (∀ i', afterB l i i' = true → listed.getD i' false = true) → (l.length ≤ j → ob = none) →
      Mixed l (· ∈ pre) A a0 LF → Mixed l (fun i => i ∈ xs ∧ listed.getD i false = true) A a0 a1 → ∀ t ∈ o.looksAt l.toArray, LF.tmps.getD t undef = (wJ ob a1).tmps.getD t undef := by
    intro listed A LF a1 ob pre post i o hol hx hwait hob hLF hM t ht
    by_cases hex : ∃ i', i' < l.length ∧ dstAt l i' = some t
    · obtain ⟨i', hi', hd⟩ := hex
      obtain ⟨h1, h2⟩ := ok.deps pre i post hx o hol t ht i' hi' hd
      have hix : i' ∈ xs := by rw [hx]; simp [h2]
      rw [wJo ob a1 t (fun hsm e => by
        have hlt := obJ hob hsm
        subst e
        exact (ok.x i' hix).2.1 (hjd hlt i' hi' hd)), hLF.in_ i' h2 t hd, hM.in_ i' ⟨hix, hwait i' h1⟩ t hd]
    · have hno : ∀ i', i' < l.length → dstAt l i' ≠ some t := fun i' hi' hd => hex ⟨i', hi', hd⟩
      rw [wJo ob a1 t (fun hsm e => by
        have hlt := obJ hob hsm
        subst e
        exact hno j hlt (hdj hlt)), hLF.out t (fun i' hi' => hno i' (ok.x i' (by rw [hx]; simp [hi'])).1), hM.out t (fun i' hi' => hno i' (ok.x i' hi'.1).1)]
  have toB : ∀ listed a W, StA listed a W → (j < l.length → listed.getD j false = true) → (∀ i ∈ xs, listed.getD i false = false → ∀ o, l[i]? = some o → lateB o = true ∧ i ∉ ws) → StB listed a W := by
    rintro listed a W ⟨hsz, hesl, ys, later, A, V, I, ob, a1, hx, hlater, hA, hM, rfl, hav, h1, h2, hc, hI, hVV, hnext⟩ hjl hfl
    have hlt : later = [] ∧ tail I V A := by
      rcases hnext with h | ⟨x, r, o, e, hxw, _, ho, _⟩
      · exact h
      · exact absurd hxw (hfl x (by rw [hx, e]; simp) (hlater x (by rw [e]; simp)) o ho).2
    obtain ⟨rfl, ht⟩ := hlt
    rw [List.append_nil] at hx
    have hyx : ∀ i, i ∈ ys ↔ i ∈ xs := fun i => by rw [hx]
    have hfacts : ∃ b, (j < l.length → ob = some b) ∧ (j < l.length → V0.heap.size ≤ b ∧ Blk W b ty cs ∧ ∀ p ∈ I, b < p.1 ∨ p.2 ≤ b) := by
      by_cases h : j < l.length
      · have h3 := h1 h
        rw [hjl h] at h3
        obtain ⟨b, rfl⟩ := Option.isSome_iff_exists.1 h3.symm
        exact ⟨b, fun _ => rfl, fun _ => hc.2 b rfl⟩
      · exact ⟨0, fun h' => absurd h' h, fun h' => absurd h' h⟩
    obtain ⟨b, hob, hblk⟩ := hfacts
    have hw := ht b W hc.1 hblk
    have hAc : (if j < l.length then A.put (some dj) (fv b) else A) = wJ ob A := by
      by_cases h : j < l.length
      · rw [if_pos h, hob h]
      · rw [if_neg h, h2 (by omega)]
    rw [hAc, hpe] at hw
    refine ⟨hsz, A, _, 0, Nat.zero_le _, (fun e he => by simp at he), (fun e he => hesl e (by simpa using he)), hjl, ⟨?_, ?_, fun t ht' => ?_⟩, ?_, fun i hi t hd => ?_, fun t hno => ?_, fun i hi hf o ho => ?_, by simpa using hw⟩
    · rw [wJd, wJd, hM.defers, hA.defers]
    · rw [wJs, wJs, hM.size, hA.size]
    · by_cases e : ob.isSome = true ∧ dj = t
      · obtain ⟨e1, rfl⟩ := e
        obtain ⟨b', rfl⟩ := Option.isSome_iff_exists.1 e1
        have hlt := obJ h2 e1
        show (a1.tmps.setIfInBounds dj (fv b')).getD dj undef = (A.tmps.setIfInBounds dj (fv b')).getD dj undef
        rw [getD_set_same _ _ _ (by rw [hM.size]; exact hslot j hlt dj (hdj hlt)), getD_set_same _ _ _ (by rw [hA.size]; exact hslot j hlt dj (hdj hlt))]
      · rw [wJo ob a1 t (fun h3 h4 => e ⟨h3, h4⟩), wJo ob A t (fun h3 h4 => e ⟨h3, h4⟩)]
        by_cases hex : ∃ i ∈ xs, dstAt l i = some t
        · obtain ⟨i, hi, hd⟩ := hex
          have hl : listed.getD i false = true := by
            cases hc' : listed.getD i false with
            | true => rfl
            | false => exact absurd ⟨i, hi, hc', hd⟩ ht'
          exact hM.in_ i ⟨hi, hl⟩ t hd
        · rw [hM.out t (fun i hi hd => hex ⟨i, hi.1, hd⟩), hA.out t (fun i hi hd => hex ⟨i, (hyx i).1 hi, hd⟩)]
    · rw [wJs, hA.size]
    · exact wJo ob A t (fun h3 h4 => (ok.x i hi).2.1 (hjd (obJ h2 h3) i (ok.x i hi).1 (by rw [hd, h4])))
    · rw [wJo ob A t (fun h3 h4 => hno j (obJ h2 h3) (by rw [hdj (obJ h2 h3), h4]))]
      exact hA.out t fun i hi => hno i (ok.x i ((hyx i).1 hi)).1
    · obtain ⟨pre, post, e1, e2, e3⟩ := hav i ((hyx i).2 hi) hf o ho
      obtain ⟨LF, h3, h4⟩ := e3 _ (Good.above V)
      exact ⟨pre, post, LF, e1, h3, late_yields (hfl i hi hf o ho).1 ⟨V, Below.refl _ _⟩ h4⟩
  let St : Array Bool → Act → World → Prop := fun listed a W => StA listed a W ∨ StB listed a W
  have stepB : ∀ listed a W i o, l[i]? = some o → listed.getD i true = false → (∀ i', afterB l i i' = true → listed.getD i' false = true) → StB listed a W → wpListIn F n P l.toArray (Exit.then (St (listed.setIfInBounds i true)) Q) [o] a W := by
    rintro listed a W i o hol hu hwait ⟨hsz, A, Ac, m, hm', ht, hdp, hjl, hR, hAcs, hAcx, hAco, hfl, hwp⟩
    have hi : i < l.length := (List.getElem?_eq_some_iff.1 hol).1
    have hfalse : listed.getD i false = false := getD_both hu
    have hsel : ∀ cs b, o.op ≠ .select cs b := fun cs b => Region.noSelect_spec ok.nosel i o cs b (by simpa using hol)
    rcases ok.part i hi with hix | hie | hij
    · obtain ⟨pre, post, LF, hx, hLF, hy⟩ := hfl i hix hfalse o hol
      have hag : ∀ t ∈ o.looksAt l.toArray, LF.tmps.getD t undef = a.tmps.getD t undef := fun t ht' => by
        by_cases hex : ∃ i', i' < l.length ∧ dstAt l i' = some t
        · obtain ⟨i', hi', hd⟩ := hex
          obtain ⟨h1, h2⟩ := ok.deps pre i post hx o hol t ht' i' hi' hd
          have hix' : i' ∈ xs := by rw [hx]; simp [h2]
          rw [hLF.in_ i' h2 t hd, hR.same t (fun ⟨i2, h5, h6, h7⟩ => by
            obtain ⟨d, h8, h9⟩ := ok.own i' hi' (ok.x i' hix').2.2
            rw [hd] at h8
            cases h8
            have := h9 i2 (ok.x i2 h5).1 h7
            subst this
            rw [hwait _ h1] at h6
            cases h6), hAcx i' hix' t hd]
        · have hno : ∀ i', i' < l.length → dstAt l i' ≠ some t := fun i' hi' hd => hex ⟨i', hi', hd⟩
          rw [hLF.out t (fun i' hi' => hno i' (ok.x i' (by rw [hx]; simp [hi'])).1), hR.same t (fun ⟨i2, h5, _, h7⟩ => hno i2 (ok.x i2 h5).1 h7), hAco t hno]
      have hya := hy.agree hsel (hLF.size.trans (hAcs.symm.trans hR.size.symm)) hag
      obtain ⟨d, hdi, huniq⟩ := ok.own i hi (ok.x i hix).2.2
      have hdo : o.dst = some d := by unfold dstAt at hdi; rw [hol] at hdi; exact hdi
      have hnext : St (listed.setIfInBounds i true) (a.put o.dst (valOf l A i)) W := by
        refine .inr ⟨by simpa using hsz, A, Ac, m, hm', fun e he => ?_, fun e he => ?_, fun h => ?_, ?_, hAcs, hAcx, hAco, fun i' hi' hf => ?_, hwp⟩
        · rw [setD _ _ _ hsz hi]; unfold done; split
          · rfl
          · exact ht e he
        · rw [setD _ _ _ hsz hi]; unfold done; rw [if_neg (fun e' => by subst e'; exact (ok.x e hix).2.2 (List.mem_of_mem_drop he))]; exact hdp e he
        · rw [setD _ _ _ hsz hi]; unfold done; split
          · rfl
          · exact hjl h
        · rw [hdo]
          refine ⟨hR.defers, by rw [← hR.size]; simp [Act.put], fun t ht' => ?_⟩
          by_cases e : t = d
          · subst e
            rw [show (a.put (some t) (valOf l A i)).tmps = a.tmps.setIfInBounds t (valOf l A i) from rfl, getD_set_same _ _ _ (by rw [hR.size, hAcs]; exact hslot i hi t hdi), hAcx i hix t hdi]
            unfold valOf; rw [hdi]; rfl
          · rw [show (a.put (some d) (valOf l A i)).tmps = a.tmps.setIfInBounds d (valOf l A i) from rfl, getD_set_other _ _ (Ne.symm e)]
            refine hR.same t fun ⟨i2, h5, h6, h7⟩ => ht' ⟨i2, h5, ?_, h7⟩
            rw [setD _ _ _ hsz hi]; unfold done
            rw [if_neg (fun e' => by subst e'; rw [hdi] at h7; exact e (Option.some.inj h7).symm)]
            exact h6
        · rw [setD _ _ _ hsz hi] at hf
          unfold done at hf
          split at hf
          · cases hf
          · exact hfl i' hi' hf
      simp only [wpListIn]
      rcases hya.2 with ⟨hw, hv⟩ | ⟨hw, hv⟩
      · rw [if_pos hw]
        unfold Oper.wpIn
        refine ⟨hya.1 W, ?_⟩
        rw [Oper.semAt_eq _ _ _ (hnd i o (by simpa using hol)), hv W]
        exact hnext
      · rw [if_neg (by rw [hw]; simp)]
        refine ⟨hya.1 W, ?_⟩
        rw [hv] at hnext
        exact hnext
    · have hmem : i ∈ es.drop m := by
        rcases (List.mem_append.1 (by rw [List.take_append_drop]; exact hie : i ∈ es.take m ++ es.drop m)) with h | h
        · rw [ht i h] at hfalse; cases hfalse
        · exact h
      have hml : m < es.length := by
        rcases Nat.lt_or_ge m es.length with h | h
        · exact h
        · rw [List.drop_of_length_le h] at hmem; cases hmem
      have hdrop : es.drop m = es[m] :: es.drop (m + 1) := List.drop_eq_getElem_cons hml
      have hie' : i = es[m] := by
        rw [hdrop] at hmem
        rcases List.mem_cons.1 hmem with h | h
        · exact h
        · exfalso
          have hlt : es[m] < i := by
            have hp := ok.upE.sublist (List.drop_sublist m es)
            rw [hdrop, List.pairwise_cons] at hp
            exact hp.1 i h
          have h1 := hwait _ (ok.chain i hie es[m] (List.getElem_mem _) hlt)
          rw [hdp es[m] (by rw [hdrop]; exact List.mem_cons_self)] at h1
          cases h1
      rw [hdrop, ← hie', pick_cons hol] at hwp
      have hdn : o.dst = none := by
        have := ok.edst i hie
        unfold dstAt at this
        rw [hol] at this
        exact this
      refine wpListIn_rel hsel (hnd i o (by simpa using hol)) hdn hR (fun t ht' => ?_) hwp ?_
      · rintro ⟨i2, h5, h6, h7⟩
        rw [hwait _ (ok.depsE i hie o hol t ht' i2 (ok.x i2 h5).1 h7)] at h6
        cases h6
      · rintro A' a' W' eA ea ed hwp'
        refine .inr ⟨by simpa using hsz, A, A', m + 1, hml, fun e he => ?_, fun e he => ?_, fun h => ?_, ?_, by rw [eA]; exact hAcs, by rw [eA]; exact hAcx, by rw [eA]; exact hAco, fun i' hi' hf => ?_, hwp'⟩
        · rw [setD _ _ _ hsz hi]; unfold done; split
          · rfl
          · rename_i hne
            rw [List.take_succ_eq_append_getElem hml] at he
            rcases List.mem_append.1 he with h | h
            · exact ht e h
            · exact absurd ((List.mem_singleton.1 h).trans hie'.symm) hne
        · rw [setD _ _ _ hsz hi]; unfold done
          have hne : e ≠ i := fun e' => by
            have hp := ok.upE.sublist (List.drop_sublist m es)
            rw [hdrop, List.pairwise_cons] at hp
            have := hp.1 e he
            omega
          rw [if_neg hne]
          exact hdp e (by rw [hdrop]; exact List.mem_cons_of_mem _ he)
        · rw [setD _ _ _ hsz hi]; unfold done; split
          · rfl
          · exact hjl h
        · refine ⟨ed, by rw [ea, eA]; exact hR.size, fun t ht' => ?_⟩
          rw [ea, eA]
          refine hR.same t fun ⟨i2, h5, h6, h7⟩ => ht' ⟨i2, h5, ?_, h7⟩
          rw [setD _ _ _ hsz hi]; unfold done
          rw [if_neg (fun e' => by subst e'; exact (ok.x i2 h5).2.2 hie)]
          exact h6
        · rw [setD _ _ _ hsz hi] at hf
          unfold done at hf
          split at hf
          · cases hf
          · exact hfl i' hi' hf
    · subst hij
      rw [hjl hi] at hfalse
      cases hfalse
  refine wpIn_region_inv hm St ?_ ?_ ?_ ?_
  · rintro listed a W (⟨h, _⟩ | ⟨h, _⟩) <;> simpa using h
  · obtain ⟨qs, later, A, hx, hA, _, hav, hnext⟩ := flow_enter (F := F) (n := n) (P := P) (tail := tail) (a0 := a0) ok hs hfin stages hr0 (ys := []) h (by simpa using hxs.symm) (Mixed.nil (by simp))
    have hrep : ∀ i, (Array.replicate l.toArray.size false).getD i false = false := fun i => getD_replicate_false _ _
    refine .inl ⟨by simp, fun e _ => hrep e, qs, later, A, V0, [], none, a0, by simpa using hx, fun i _ => hrep i, by simpa using hA, Mixed.nil (fun i hi => by rw [hrep i] at hi; cases hi.2), rfl, fun i hi _ => by simpa using hav i hi, fun _ => hrep j, fun _ => rfl, ⟨hV, fun b e => by cases e⟩, fun p hp => by simp at hp, Nat.le_refl _, hnext⟩
  · rintro listed a W i o ho hu hd hst
    have hol : l[i]? = some o := by simpa using ho
    have hi : i < l.length := (List.getElem?_eq_some_iff.1 hol).1
    have hwait : ∀ i', afterB l i i' = true → listed.getD i' false = true := fun i' h => by
      unfold afterB at h
      rw [hol] at h
      obtain ⟨e, he, h2⟩ := List.any_eq_true.1 h
      simp only [Bool.and_eq_true, beq_iff_eq] at h2
      rw [← h2.1]
      exact hd e (by simpa using he) h2.2
    rcases hst with hA0 | hBB
    · obtain ⟨hsz, hesl, ys, later, A, V, I, ob, a1, hx, hlater, hA, hM, rfl, hav, h1, h2, hc, hI, hVV, hnext⟩ := hA0
      have hfalse : listed.getD i false = false := getD_both hu
      have hsel : ∀ cs b, o.op ≠ .select cs b := fun cs b => Region.noSelect_spec ok.nosel i o cs b ho
      rcases ok.part i hi with hix | hie | hij
      · have hij : i ≠ j := (ok.x i hix).2.1
        obtain ⟨d, hdi, hun⟩ := ok.own i hi (ok.x i hix).2.2
        have hdo : o.dst = some d := by unfold dstAt at hdi; rw [hol] at hdi; exact hdi
        have hdd : ob.isSome = true → d ≠ dj := fun hsm e => by subst e; exact hij (hjd (obJ h2 hsm) i hi hdi)
        have e1 : ∀ e ∈ es, (listed.setIfInBounds i true).getD e false = false := fun e he => by
          rw [setD _ _ _ hsz hi]; unfold done
          rw [if_neg (fun e' => by subst e'; exact (ok.x e hix).2.2 he)]
          exact hesl e he
        have e2 : j < l.length → (listed.setIfInBounds i true).getD j false = ob.isSome := fun h => by
          rw [setD _ _ _ hsz hi]; unfold done
          rw [if_neg (Ne.symm hij)]
          exact h1 h
        have hmem : i ∈ ys ∨ i ∈ later := by rw [hx] at hix; exact List.mem_append.1 hix
        rcases hmem with hy | hlt
        · -- quiet
          obtain ⟨pre, post, hp1, hp2, hp3⟩ := hav i hy hfalse o hol
          obtain ⟨LF, hLF, hyq⟩ := hp3 (cls I V ob) ⟨⟨W, hc⟩, fun _ h => h.1, fun W W' h k => growC h k⟩
          have hag := agreeA hol hp1 hwait h2 hLF hM
          have hya := yields_agree hsel (hLF.size.trans ((wJs ob a1).trans hM.size).symm) hag hyq
          have hval : valOf l A i = A.tmps.getD d undef := by unfold valOf; rw [hdi]; rfl
          have hnx : ∀ W', cls I V ob W' → St (listed.setIfInBounds i true) ((wJ ob a1).put o.dst (valOf l A i)) W' := fun W' hW' => by
            refine .inl ⟨by simpa using hsz, e1, ys, later, A, V, I, ob, a1.put (some d) (A.tmps.getD d undef), hx, fun k hk => ?_, hA, (hM.step hdi (fun i' hi' hd' => hun i' (ok.x i' hi'.1).1 hd') (hslot i hi d hdi)).congr (mixS listed i hsz hi hix), by rw [hdo, hval]; exact wJp ob a1 d _ hdd, fun k hk hf => ?_, e2, h2, hW', hI, hVV, hnext⟩
            · rw [setD _ _ _ hsz hi]; unfold done
              rw [if_neg (fun e' => by
                subst e'
                have := ok.nodup
                rw [hx, List.nodup_append] at this
                exact this.2.2 k hy k hk rfl)]
              exact hlater k hk
            · rw [setD _ _ _ hsz hi] at hf
              unfold done at hf
              split at hf
              · cases hf
              · exact hav k hk hf
          simp only [wpListIn]
          rcases hya.2 with ⟨hw, hv⟩ | ⟨hw, hv⟩
          · rw [if_pos hw]
            exact wpIn_of_quiet' (K := fun a' => a' = (wJ ob a1).put o.dst (valOf l A i)) (hnd i o ho) hc (fun a' W' hW' ha' => by subst ha'; exact hnx W' hW') hya.1 ⟨_, hv, rfl⟩
          · rw [if_neg (by rw [hw]; simp)]
            refine ⟨hya.1 W hc, ?_⟩
            have := hnx W hc
            rw [hv] at this
            exact this
        · rcases hnext with ⟨h3, _⟩ | ⟨x, r, ox, he, hxw, hr, hox, hwx⟩
          · rw [h3] at hlt; cases hlt
          rw [he] at hlt
          rcases List.mem_cons.1 hlt with rfl | hlt
          · -- the next call
            obtain rfl : ox = o := Option.some.inj (hox.symm.trans hol)
            have hp1 : xs = ys ++ i :: xsOf r fin := by rw [hx, he]
            have hag := agreeA hol hp1 hwait h2 hA hM
            refine wpListIn_relD hsel (hnd i ox ho) (by rw [wJs, hM.size, hA.size]) hag (hwx W hc.1) ?_
            rintro A' a' W' v eA ea ed ⟨hdf, hbW, hfl⟩
            have hpd : ∀ (z : Act) (u : Value), (z.put ox.dst u).defers = z.defers := fun z u => by cases ox.dst <;> rfl
            have eA' : A' = A.put (some d) v := by
              obtain ⟨t1, d1⟩ := A'
              rw [hdo] at eA
              simp only at eA hdf
              subst eA hdf
              rfl
            have ea' : a' = (wJ ob a1).put (some d) v := by
              obtain ⟨t1, d1⟩ := a'
              rw [hdo] at ea
              have h5 := ed hdf
              simp only at ea h5
              subst ea h5
              rfl
            rw [eA'] at hfl
            have hA1 : Mixed l (· ∈ ys ++ [i]) (A.put (some d) v) a0 (A.put (some d) v) := by
              have hpt : (A.put (some d) v).tmps = A.tmps.setIfInBounds d v := rfl
              refine ⟨hA.defers, by rw [hpt]; simpa using hA.size, fun _ _ _ _ => rfl, fun t ht => ?_⟩
              rw [hpt, getD_set_other _ _ (fun e => ht i (by simp) (by rw [hdi, e]))]
              exact hA.out t fun k hk => ht k (by simp [hk])
            obtain ⟨qs, later', A2, hx2, hA2, hsame, hav2, hnext2⟩ := flow_enter (F := F) (n := n) (P := P) (tail := tail) (a0 := a0) ok hs hfin r hr (ys := ys ++ [i]) hfl (by rw [hp1]; simp) hA1
            have hbV : Below V.heap.size V W' := hc.1.trans (hbW.mono hc.1.size)
            have hdv : (A.put (some d) v).tmps.getD d undef = v := getD_set_same _ _ _ (by rw [hA.size]; exact hslot i hi d hdi)
            have hold : ∀ k ∈ ys, ∀ t, dstAt l k = some t → A.tmps.getD t undef = A2.tmps.getD t undef := fun k hk t hd => by
              rw [← hsame k (by simp [hk]) t hd]
              refine (getD_set_other _ _ (fun e => ?_)).symm
              subst e
              have hkx : k ∈ xs := by rw [hx]; simp [hk]
              have := hun k (ok.x k hkx).1 hd
              subst this
              have h6 := ok.nodup
              rw [hp1, List.nodup_append] at h6
              exact h6.2.2 k hk k (by simp) rfl
            have hlat : ∀ k ∈ later', k ∈ later := fun k hk => by
              have h6 : xs = ys ++ (i :: (qs ++ later')) := by rw [hx2]; simp
              rw [hp1] at h6
              have h7 := List.append_cancel_left h6
              rw [he, h7]
              simp [hk]
            have hlist : ∀ k, k ∈ xs ∧ listed.getD k false = true → k ∈ ys := fun k hk => by
              have := hk.1
              rw [hx] at this
              rcases List.mem_append.1 this with h | h
              · exact h
              · rw [hlater k h] at hk; cases hk.2
            have hM2 : Mixed l (fun k => k ∈ xs ∧ (listed.setIfInBounds i true).getD k false = true) A2 a0 (a1.put (some d) v) := by
              have h6 := (hM.change (A' := A2) (fun k hk t hd => hold k (hlist k hk) t hd)).step hdi (fun i' hi' hd' => hun i' (ok.x i' hi'.1).1 hd') (hslot i hi d hdi)
              have h7 : A2.tmps.getD d undef = v := by rw [← hsame i (by simp) d hdi]; exact hdv
              rw [h7] at h6
              exact h6.congr (mixS listed i hsz hi hix)
            refine .inl ⟨by simpa using hsz, e1, ys ++ [i] ++ qs, later', A2, W', (W.heap.size, W'.heap.size) :: I, ob, a1.put (some d) v, hx2, fun k hk => ?_, hA2, hM2, by rw [ea']; exact wJp ob a1 d v hdd, fun k hk hf => ?_, e2, h2, ⟨Below.refl _ _, fun b e => ?_⟩, fun p hp => ?_, Nat.le_trans hVV hbV.size, hnext2⟩
            · rw [setD _ _ _ hsz hi]; unfold done
              rw [if_neg (fun e' => by
                subst e'
                have := ok.nodup
                rw [hx2, List.nodup_append] at this
                exact this.2.2 k (by simp) k hk rfl)]
              exact hlater k (hlat k hk)
            · rw [setD _ _ _ hsz hi] at hf
              unfold done at hf
              split at hf
              · cases hf
              · rename_i hki
                rcases List.mem_append.1 hk with hk | hk
                · have hk' : k ∈ ys := by
                    rcases List.mem_append.1 hk with h | h
                    · exact h
                    · exact absurd (List.mem_singleton.1 h) hki
                  intro o' ho'
                  obtain ⟨pre, post, q1, q2, q3⟩ := hav k hk' hf o' ho'
                  refine ⟨pre, post, q1, fun k' hk2 => by simp [q2 k' hk2], fun C hC => ?_⟩
                  obtain ⟨LF, q4, q5⟩ := q3 C (hC.up hbV)
                  have hkv : valOf l A k = valOf l A2 k := by
                    have hkx : k ∈ xs := by rw [hx]; simp [hk']
                    obtain ⟨dk, g1, _⟩ := ok.own k (ok.x k hkx).1 (ok.x k hkx).2.2
                    unfold valOf
                    rw [g1]
                    exact hold k hk' dk g1
                  exact ⟨LF, q4.change (fun k2 hk2 t hd => hold k2 (q2 k2 hk2) t hd), by rw [← hkv]; exact q5⟩
                · exact hav2 k hk
            · obtain ⟨g1, g2, g3⟩ := hc.2 b e
              refine ⟨g1, g2.below hbW g2.lt, fun p hp => ?_⟩
              rcases List.mem_cons.1 hp with rfl | hp
              · exact .inl g2.lt
              · exact g3 p hp
            · rcases List.mem_cons.1 hp with rfl | hp
              · exact Nat.le_refl _
              · exact Nat.le_trans (hI p hp) hbV.size
          · -- not yet
            exfalso
            have hp1 : xs = ys ++ x :: xsOf r fin := by rw [hx, he]
            obtain ⟨m, hm1, hm2⟩ := ok.ord ys x _ hp1 hxw i hlt
            have := hwait m hm2
            rw [hlater m (by rw [he]; exact hm1)] at this
            cases this
      · refine stepB listed _ W i o hol hu hwait (toB listed _ W ⟨hsz, hesl, ys, later, A, V, I, ob, a1, hx, hlater, hA, hM, rfl, hav, h1, h2, hc, hI, hVV, hnext⟩ (fun h => hwait j (ok.fresh i hie h)) fun i' hi' hf o' ho' => ?_)
        rcases ok.late i' hi' o' ho' with h | h
        · exact h
        · rw [hwait i' (h i hie)] at hf
          cases hf
      · subst hij
        obtain ⟨oj, hoj, hdd, hgj, hab, hrun⟩ := hj hi
        obtain rfl : oj = o := Option.some.inj (hoj.symm.trans hol)
        have hob : ob = none := by
          have h3 := h1 hi
          rw [hfalse] at h3
          cases ob with
          | none => rfl
          | some b => cases h3
        subst hob
        have hwant : Region.wanted oj (yielded l.toArray (wJ none a1).tmps) = true := by unfold Region.wanted; rw [hgj]
        simp only [wpListIn]
        rw [if_pos hwant]
        unfold Oper.wpIn
        refine ⟨fun f hf => (by rw [hab] at hf; cases hf), ?_⟩
        rw [Oper.semAt_eq _ _ _ (hnd i oj ho), hrun]
        show Exit.then _ Q .normal _ _
        refine .inl ⟨by simpa using hsz, fun e he => ?_, ys, later, A, V, I, some W.heap.size, a1, hx, fun k hk => ?_, hA, hM.congr (fun k => ?_), by rw [hdd], fun k hk hf => ?_, fun _ => ?_, fun h => absurd hi (by omega), ⟨hc.1.alloc hc.1.size _, fun b hb => ?_⟩, hI, hVV, hnext⟩
        · rw [setD _ _ _ hsz hi]; unfold done
          rw [if_neg (fun e' => by subst e'; exact hje hi he)]
          exact hesl e he
        · rw [setD _ _ _ hsz hi]; unfold done
          rw [if_neg (fun e' => by subst e'; exact (ok.x k (by rw [hx]; simp [hk])).2.1 rfl)]
          exact hlater k hk
        · rw [setD _ _ _ hsz hi]; unfold done
          by_cases e : k = i
          · subst e
            simp only
            exact ⟨fun h => absurd rfl (ok.x k h.1).2.1, fun h => absurd rfl (ok.x k h.1).2.1⟩
          · rw [if_neg e]
        · rw [setD _ _ _ hsz hi] at hf
          unfold done at hf
          split at hf
          · cases hf
          · exact hav k hk hf
        · rw [setD _ _ _ hsz hi]; simp [done]
        · cases hb
          exact ⟨Nat.le_trans hVV hc.1.size, Blk.new W _ _, fun p hp => .inr (Nat.le_trans (hI p hp) hc.1.size)⟩
    · exact stepB listed a W i o hol hu hwait hBB
  · rintro listed a W hr hst
    have hal : ∀ i, i < l.length → listed.getD i false = true := by
      rcases hst with ⟨h, _⟩ | ⟨h, _⟩ <;> exact fun i hi => ready_nil_all ok.back (by simpa using h) hr i (by simpa using hi)
    have hBB : StB listed a W := by
      rcases hst with h | h
      · exact toB listed a W h (fun h' => hal j h') (fun i hi hf => by rw [hal i (ok.x i hi).1] at hf; cases hf)
      · exact h
    obtain ⟨hsz, A, Ac, m, hm', ht, hdp, hjl, hR, hAcs, hAcx, hAco, hfl, hwp⟩ := hBB
    have hnil : es.drop m = [] := by
      cases h : es.drop m with
      | nil => rfl
      | cons e r =>
        have h1 := hdp e (by rw [h]; simp)
        rw [hal e (ok.e e (List.mem_of_mem_drop (by rw [h]; simp))).1] at h1
        cases h1
    rw [hnil] at hwp
    have hEq : a = Ac := by
      obtain ⟨t, d⟩ := a
      obtain ⟨t', d'⟩ := Ac
      have e1 : d = d' := hR.defers
      have s1 : t.size = t'.size := hR.size
      have e2 : t = t' := by
        apply Array.ext s1
        intro i h1 h2
        have := hR.same i (fun ⟨i2, h5, h6, _⟩ => by rw [hal i2 (ok.x i2 h5).1] at h6; cases h6)
        simpa [h1, h2] using this
      rw [e1, e2]
    subst hEq
    exact hwp

/-- THE LAW, a new block among the operations ('alloc'). -/
theorem wpIn_flow_new {Q : Exit → Act → World → Prop} {id : Nat} {a0 : Act} {w V0 : World} {oj : Oper} {dj : Tmp} (stages : List (List Bool × Nat)) (fin em : List Bool) (j : Nat) (fv : Nat → Value) (ty : TypeId) (cs : Array Value)
    (hm : P.follows .mixedOrders = true) (hB : ((flowB l (xsOf stages fin) (stages.map (·.2)) (idxs 0 em) j && stages.all (fun p => decide (p.1.length ≤ l.length)) && decide (fin.length ≤ l.length) && decide (em.length ≤ l.length)) && decide (j < l.length)) = true)
    (hs : slotsM l a0.tmps.size = true) (hV : Below V0.heap.size V0 w.drew) (hoj : l[j]? = some oj) (hdj : oj.dst = some dj) (hgj : oj.guard = none) (hab : ∀ ρ W, oj.about P W ρ = none)
    (hrun : ∀ ρ W, (execOp ρ oj).run P W = .ok (.value (fv W.heap.size)) (W.alloc (.cells cs ty)))
    (h : wpFlow F n P l (fun I V A => ∀ b W, Below V.heap.size V W → V0.heap.size ≤ b → Blk W b ty cs → (∀ p ∈ I, b < p.1 ∨ p.2 ≤ b) → wpT F n P l.toArray (Q .normal) (pickB l em) (A.put (some dj) (fv b)) W) stages fin [] V0 a0) : (Code.region id l.toArray true).wpIn F n P Q a0 w := by
  rw [Bool.and_eq_true, decide_eq_true_eq] at hB
  refine wpIn_region_flow stages fin em j dj fv ty cs hm hB.1 hs hV (fun _ => ⟨oj, hoj, hdj, hgj, hab, hrun⟩) ?_
  have e : tailF F n P l em j dj fv ty cs V0 (Q .normal) = fun I V A => ∀ b W, Below V.heap.size V W → V0.heap.size ≤ b → Blk W b ty cs → (∀ p ∈ I, b < p.1 ∨ p.2 ≤ b) → wpT F n P l.toArray (Q .normal) (pickB l em) (A.put (some dj) (fv b)) W := by
    funext I V A
    unfold tailF
    exact propext ⟨fun k b W h1 h2 h3 h4 => by have := k b W h1 (fun _ => ⟨h2, h3, h4⟩); rwa [if_pos hB.2] at this, fun k b W h1 h2 => by rw [if_pos hB.2]; exact k b W h1 (h2 hB.2).1 (h2 hB.2).2.1 (h2 hB.2).2.2⟩
  rw [e]
  exact h

/-- THE LAW, without a new block. -/
theorem wpIn_flow_old {Q : Exit → Act → World → Prop} {id : Nat} {a0 : Act} {w V0 : World} (stages : List (List Bool × Nat)) (fin em : List Bool)
    (hm : P.follows .mixedOrders = true) (hB : (flowB l (xsOf stages fin) (stages.map (·.2)) (idxs 0 em) l.length && stages.all (fun p => decide (p.1.length ≤ l.length)) && decide (fin.length ≤ l.length) && decide (em.length ≤ l.length)) = true)
    (hs : slotsM l a0.tmps.size = true) (hV : Below V0.heap.size V0 w.drew)
    (h : wpFlow F n P l (fun I V A => ∀ W, Below V.heap.size V W → wpT F n P l.toArray (Q .normal) (pickB l em) A W) stages fin [] V0 a0) : (Code.region id l.toArray true).wpIn F n P Q a0 w := by
  refine wpIn_region_flow stages fin em l.length 0 (fun _ => undef) 0 #[] hm hB hs hV (fun h => absurd h (Nat.lt_irrefl _)) ?_
  have e : tailF F n P l em l.length 0 (fun _ => undef) 0 #[] V0 (Q .normal) = fun I V A => ∀ W, Below V.heap.size V W → wpT F n P l.toArray (Q .normal) (pickB l em) A W := by
    funext I V A
    unfold tailF
    exact propext ⟨fun k W h1 => by have := k 0 W h1 (fun h => absurd h (Nat.lt_irrefl _)); rwa [if_neg (Nat.lt_irrefl _)] at this, fun k b W h1 _ => by rw [if_neg (Nat.lt_irrefl _)]; exact k W h1⟩
  rw [e]
  exact h
end
end Go.Proofs.YtahkjagjcogeiaaDoor
/- What lies in memory, block by block. -/
namespace Go.Proofs.YtahkjagjcogeiaaDoor
open Go.RowKit
set_option linter.unusedVariables false

/-- Below w's end all is as in w; and these blocks lie behind it. -/
def Lay (w W : World) (bs : List (Nat × TypeId × Array Value)) : Prop := Below w.heap.size w W ∧ ∀ b ∈ bs, w.heap.size ≤ b.1 ∧ Blk W b.1 b.2.1 b.2.2
section
variable {w W W' : World} {bs : List (Nat × TypeId × Array Value)}
theorem Lay.nil (w : World) : Lay w w [] := ⟨Below.refl _ _, fun b hb => by simp at hb⟩
theorem Lay.bel (h : Lay w W bs) : Below w.heap.size w W := h.1
theorem Lay.below (h : Lay w W bs) (hb : Below W.heap.size W W') : Lay w W' bs := ⟨h.1.trans (hb.mono h.1.size), fun b k => ⟨(h.2 b k).1, (h.2 b k).2.below hb (h.2 b k).2.lt⟩⟩
theorem Lay.blk (h : Lay w W bs) (i : Nat) {g : Nat} {t : TypeId} {cs : Array Value} (hi : bs[i]? = some (g, t, cs)) : Blk W g t cs := (h.2 _ (List.mem_of_getElem? hi)).2
theorem Lay.ge (h : Lay w W bs) (i : Nat) {g : Nat} {t : TypeId} {cs : Array Value} (hi : bs[i]? = some (g, t, cs)) : w.heap.size ≤ g := (h.2 _ (List.mem_of_getElem? hi)).1
theorem Lay.lt (h : Lay w W bs) (i : Nat) {g : Nat} {t : TypeId} {cs : Array Value} (hi : bs[i]? = some (g, t, cs)) : g < W.heap.size := (h.blk i hi).lt
theorem Lay.alloc (h : Lay w W bs) (t : TypeId) (cs : Array Value) : Lay w (W.alloc (.cells cs t)) (bs ++ [(W.heap.size, t, cs)]) := by
  have hb : Below W.heap.size W (W.alloc (.cells cs t)) := (Below.refl _ _).alloc (Nat.le_refl _) _
  refine ⟨(h.below hb).1, fun b k => ?_⟩
  rcases List.mem_append.1 k with k | k
  · exact (h.below hb).2 b k
  · obtain rfl := List.mem_singleton.1 k
    exact ⟨h.1.size, Blk.new W t cs⟩
/-- One more block that is known. -/
theorem Lay.add (h : Lay w W bs) {g : Nat} {t : TypeId} {cs : Array Value} (hg : w.heap.size ≤ g) (hb : Blk W g t cs) : Lay w W (bs ++ [(g, t, cs)]) := ⟨h.1, fun b k => by
  rcases List.mem_append.1 k with k | k
  · exact h.2 b k
  · obtain rfl := List.mem_singleton.1 k
    exact ⟨hg, hb⟩⟩
theorem Lay.sub (h : Lay w W bs) {bs' : List (Nat × TypeId × Array Value)} (hs : ∀ b ∈ bs', b ∈ bs) : Lay w W bs' := ⟨h.1, fun b k => h.2 b (hs b k)⟩
/-- A block turned. -/
theorem Lay.turn (h : Lay w W bs) {g : Nat} {t : TypeId} {cs : Array Value} (hk : ∀ i, i ≠ g → i < W.heap.size → W'.heap[i]? = W.heap[i]?) (hz : W.heap.size ≤ W'.heap.size) (hos : W'.os = W.os) (htp : W'.tape = W.tape) (hop : W'.output = W.output) (hg : w.heap.size ≤ g) (hb : Blk W' g t cs) {bs' : List (Nat × TypeId × Array Value)} (hs : ∀ b ∈ bs', (b ∈ bs ∧ b.1 ≠ g) ∨ b = (g, t, cs)) : Lay w W' bs' := by
  refine ⟨⟨hos.trans h.1.os, htp.trans h.1.tape, hop.trans h.1.output, Nat.le_trans h.1.size hz, fun i hi => (hk i (by omega) (Nat.lt_of_lt_of_le hi h.1.size)).trans (h.1.block i hi)⟩, fun b k => ?_⟩
  rcases hs b k with ⟨k1, k2⟩ | rfl
  · exact ⟨(h.2 b k1).1, (hk _ k2 (h.2 b k1).2.lt).trans (h.2 b k1).2⟩
  · exact ⟨hg, hb⟩
end
theorem Lay.setLast {w W : World} {bs : List (Nat × TypeId × Array Value)} {g : Nat} {t : TypeId} {cs : Array Value} (h : Lay w W (bs ++ [(g, t, cs)])) (hne : ∀ p ∈ bs, p.1 ≠ g) (k : Nat) (v : Value) : Lay w (W.setCell ⟨g, k, none⟩ v) (bs ++ [(g, t, cs.setIfInBounds k v)]) := by
  have hg := h.2 (g, t, cs) (by simp)
  refine ⟨h.1.setCell (p := ⟨g, k, none⟩) hg.1 v, fun b hb => ?_⟩
  rcases List.mem_append.1 hb with hb | hb
  · have := h.2 b (by simp [hb])
    exact ⟨this.1, this.2.far (p := ⟨g, k, none⟩) (hne b hb) v⟩
  · obtain rfl := List.mem_singleton.1 hb
    exact ⟨hg.1, hg.2.set_ k v⟩
theorem Lay.one (w : World) (t : TypeId) (X : Array Value) : Lay w (w.alloc (.cells X t)) [(w.heap.size, t, X)] := (Lay.nil w).alloc t X
theorem Lay.two (w : World) (t : TypeId) (X : Array Value) (t2 : TypeId) (X2 : Array Value) : Lay w ((w.alloc (.cells X t)).alloc (.cells X2 t2)) [(w.heap.size, t, X), (w.heap.size + 1, t2, X2)] := by
  have h := (Lay.one w t X).alloc t2 X2
  rwa [World.size_alloc] at h
theorem Lay.three (w : World) (t : TypeId) (X : Array Value) (t2 : TypeId) (X2 : Array Value) (t3 : TypeId) (X3 : Array Value) : Lay w (((w.alloc (.cells X t)).alloc (.cells X2 t2)).alloc (.cells X3 t3)) [(w.heap.size, t, X), (w.heap.size + 1, t2, X2), (w.heap.size + 1 + 1, t3, X3)] := by
  have h := (Lay.two w t X t2 X2).alloc t3 X3
  rwa [World.size_alloc, World.size_alloc] at h
theorem Lay.four (w : World) (t : TypeId) (X : Array Value) (t2 : TypeId) (X2 : Array Value) (t3 : TypeId) (X3 : Array Value) (t4 : TypeId) (X4 : Array Value) : Lay w ((((w.alloc (.cells X t)).alloc (.cells X2 t2)).alloc (.cells X3 t3)).alloc (.cells X4 t4)) [(w.heap.size, t, X), (w.heap.size + 1, t2, X2), (w.heap.size + 1 + 1, t3, X3), (w.heap.size + 1 + 1 + 1, t4, X4)] := by
  have h := (Lay.three w t X t2 X2 t3 X3).alloc t4 X4
  rwa [World.size_alloc, World.size_alloc, World.size_alloc] at h
theorem Lay.drewN {w W : World} {bs : List (Nat × TypeId × Array Value)} (h : Lay w W bs) (k : Nat) : Lay w (W.drewN k) bs := ⟨below_drewN h.1 k, h.2⟩

/-- A block of two cells written anew. -/
theorem ret2 {w W : World} {B g : Nat} {t : TypeId} {z0 z1 : Value} (R : Blk W g t #[z0, z1]) (L : Below B w W) (hg : B ≤ g) (v0 v1 : Value) :
    Blk ((W.setCell ⟨g, 0, none⟩ v0).setCell ⟨g, 1, none⟩ v1) g t #[v0, v1] ∧ Below B w ((W.setCell ⟨g, 0, none⟩ v0).setCell ⟨g, 1, none⟩ v1) :=
  ⟨(R.set_ 0 v0).set_ 1 v1, (L.setCell (p := ⟨g, 0, none⟩) hg _).setCell (p := ⟨g, 1, none⟩) hg _⟩
theorem ret6' {w W : World} {B g : Nat} {t : TypeId} {z0 z1 z2 z3 z4 z5 : Value} (R : Blk W g t #[z0, z1, z2, z3, z4, z5]) (L : Below B w W) (hg : B ≤ g) (v0 v1 v2 v3 v4 v5 : Value) :
    Blk ((((((W.setCell ⟨g, 0, none⟩ v0).setCell ⟨g, 1, none⟩ v1).setCell ⟨g, 2, none⟩ v2).setCell ⟨g, 3, none⟩ v3).setCell ⟨g, 4, none⟩ v4).setCell ⟨g, 5, none⟩ v5) g t #[v0, v1, v2, v3, v4, v5] ∧
    Below B w ((((((W.setCell ⟨g, 0, none⟩ v0).setCell ⟨g, 1, none⟩ v1).setCell ⟨g, 2, none⟩ v2).setCell ⟨g, 3, none⟩ v3).setCell ⟨g, 4, none⟩ v4).setCell ⟨g, 5, none⟩ v5) ∧
    W.grownBy ((((((W.setCell ⟨g, 0, none⟩ v0).setCell ⟨g, 1, none⟩ v1).setCell ⟨g, 2, none⟩ v2).setCell ⟨g, 3, none⟩ v3).setCell ⟨g, 4, none⟩ v4).setCell ⟨g, 5, none⟩ v5) (some g) := by
  refine ⟨(((((R.set_ 0 v0).set_ 1 v1).set_ 2 v2).set_ 3 v3).set_ 4 v4).set_ 5 v5, (((((L.setCell (p := ⟨g, 0, none⟩) hg _).setCell (p := ⟨g, 1, none⟩) hg _).setCell (p := ⟨g, 2, none⟩) hg _).setCell (p := ⟨g, 3, none⟩) hg _).setCell (p := ⟨g, 4, none⟩) hg _).setCell (p := ⟨g, 5, none⟩) hg _, ?_⟩
  exact grown_setCell (grown_setCell (grown_setCell (grown_setCell (grown_setCell (grown_setCell (grown_refl W (some g)) (p := ⟨g, 0, none⟩) (.inl rfl) v0) (p := ⟨g, 1, none⟩) (.inl rfl) v1) (p := ⟨g, 2, none⟩) (.inl rfl) v2) (p := ⟨g, 3, none⟩) (.inl rfl) v3) (p := ⟨g, 4, none⟩) (.inl rfl) v4) (p := ⟨g, 5, none⟩) (.inl rfl) v5
theorem ret4' {w W : World} {B g : Nat} {t : TypeId} {z0 z1 z2 z3 : Value} (R : Blk W g t #[z0, z1, z2, z3]) (L : Below B w W) (hg : B ≤ g) (v0 v1 v2 v3 : Value) :
    Blk ((((W.setCell ⟨g, 0, none⟩ v0).setCell ⟨g, 1, none⟩ v1).setCell ⟨g, 2, none⟩ v2).setCell ⟨g, 3, none⟩ v3) g t #[v0, v1, v2, v3] ∧ Below B w ((((W.setCell ⟨g, 0, none⟩ v0).setCell ⟨g, 1, none⟩ v1).setCell ⟨g, 2, none⟩ v2).setCell ⟨g, 3, none⟩ v3) ∧
    W.grownBy ((((W.setCell ⟨g, 0, none⟩ v0).setCell ⟨g, 1, none⟩ v1).setCell ⟨g, 2, none⟩ v2).setCell ⟨g, 3, none⟩ v3) (some g) := by
  refine ⟨(((R.set_ 0 v0).set_ 1 v1).set_ 2 v2).set_ 3 v3, (((L.setCell (p := ⟨g, 0, none⟩) hg _).setCell (p := ⟨g, 1, none⟩) hg _).setCell (p := ⟨g, 2, none⟩) hg _).setCell (p := ⟨g, 3, none⟩) hg _, ?_⟩
  exact grown_setCell (grown_setCell (grown_setCell (grown_setCell (grown_refl W (some g)) (p := ⟨g, 0, none⟩) (.inl rfl) v0) (p := ⟨g, 1, none⟩) (.inl rfl) v1) (p := ⟨g, 2, none⟩) (.inl rfl) v2) (p := ⟨g, 3, none⟩) (.inl rfl) v3
/-- A turn of another block: what reads ints, stays. -/
theorem ints_off {W W' : World} {n b : Nat} {A : Option Addr} {l : List Int} (h : IntsAt W W.heap.size A n l) (hne : ∀ a, A = some a → a.block ≠ b) (hg : W.grownBy W' (some b)) : IntsAt W' W'.heap.size A n l :=
  (Reads.grown h hg (Nat.le_refl _) (fun a ha e => hne a ha (Option.some.inj e))).more hg.size
theorem ints_up {W W' : World} {n : Nat} {A : Option Addr} {l : List Int} (h : IntsAt W W.heap.size A n l) (hb : Below W.heap.size W W') : IntsAt W' W'.heap.size A n l := (h.below hb).more hb.size
theorem ret2' {w W : World} {B g : Nat} {t : TypeId} {z0 z1 : Value} (R : Blk W g t #[z0, z1]) (L : Below B w W) (hg : B ≤ g) (v0 v1 : Value) :
    Blk ((W.setCell ⟨g, 0, none⟩ v0).setCell ⟨g, 1, none⟩ v1) g t #[v0, v1] ∧ Below B w ((W.setCell ⟨g, 0, none⟩ v0).setCell ⟨g, 1, none⟩ v1) ∧ W.grownBy ((W.setCell ⟨g, 0, none⟩ v0).setCell ⟨g, 1, none⟩ v1) (some g) :=
  ⟨(R.set_ 0 v0).set_ 1 v1, (L.setCell (p := ⟨g, 0, none⟩) hg _).setCell (p := ⟨g, 1, none⟩) hg _, grown_setCell (grown_setCell (grown_refl W (some g)) (p := ⟨g, 0, none⟩) (.inl rfl) v0) (p := ⟨g, 1, none⟩) (.inl rfl) v1⟩
theorem blk_ne {W : World} {g g' : Nat} {t t' : TypeId} {cs cs' : Array Value} (h : Blk W g t cs) (h' : Blk W g' t' cs') (ht : t ≠ t') : g ≠ g' := fun e => by
  subst e
  unfold Blk at h h'
  rw [h] at h'
  simp at h'
  exact ht h'.2
end Go.Proofs.YtahkjagjcogeiaaDoor
/- The answer's leads: where a link leads from a place, and what it costs. -/
namespace Go.Proofs.YtahkjagjcogeiaaDoor
open Go.RowKit Go.Shelf
set_option linter.unusedVariables false

/-- A price within its limits. -/
structure Cheap (p : Price) : Prop where
  pace : 0 ≤ p.pace ∧ p.pace ≤ 100
  up : 0 ≤ p.up ∧ p.up ≤ 100
  step : 0 ≤ p.step ∧ p.step ≤ 100

def leadsV (r : Option (Int × Cost)) : Value := match r with
  | some y => .tuple #[.int .i64 y.1, costV y.2, .bool true]
  | none => .tuple #[.int .i64 0, costV zeroC, .bool false]

set_option maxRecDepth 100000 in
set_option maxHeartbeats 8000000 in
theorem leads_skip (x : Link) (v : Int) (dk : Bool) (p : Price) (w : World) (hd : dk = true) (hst : 0 < x.steps) :
    CallsIn Fence.wide 9 Tryd.prog 112 #[.agg #[.int .i64 x.id, .int .i64 x.fr, .int .i64 x.to, .int .i64 x.steps, .int .i64 x.paces], .int .i64 v, .bool dk, .agg #[.int .i64 p.pace, .int .i64 p.up, .int .i64 p.step]] w fun e w' => e = .returned (.tuple #[.int .i64 0, .agg #[.int .i64 0, .int .i64 0, .int .i64 0, .int .i64 0], .bool false]) ∧ Below w.heap.size w w' := by
  subst hd
  refine callsIn_of_wp Tryd.func112 rfl trivial ?_ rfl
  simp only [Tryd.ntmps112, List.size_toArray, List.length_cons, List.length_nil, Nat.reduceAdd, Nat.reduceSub, Array.replicate_succ, Array.replicate_zero, List.push_toArray, List.append_toArray, List.nil_append, List.cons_append]
  gi_wp2
  exact bodyPost_ret (v := .tuple #[.int .i64 0, .agg #[.int .i64 0, .int .i64 0, .int .i64 0, .int .i64 0], .bool false]) (by simp [results, Tryd.results112, go_sem]) rfl ⟨rfl, (((Below.refl _ _).alloc (Nat.le_refl _) _).alloc (by simp) _).alloc (by simp; omega) _⟩
set_option maxRecDepth 100000 in
set_option maxHeartbeats 8000000 in
theorem leads_off (x : Link) (v : Int) (dk : Bool) (p : Price) (w : World) (hd : dk = false ∨ dk = true ∧ ¬ 0 < x.steps) (hf : (x.fr == v) = false) (ht : (x.to == v) = false) :
    CallsIn Fence.wide 9 Tryd.prog 112 #[.agg #[.int .i64 x.id, .int .i64 x.fr, .int .i64 x.to, .int .i64 x.steps, .int .i64 x.paces], .int .i64 v, .bool dk, .agg #[.int .i64 p.pace, .int .i64 p.up, .int .i64 p.step]] w fun e w' => e = .returned (.tuple #[.int .i64 0, .agg #[.int .i64 0, .int .i64 0, .int .i64 0, .int .i64 0], .bool false]) ∧ Below w.heap.size w w' := by
  rcases hd with rfl | ⟨rfl, hst⟩
  · refine callsIn_of_wp Tryd.func112 rfl trivial ?_ rfl
    simp only [Tryd.ntmps112, List.size_toArray, List.length_cons, List.length_nil, Nat.reduceAdd, Nat.reduceSub, Array.replicate_succ, Array.replicate_zero, List.push_toArray, List.append_toArray, List.nil_append, List.cons_append]
    gi_wp2
    exact bodyPost_ret (v := .tuple #[.int .i64 0, .agg #[.int .i64 0, .int .i64 0, .int .i64 0, .int .i64 0], .bool false]) (by simp [results, Tryd.results112, go_sem]) rfl ⟨rfl, (((Below.refl _ _).alloc (Nat.le_refl _) _).alloc (by simp) _).alloc (by simp; omega) _⟩
  · refine callsIn_of_wp Tryd.func112 rfl trivial ?_ rfl
    simp only [Tryd.ntmps112, List.size_toArray, List.length_cons, List.length_nil, Nat.reduceAdd, Nat.reduceSub, Array.replicate_succ, Array.replicate_zero, List.push_toArray, List.append_toArray, List.nil_append, List.cons_append]
    gi_wp2
    exact bodyPost_ret (v := .tuple #[.int .i64 0, .agg #[.int .i64 0, .int .i64 0, .int .i64 0, .int .i64 0], .bool false]) (by simp [results, Tryd.results112, go_sem]) rfl ⟨rfl, (((Below.refl _ _).alloc (Nat.le_refl _) _).alloc (by simp) _).alloc (by simp; omega) _⟩
set_option maxRecDepth 100000 in
set_option maxHeartbeats 8000000 in
theorem leads_up (x : Link) (v : Int) (dk : Bool) (p : Price) (w : World) (hd : dk = false ∨ dk = true ∧ ¬ 0 < x.steps) (hf : (x.fr == v) = true) (h1 : 0 ≤ x.paces * p.pace) (h2 : x.paces * p.pace ≤ 200000) (h3 : 0 ≤ x.steps * (p.up + p.step)) (h4 : x.steps * (p.up + p.step) ≤ 100000) (h5 : 0 ≤ x.steps * p.step) (h6 : x.steps * p.step ≤ 50000) (a1 : 0 ≤ p.up) (a2 : p.up ≤ 100) (a3 : 0 ≤ p.step) (a4 : p.step ≤ 100) :
    CallsIn Fence.wide 9 Tryd.prog 112 #[.agg #[.int .i64 x.id, .int .i64 x.fr, .int .i64 x.to, .int .i64 x.steps, .int .i64 x.paces], .int .i64 v, .bool dk, .agg #[.int .i64 p.pace, .int .i64 p.up, .int .i64 p.step]] w fun e w' => e = .returned (.tuple #[.int .i64 x.to, .agg #[.int .i64 (x.paces * p.pace + x.steps * (p.up + p.step)), .int .i64 x.steps, .int .i64 x.paces, .int .i64 1], .bool true]) ∧ Below w.heap.size w w' := by
  rcases hd with rfl | ⟨rfl, hst⟩
  · refine callsIn_of_wp Tryd.func112 rfl trivial ?_ rfl
    simp only [Tryd.ntmps112, List.size_toArray, List.length_cons, List.length_nil, Nat.reduceAdd, Nat.reduceSub, Array.replicate_succ, Array.replicate_zero, List.push_toArray, List.append_toArray, List.nil_append, List.cons_append]
    gi_wp2
    have HLay := Lib.hid (Lay.three w 45 #[.int .i64 x.id, .int .i64 x.fr, .int .i64 x.to, .int .i64 x.steps, .int .i64 x.paces] 107 #[.int .i64 p.pace, .int .i64 p.up, .int .i64 p.step] 103 #[.int .i64 0, .int .i64 0, .int .i64 0, .int .i64 0])
    generalize (((w.alloc (.cells #[.int .i64 x.id, .int .i64 x.fr, .int .i64 x.to, .int .i64 x.steps, .int .i64 x.paces] 45)).alloc (.cells #[.int .i64 p.pace, .int .i64 p.up, .int .i64 p.step] 107)).alloc (.cells #[.int .i64 0, .int .i64 0, .int .i64 0, .int .i64 0] 103)) = w0 at *
    refine wpIn_flow_old [] [true, true, true, true, true, true, true, true, true, true, true, true, true, true, true, true, true, true, true, true, true, true, false, true] [false, false, false, false, false, false, false, false, false, false, false, false, false, false, false, false, false, false, false, false, false, false, true] (by kernel_rfl) (by kernel_rfl) (by kernel_rfl) (below_drewN (Below.refl _ _) 1) ?_
    refine wpFlow_nil (A := ?AF1) ?hq1 ?_
    case hq1 =>
      rintro σ hσ of hof hcl
      have HOF := Lib.hid hof
      have HCL := Lib.hid hcl
      clear hof hcl
      have c0_ : ∀ z, (of z).cell? ⟨w.heap.size, 0, none⟩ = some (.int .i64 x.id) := fun z => ((HLay.out.below (HOF.out z)).blk 0 rfl).cell 0
      have c1_ : ∀ z, (of z).cell? ⟨w.heap.size, 1, none⟩ = some (.int .i64 x.fr) := fun z => ((HLay.out.below (HOF.out z)).blk 0 rfl).cell 1
      have c2_ : ∀ z, (of z).cell? ⟨w.heap.size, 2, none⟩ = some (.int .i64 x.to) := fun z => ((HLay.out.below (HOF.out z)).blk 0 rfl).cell 2
      have c3_ : ∀ z, (of z).cell? ⟨w.heap.size, 3, none⟩ = some (.int .i64 x.steps) := fun z => ((HLay.out.below (HOF.out z)).blk 0 rfl).cell 3
      have c4_ : ∀ z, (of z).cell? ⟨w.heap.size, 4, none⟩ = some (.int .i64 x.paces) := fun z => ((HLay.out.below (HOF.out z)).blk 0 rfl).cell 4
      have c5_ : ∀ z, (of z).cell? ⟨w.heap.size + 1, 0, none⟩ = some (.int .i64 p.pace) := fun z => ((HLay.out.below (HOF.out z)).blk 1 rfl).cell 0
      have c6_ : ∀ z, (of z).cell? ⟨w.heap.size + 1, 1, none⟩ = some (.int .i64 p.up) := fun z => ((HLay.out.below (HOF.out z)).blk 1 rfl).cell 1
      have c7_ : ∀ z, (of z).cell? ⟨w.heap.size + 1, 2, none⟩ = some (.int .i64 p.step) := fun z => ((HLay.out.below (HOF.out z)).blk 1 rfl).cell 2
      have hfw : ∀ f, Fence.wide.fn f := fun _ => trivial
      simp only [pickB]
      repeat (gi_big_quiet_step (fail))
      refine wpQuietIn_nil ?_
      exact rfl
    intro W1 hW
    replace HLay := Lib.hid (HLay.out.below hW)
    clear hW
    simp only [pickB]
    have x2_0 := (HLay.out.blk 2 rfl).cell 0
    have z2_0 := (HLay.out.blk 2 rfl).frozen 0
    have x2_1 := (HLay.out.blk 2 rfl).cell 1
    have z2_1 := (HLay.out.blk 2 rfl).frozen 1
    have x2_2 := (HLay.out.blk 2 rfl).cell 2
    have z2_2 := (HLay.out.blk 2 rfl).frozen 2
    have x2_3 := (HLay.out.blk 2 rfl).cell 3
    have z2_3 := (HLay.out.blk 2 rfl).frozen 3
    have l2_ := HLay.out.lt 2 rfl
    refine wpT_cons ?_
    gi_wp2
    refine wpT_nil ?_
    clear x2_0 z2_0 x2_1 z2_1 x2_2 z2_2 x2_3 z2_3 l2_
    have R1 := ret4' (HLay.out.blk 2 rfl) HLay.out.1 (by omega) (.int .i64 (x.paces * p.pace + x.steps * (p.up + p.step))) (.int .i64 (x.steps)) (.int .i64 (x.paces)) (.int .i64 (1))
    have y0 := R1.1.cell 0
    have y1 := R1.1.cell 1
    have y2 := R1.1.cell 2
    have y3 := R1.1.cell 3
    gi_wp2
    exact bodyPost_ret (v := .tuple #[.int .i64 x.to, .agg #[.int .i64 (x.paces * p.pace + x.steps * (p.up + p.step)), .int .i64 (x.steps), .int .i64 (x.paces), .int .i64 (1)], .bool true]) (by simp [results, Tryd.results112, go_sem, y0, y1, y2, y3]) rfl ⟨rfl, R1.2.1⟩
  · refine callsIn_of_wp Tryd.func112 rfl trivial ?_ rfl
    simp only [Tryd.ntmps112, List.size_toArray, List.length_cons, List.length_nil, Nat.reduceAdd, Nat.reduceSub, Array.replicate_succ, Array.replicate_zero, List.push_toArray, List.append_toArray, List.nil_append, List.cons_append]
    gi_wp2
    have HLay := Lib.hid (Lay.three w 45 #[.int .i64 x.id, .int .i64 x.fr, .int .i64 x.to, .int .i64 x.steps, .int .i64 x.paces] 107 #[.int .i64 p.pace, .int .i64 p.up, .int .i64 p.step] 103 #[.int .i64 0, .int .i64 0, .int .i64 0, .int .i64 0])
    generalize (((w.alloc (.cells #[.int .i64 x.id, .int .i64 x.fr, .int .i64 x.to, .int .i64 x.steps, .int .i64 x.paces] 45)).alloc (.cells #[.int .i64 p.pace, .int .i64 p.up, .int .i64 p.step] 107)).alloc (.cells #[.int .i64 0, .int .i64 0, .int .i64 0, .int .i64 0] 103)) = w0 at *
    refine wpIn_flow_old [] [true, true, true, true, true, true, true, true, true, true, true, true, true, true, true, true, true, true, true, true, true, true, false, true] [false, false, false, false, false, false, false, false, false, false, false, false, false, false, false, false, false, false, false, false, false, false, true] (by kernel_rfl) (by kernel_rfl) (by kernel_rfl) (below_drewN (Below.refl _ _) 1) ?_
    refine wpFlow_nil (A := ?AF2) ?hq2 ?_
    case hq2 =>
      rintro σ hσ of hof hcl
      have HOF := Lib.hid hof
      have HCL := Lib.hid hcl
      clear hof hcl
      have c0_ : ∀ z, (of z).cell? ⟨w.heap.size, 0, none⟩ = some (.int .i64 x.id) := fun z => ((HLay.out.below (HOF.out z)).blk 0 rfl).cell 0
      have c1_ : ∀ z, (of z).cell? ⟨w.heap.size, 1, none⟩ = some (.int .i64 x.fr) := fun z => ((HLay.out.below (HOF.out z)).blk 0 rfl).cell 1
      have c2_ : ∀ z, (of z).cell? ⟨w.heap.size, 2, none⟩ = some (.int .i64 x.to) := fun z => ((HLay.out.below (HOF.out z)).blk 0 rfl).cell 2
      have c3_ : ∀ z, (of z).cell? ⟨w.heap.size, 3, none⟩ = some (.int .i64 x.steps) := fun z => ((HLay.out.below (HOF.out z)).blk 0 rfl).cell 3
      have c4_ : ∀ z, (of z).cell? ⟨w.heap.size, 4, none⟩ = some (.int .i64 x.paces) := fun z => ((HLay.out.below (HOF.out z)).blk 0 rfl).cell 4
      have c5_ : ∀ z, (of z).cell? ⟨w.heap.size + 1, 0, none⟩ = some (.int .i64 p.pace) := fun z => ((HLay.out.below (HOF.out z)).blk 1 rfl).cell 0
      have c6_ : ∀ z, (of z).cell? ⟨w.heap.size + 1, 1, none⟩ = some (.int .i64 p.up) := fun z => ((HLay.out.below (HOF.out z)).blk 1 rfl).cell 1
      have c7_ : ∀ z, (of z).cell? ⟨w.heap.size + 1, 2, none⟩ = some (.int .i64 p.step) := fun z => ((HLay.out.below (HOF.out z)).blk 1 rfl).cell 2
      have hfw : ∀ f, Fence.wide.fn f := fun _ => trivial
      simp only [pickB]
      repeat (gi_big_quiet_step (fail))
      refine wpQuietIn_nil ?_
      exact rfl
    intro W1 hW
    replace HLay := Lib.hid (HLay.out.below hW)
    clear hW
    simp only [pickB]
    have x2_0 := (HLay.out.blk 2 rfl).cell 0
    have z2_0 := (HLay.out.blk 2 rfl).frozen 0
    have x2_1 := (HLay.out.blk 2 rfl).cell 1
    have z2_1 := (HLay.out.blk 2 rfl).frozen 1
    have x2_2 := (HLay.out.blk 2 rfl).cell 2
    have z2_2 := (HLay.out.blk 2 rfl).frozen 2
    have x2_3 := (HLay.out.blk 2 rfl).cell 3
    have z2_3 := (HLay.out.blk 2 rfl).frozen 3
    have l2_ := HLay.out.lt 2 rfl
    refine wpT_cons ?_
    gi_wp2
    refine wpT_nil ?_
    clear x2_0 z2_0 x2_1 z2_1 x2_2 z2_2 x2_3 z2_3 l2_
    have R1 := ret4' (HLay.out.blk 2 rfl) HLay.out.1 (by omega) (.int .i64 (x.paces * p.pace + x.steps * (p.up + p.step))) (.int .i64 (x.steps)) (.int .i64 (x.paces)) (.int .i64 (1))
    have y0 := R1.1.cell 0
    have y1 := R1.1.cell 1
    have y2 := R1.1.cell 2
    have y3 := R1.1.cell 3
    gi_wp2
    exact bodyPost_ret (v := .tuple #[.int .i64 x.to, .agg #[.int .i64 (x.paces * p.pace + x.steps * (p.up + p.step)), .int .i64 (x.steps), .int .i64 (x.paces), .int .i64 (1)], .bool true]) (by simp [results, Tryd.results112, go_sem, y0, y1, y2, y3]) rfl ⟨rfl, R1.2.1⟩
set_option maxRecDepth 100000 in
set_option maxHeartbeats 8000000 in
theorem leads_down (x : Link) (v : Int) (dk : Bool) (p : Price) (w : World) (hd : dk = false ∨ dk = true ∧ ¬ 0 < x.steps) (hf : (x.fr == v) = false) (ht : (x.to == v) = true) (h1 : 0 ≤ x.paces * p.pace) (h2 : x.paces * p.pace ≤ 200000) (h3 : 0 ≤ x.steps * (p.up + p.step)) (h4 : x.steps * (p.up + p.step) ≤ 100000) (h5 : 0 ≤ x.steps * p.step) (h6 : x.steps * p.step ≤ 50000) (a1 : 0 ≤ p.up) (a2 : p.up ≤ 100) (a3 : 0 ≤ p.step) (a4 : p.step ≤ 100) :
    CallsIn Fence.wide 9 Tryd.prog 112 #[.agg #[.int .i64 x.id, .int .i64 x.fr, .int .i64 x.to, .int .i64 x.steps, .int .i64 x.paces], .int .i64 v, .bool dk, .agg #[.int .i64 p.pace, .int .i64 p.up, .int .i64 p.step]] w fun e w' => e = .returned (.tuple #[.int .i64 x.fr, .agg #[.int .i64 (x.paces * p.pace + x.steps * p.step), .int .i64 0, .int .i64 x.paces, .int .i64 1], .bool true]) ∧ Below w.heap.size w w' := by
  rcases hd with rfl | ⟨rfl, hst⟩
  · refine callsIn_of_wp Tryd.func112 rfl trivial ?_ rfl
    simp only [Tryd.ntmps112, List.size_toArray, List.length_cons, List.length_nil, Nat.reduceAdd, Nat.reduceSub, Array.replicate_succ, Array.replicate_zero, List.push_toArray, List.append_toArray, List.nil_append, List.cons_append]
    gi_wp2
    have HLay := Lib.hid (Lay.three w 45 #[.int .i64 x.id, .int .i64 x.fr, .int .i64 x.to, .int .i64 x.steps, .int .i64 x.paces] 107 #[.int .i64 p.pace, .int .i64 p.up, .int .i64 p.step] 103 #[.int .i64 0, .int .i64 0, .int .i64 0, .int .i64 0])
    generalize (((w.alloc (.cells #[.int .i64 x.id, .int .i64 x.fr, .int .i64 x.to, .int .i64 x.steps, .int .i64 x.paces] 45)).alloc (.cells #[.int .i64 p.pace, .int .i64 p.up, .int .i64 p.step] 107)).alloc (.cells #[.int .i64 0, .int .i64 0, .int .i64 0, .int .i64 0] 103)) = w0 at *
    refine wpIn_flow_old [] [true, true, true, true, true, true, true, true, true, true, true, true, true, true, true, true, true, false, true] [false, false, false, false, false, false, false, false, false, false, false, false, false, false, false, false, false, true] (by kernel_rfl) (by kernel_rfl) (by kernel_rfl) (below_drewN (Below.refl _ _) 1) ?_
    refine wpFlow_nil (A := ?AF1) ?hq1 ?_
    case hq1 =>
      rintro σ hσ of hof hcl
      have HOF := Lib.hid hof
      have HCL := Lib.hid hcl
      clear hof hcl
      have c0_ : ∀ z, (of z).cell? ⟨w.heap.size, 0, none⟩ = some (.int .i64 x.id) := fun z => ((HLay.out.below (HOF.out z)).blk 0 rfl).cell 0
      have c1_ : ∀ z, (of z).cell? ⟨w.heap.size, 1, none⟩ = some (.int .i64 x.fr) := fun z => ((HLay.out.below (HOF.out z)).blk 0 rfl).cell 1
      have c2_ : ∀ z, (of z).cell? ⟨w.heap.size, 2, none⟩ = some (.int .i64 x.to) := fun z => ((HLay.out.below (HOF.out z)).blk 0 rfl).cell 2
      have c3_ : ∀ z, (of z).cell? ⟨w.heap.size, 3, none⟩ = some (.int .i64 x.steps) := fun z => ((HLay.out.below (HOF.out z)).blk 0 rfl).cell 3
      have c4_ : ∀ z, (of z).cell? ⟨w.heap.size, 4, none⟩ = some (.int .i64 x.paces) := fun z => ((HLay.out.below (HOF.out z)).blk 0 rfl).cell 4
      have c5_ : ∀ z, (of z).cell? ⟨w.heap.size + 1, 0, none⟩ = some (.int .i64 p.pace) := fun z => ((HLay.out.below (HOF.out z)).blk 1 rfl).cell 0
      have c6_ : ∀ z, (of z).cell? ⟨w.heap.size + 1, 1, none⟩ = some (.int .i64 p.up) := fun z => ((HLay.out.below (HOF.out z)).blk 1 rfl).cell 1
      have c7_ : ∀ z, (of z).cell? ⟨w.heap.size + 1, 2, none⟩ = some (.int .i64 p.step) := fun z => ((HLay.out.below (HOF.out z)).blk 1 rfl).cell 2
      have hfw : ∀ f, Fence.wide.fn f := fun _ => trivial
      simp only [pickB]
      repeat (gi_big_quiet_step (fail))
      refine wpQuietIn_nil ?_
      exact rfl
    intro W1 hW
    replace HLay := Lib.hid (HLay.out.below hW)
    clear hW
    simp only [pickB]
    have x2_0 := (HLay.out.blk 2 rfl).cell 0
    have z2_0 := (HLay.out.blk 2 rfl).frozen 0
    have x2_1 := (HLay.out.blk 2 rfl).cell 1
    have z2_1 := (HLay.out.blk 2 rfl).frozen 1
    have x2_2 := (HLay.out.blk 2 rfl).cell 2
    have z2_2 := (HLay.out.blk 2 rfl).frozen 2
    have x2_3 := (HLay.out.blk 2 rfl).cell 3
    have z2_3 := (HLay.out.blk 2 rfl).frozen 3
    have l2_ := HLay.out.lt 2 rfl
    refine wpT_cons ?_
    gi_wp2
    refine wpT_nil ?_
    clear x2_0 z2_0 x2_1 z2_1 x2_2 z2_2 x2_3 z2_3 l2_
    have R1 := ret4' (HLay.out.blk 2 rfl) HLay.out.1 (by omega) (.int .i64 (x.paces * p.pace + x.steps * p.step)) (.int .i64 (0)) (.int .i64 (x.paces)) (.int .i64 (1))
    have y0 := R1.1.cell 0
    have y1 := R1.1.cell 1
    have y2 := R1.1.cell 2
    have y3 := R1.1.cell 3
    gi_wp2
    exact bodyPost_ret (v := .tuple #[.int .i64 x.fr, .agg #[.int .i64 (x.paces * p.pace + x.steps * p.step), .int .i64 (0), .int .i64 (x.paces), .int .i64 (1)], .bool true]) (by simp [results, Tryd.results112, go_sem, y0, y1, y2, y3]) rfl ⟨rfl, R1.2.1⟩
  · refine callsIn_of_wp Tryd.func112 rfl trivial ?_ rfl
    simp only [Tryd.ntmps112, List.size_toArray, List.length_cons, List.length_nil, Nat.reduceAdd, Nat.reduceSub, Array.replicate_succ, Array.replicate_zero, List.push_toArray, List.append_toArray, List.nil_append, List.cons_append]
    gi_wp2
    have HLay := Lib.hid (Lay.three w 45 #[.int .i64 x.id, .int .i64 x.fr, .int .i64 x.to, .int .i64 x.steps, .int .i64 x.paces] 107 #[.int .i64 p.pace, .int .i64 p.up, .int .i64 p.step] 103 #[.int .i64 0, .int .i64 0, .int .i64 0, .int .i64 0])
    generalize (((w.alloc (.cells #[.int .i64 x.id, .int .i64 x.fr, .int .i64 x.to, .int .i64 x.steps, .int .i64 x.paces] 45)).alloc (.cells #[.int .i64 p.pace, .int .i64 p.up, .int .i64 p.step] 107)).alloc (.cells #[.int .i64 0, .int .i64 0, .int .i64 0, .int .i64 0] 103)) = w0 at *
    refine wpIn_flow_old [] [true, true, true, true, true, true, true, true, true, true, true, true, true, true, true, true, true, false, true] [false, false, false, false, false, false, false, false, false, false, false, false, false, false, false, false, false, true] (by kernel_rfl) (by kernel_rfl) (by kernel_rfl) (below_drewN (Below.refl _ _) 1) ?_
    refine wpFlow_nil (A := ?AF2) ?hq2 ?_
    case hq2 =>
      rintro σ hσ of hof hcl
      have HOF := Lib.hid hof
      have HCL := Lib.hid hcl
      clear hof hcl
      have c0_ : ∀ z, (of z).cell? ⟨w.heap.size, 0, none⟩ = some (.int .i64 x.id) := fun z => ((HLay.out.below (HOF.out z)).blk 0 rfl).cell 0
      have c1_ : ∀ z, (of z).cell? ⟨w.heap.size, 1, none⟩ = some (.int .i64 x.fr) := fun z => ((HLay.out.below (HOF.out z)).blk 0 rfl).cell 1
      have c2_ : ∀ z, (of z).cell? ⟨w.heap.size, 2, none⟩ = some (.int .i64 x.to) := fun z => ((HLay.out.below (HOF.out z)).blk 0 rfl).cell 2
      have c3_ : ∀ z, (of z).cell? ⟨w.heap.size, 3, none⟩ = some (.int .i64 x.steps) := fun z => ((HLay.out.below (HOF.out z)).blk 0 rfl).cell 3
      have c4_ : ∀ z, (of z).cell? ⟨w.heap.size, 4, none⟩ = some (.int .i64 x.paces) := fun z => ((HLay.out.below (HOF.out z)).blk 0 rfl).cell 4
      have c5_ : ∀ z, (of z).cell? ⟨w.heap.size + 1, 0, none⟩ = some (.int .i64 p.pace) := fun z => ((HLay.out.below (HOF.out z)).blk 1 rfl).cell 0
      have c6_ : ∀ z, (of z).cell? ⟨w.heap.size + 1, 1, none⟩ = some (.int .i64 p.up) := fun z => ((HLay.out.below (HOF.out z)).blk 1 rfl).cell 1
      have c7_ : ∀ z, (of z).cell? ⟨w.heap.size + 1, 2, none⟩ = some (.int .i64 p.step) := fun z => ((HLay.out.below (HOF.out z)).blk 1 rfl).cell 2
      have hfw : ∀ f, Fence.wide.fn f := fun _ => trivial
      simp only [pickB]
      repeat (gi_big_quiet_step (fail))
      refine wpQuietIn_nil ?_
      exact rfl
    intro W1 hW
    replace HLay := Lib.hid (HLay.out.below hW)
    clear hW
    simp only [pickB]
    have x2_0 := (HLay.out.blk 2 rfl).cell 0
    have z2_0 := (HLay.out.blk 2 rfl).frozen 0
    have x2_1 := (HLay.out.blk 2 rfl).cell 1
    have z2_1 := (HLay.out.blk 2 rfl).frozen 1
    have x2_2 := (HLay.out.blk 2 rfl).cell 2
    have z2_2 := (HLay.out.blk 2 rfl).frozen 2
    have x2_3 := (HLay.out.blk 2 rfl).cell 3
    have z2_3 := (HLay.out.blk 2 rfl).frozen 3
    have l2_ := HLay.out.lt 2 rfl
    refine wpT_cons ?_
    gi_wp2
    refine wpT_nil ?_
    clear x2_0 z2_0 x2_1 z2_1 x2_2 z2_2 x2_3 z2_3 l2_
    have R1 := ret4' (HLay.out.blk 2 rfl) HLay.out.1 (by omega) (.int .i64 (x.paces * p.pace + x.steps * p.step)) (.int .i64 (0)) (.int .i64 (x.paces)) (.int .i64 (1))
    have y0 := R1.1.cell 0
    have y1 := R1.1.cell 1
    have y2 := R1.1.cell 2
    have y3 := R1.1.cell 3
    gi_wp2
    exact bodyPost_ret (v := .tuple #[.int .i64 x.fr, .agg #[.int .i64 (x.paces * p.pace + x.steps * p.step), .int .i64 (0), .int .i64 (x.paces), .int .i64 (1)], .bool true]) (by simp [results, Tryd.results112, go_sem, y0, y1, y2, y3]) rfl ⟨rfl, R1.2.1⟩

theorem leads_any (x : Link) (v : Int) (dk : Bool) (p : Price) (w : World) (hx : Fit x) (hp : Cheap p) :
    Calls Tryd.prog 112 #[.agg #[.int .i64 x.id, .int .i64 x.fr, .int .i64 x.to, .int .i64 x.steps, .int .i64 x.paces], .int .i64 v, .bool dk, .agg #[.int .i64 p.pace, .int .i64 p.up, .int .i64 p.step]] w fun e w' => e = .returned (leadsV (leads dk p x v)) ∧ Below w.heap.size w w' := by
  obtain ⟨m1, m2⟩ := mul_fits (m := 2000) (n := 100) (show 0 ≤ x.paces ∧ x.paces ≤ 2000 from ⟨by have := hx.paces; omega, hx.paces.2⟩) hp.pace
  obtain ⟨m3, m4⟩ := mul_fits (m := 500) (n := 200) hx.steps (show 0 ≤ p.up + p.step ∧ p.up + p.step ≤ 200 from ⟨by have := hp.up; have := hp.step; omega, by have := hp.up; have := hp.step; omega⟩)
  obtain ⟨m5, m6⟩ := mul_fits (m := 500) (n := 100) hx.steps hp.step
  obtain ⟨a1, a2⟩ := hp.up
  obtain ⟨a3, a4⟩ := hp.step
  by_cases hskip : dk = true ∧ 0 < x.steps
  · have hl : leads dk p x v = none := by unfold leads; rw [if_pos hskip]
    rw [hl]
    exact callsIn_wide.1 (leads_skip x v dk p w hskip.1 hskip.2)
  · have hd : dk = false ∨ dk = true ∧ ¬ 0 < x.steps := by cases dk <;> simp_all
    have hl : leads dk p x v = if x.fr = v then some (x.to, ⟨x.paces * p.pace + x.steps * (p.up + p.step), x.steps, x.paces, 1⟩) else if x.to = v then some (x.fr, ⟨x.paces * p.pace + x.steps * p.step, 0, x.paces, 1⟩) else none := by unfold leads; rw [if_neg hskip]
    rw [hl]
    by_cases hfr : x.fr = v
    · rw [if_pos hfr]
      exact callsIn_wide.1 (leads_up x v dk p w hd (by simpa using hfr) m1 (by omega) m3 (by omega) m5 (by omega) a1 a2 a3 a4)
    · rw [if_neg hfr]
      by_cases hto : x.to = v
      · rw [if_pos hto]
        exact callsIn_wide.1 (leads_down x v dk p w hd (by simpa using hfr) (by simpa using hto) m1 (by omega) m3 (by omega) m5 (by omega) a1 a2 a3 a4)
      · rw [if_neg hto]
        exact callsIn_wide.1 (leads_off x v dk p w hd (by simpa using hfr) (by simpa using hto))
end Go.Proofs.YtahkjagjcogeiaaDoor
/- A function that holds loops over functions, one behind another or in a loop, leaves with many marks among its deferred calls: each is shut, no call is made. -/
namespace Go.Proofs.YtahkjagjcogeiaaDoor
open Go.RowKit
set_option linter.unusedVariables false

/-- The marks: blocks of deferred calls without a call, at or above B, each but once. -/
def Marks (B : Nat) (w : World) : List Deferred → Prop
  | [] => True
  | d :: ds => (∃ r, B ≤ r ∧ d.target = .collected r ∧ w.heap[r]? = some (.deferred (some [])) ∧ ∀ d' ∈ ds, d'.target ≠ .collected r) ∧ Marks B w ds

theorem Marks.keep {B : Nat} {w w' : World} : ∀ {ds : List Deferred}, Marks B w ds → (∀ d ∈ ds, ∀ r, d.target = .collected r → w.heap[r]? = some (.deferred (some [])) → w'.heap[r]? = some (.deferred (some []))) → Marks B w' ds
  | [], _, _ => trivial
  | d :: ds, ⟨⟨r, h1, h2, h3, h4⟩, h5⟩, hk => ⟨⟨r, h1, h2, hk d (by simp) r h2 h3, h4⟩, Marks.keep h5 fun d' hd => hk d' (by simp [hd])⟩
theorem Marks.lt {B : Nat} {w : World} : ∀ {ds : List Deferred}, Marks B w ds → ∀ d ∈ ds, ∀ r, d.target = .collected r → r < w.heap.size
  | d :: ds, ⟨⟨r', h1, h2, h3, h4⟩, h5⟩, x, hx, r, hr => by
    rcases List.mem_cons.1 hx with rfl | hx
    · rw [h2] at hr
      cases hr
      exact (Array.getElem?_eq_some_iff.1 h3).1
    · exact Marks.lt h5 x hx r hr
theorem Marks.below {B : Nat} {w w' : World} {ds : List Deferred} (h : Marks B w ds) (hb : Below w.heap.size w w') : Marks B w' ds :=
  h.keep fun d hd r hr h0 => (hb.block r (h.lt d hd r hr)).trans h0
theorem Marks.more {B : Nat} {w : World} {ds : List Deferred} {D : Nat} (h : Marks B w ds) (hD : B ≤ D) (hd : w.heap[D]? = some (.deferred (some []))) (hn : ∀ d ∈ ds, ∀ r, d.target = .collected r → r < D) (a : Array Value) : Marks B w ({ target := .collected D, args := a } :: ds) :=
  ⟨⟨D, hD, rfl, hd, fun d' hd' e => absurd (hn d' hd' D e) (by omega)⟩, h⟩

/-- What shutting the marks leaves. -/
structure Shut (B : Nat) (w w' : World) : Prop where
  below : Below B w w'
  cells : ∀ (b : Nat) cs t fr, w.heap[b]? = some (.cells cs t fr) → w'.heap[b]? = some (.cells cs t fr)
theorem Shut.refl (B : Nat) (w : World) : Shut B w w := ⟨Below.refl _ _, fun _ _ _ _ h => h⟩
theorem Shut.trans {B : Nat} {w w' w'' : World} (h : Shut B w w') (k : Shut B w' w'') : Shut B w w'' := ⟨h.below.trans k.below, fun b cs t fr e => k.cells b cs t fr (h.cells b cs t fr e)⟩
theorem Shut.blk {B g : Nat} {w w' : World} {t : TypeId} {cs : Array Value} (h : Shut B w w') (b : Blk w g t cs) : Blk w' g t cs := h.cells _ _ _ _ b

theorem shut_put {B r : Nat} {w : World} (hB : B ≤ r) (h : w.heap[r]? = some (.deferred (some []))) : Shut B w (w.putObj r (.deferred none)) := by
  have hlt := (Array.getElem?_eq_some_iff.1 h).1
  refine ⟨(Below.refl B w).grown (grownBy_putObj' w r (.deferred none)) (by omega) (fun k e => by cases e; exact hB), fun b cs t fr e => ?_⟩
  have hne : b ≠ r := by
    intro e'
    subst e'
    rw [h] at e
    cases e
  exact (World.putObj_heap_other hne).trans e

theorem leaves_marks {F : Fence} {n : Nat} {P : Program} {fn : Func} {tmps : Array Value} {R : Ending → World → Prop} {B : Nat} : ∀ (ds : List Deferred) (w : World), Marks B w ds →
    (∀ w', Shut B w w' → LeavesIn F n P fn tmps R [] .returning w') → LeavesInM F n P fn tmps R ds .returning w
  | [], w, _, h => h w (Shut.refl _ _)
  | d :: ds, w, ⟨⟨r, h1, h2, h3, h4⟩, h5⟩, h => by
    refine ⟨by simp, .inl ⟨r, _, h2, run_takeDeferred h3, ?_⟩⟩
    refine leaves_marks ds _ (h5.keep fun d' hd r' hr h0 => ?_) (fun w' hs => h w' ((shut_put h1 h3).trans hs))
    have hne : r' ≠ r := by
      intro e
      subst e
      exact h4 d' hd hr
    exact (World.putObj_heap_other hne).trans h0
end Go.Proofs.YtahkjagjcogeiaaDoor
/- What a loop over a function turns by itself: an invariant on cells, and on what lay ahead of the loop, abides it. -/
namespace Go.Proofs.YtahkjagjcogeiaaDoor
open Go.RowKit Go.Shelf
set_option linter.unusedVariables false

theorem shut_of_grown {B : Nat} {W W' : World} {row : Option Nat} (hg : W.grownBy W' row) (hr : ∀ r, row = some r → B ≤ r ∧ ∃ o : Obj, W.heap[r]? = some o ∧ o.isCells = false) (hB : B ≤ W.heap.size) : Shut B W W' := by
  refine ⟨(Below.refl B W).grown hg hB (fun k e => (hr k e).1), fun b cs t fr h => ?_⟩
  have hlt := (Array.getElem?_eq_some_iff.1 h).1
  refine (hg.block b hlt ?_).trans h
  intro e
  obtain ⟨_, o, ho, hc⟩ := hr b e.symm
  rw [h] at ho
  cases ho
  simp [Obj.isCells] at hc
theorem ownFrom_shut {β : Type} {B : Nat} {I : β → World → Prop} (hB : ∀ s W, I s W → B ≤ W.heap.size) (h : ∀ s W W', I s W → Shut B W W' → I s W') : OwnFrom B I :=
  fun s W W' row hs hg hr => h s W W' hs (shut_of_grown hg hr (hB s W hs))
theorem abides_shut {β : Type} {B : Nat} {I : β → World → Prop} (hB : ∀ s W, I s W → B ≤ W.heap.size) (h : ∀ s W W', I s W → Shut B W W' → I s W') : AbidesFrom B I :=
  fun s W W' row hs hg hr => h s W W' hs (shut_of_grown hg (fun r e => by obtain ⟨h1, o, h2, h3⟩ := hr r e; exact ⟨h1, o, h2, Obj.not_cells_of_walk h3⟩) (hB s W hs))
theorem Shut.mono {B B' : Nat} {W W' : World} (h : Shut B W W') (hB : B' ≤ B) : Shut B' W W' := ⟨h.below.mono hB, h.cells⟩
/-- The marks lie ahead of the loop. -/
theorem Marks.shut {B S : Nat} {W W' : World} {ds : List Deferred} (h : Marks B W ds) (hs : Shut S W W') (hlt : ∀ d ∈ ds, ∀ r, d.target = .collected r → r < S) : Marks B W' ds :=
  h.keep fun d hd r hr h0 => (hs.below.block r (hlt d hd r hr)).trans h0
theorem keepsFrom_below {B : Nat} {W W' : World} (h : Below W.heap.size W W') : KeepsFrom B W W' :=
  ⟨h.size, fun k o _ hk _ => (h.block k (Array.getElem?_eq_some_iff.1 hk).1).trans hk⟩
theorem keepsFrom_setCell (B : Nat) (W : World) (p : Addr) (v : Value) : KeepsFrom B W (W.setCell p v) := (KeepsOthers.setCell W p v).from B
end Go.Proofs.YtahkjagjcogeiaaDoor
/- The answer's walked: a list of links followed. -/
namespace Go.Proofs.YtahkjagjcogeiaaDoor
open Go.RowKit Go.Shelf
set_option linter.unusedVariables false

theorem linkI_cases (l : List Link) (id : Int) : (linkI l id = -1 ∧ ∀ x ∈ l, x.id ≠ id) ∨ ∃ (j : Nat) (x : Link), linkI l id = j ∧ l[j]? = some x ∧ x.id = id := by
  unfold linkI idxL
  by_cases h : l.any (fun y => y.id == id) = true
  · right
    rw [if_pos h]
    have hlt : l.findIdx (fun y => y.id == id) < l.length := List.findIdx_lt_length.2 (by simpa using h)
    exact ⟨_, _, rfl, List.getElem?_eq_getElem hlt, by simpa using List.findIdx_getElem (w := hlt)⟩
  · left
    rw [if_neg h]
    refine ⟨rfl, fun x hx e => h (List.any_eq_true.2 ⟨x, hx, by simpa using e⟩)⟩

/-- What is spent up to where a list is no walk. -/
def partC (t : Town) (p : Price) : Int × Cost → List Int → Cost
  | s, [] => s.2
  | s, i :: r => match stepF t p s.1 i with
    | none => s.2
    | some (m, c) => partC t p (m, addC s.2 c) r
def partF (t : Town) (p : Price) (u : Int) (l : List Int) : Cost := if 40 < l.length then zeroC else partC t p (u, zeroC) l
def pairW (t : Town) (p : Price) (s : Int × Cost) (l : List Int) : Option (Int × Cost) × Cost := (walkS t p s l, partC t p s l)
def RWalkedOut (w : World) (r : Option (Int × Cost) × Cost) (e : Ending) (w' : World) : Prop :=
  ∃ (x : Int) (co : Cost), e = .returned (.tuple #[.int .i64 x, costV co, .bool r.1.isSome]) ∧ (∀ q, r.1 = some q → q = (x, co)) ∧ Below w.heap.size w w' ∧ co = r.2 ∧ (r.1 = none → x = 0)

structure RWSt (w : World) (T : Array Value) (p : Price) (co : Cost) (W : World) : Prop where
  bel : Below w.heap.size w W
  tb : Blk W w.heap.size 25 T
  pb : Blk W (w.heap.size + 1) 107 #[.int .i64 p.pace, .int .i64 p.up, .int .i64 p.step]
  rb : Blk W (w.heap.size + 1 + 1) 103 #[.int .i64 0, .int .i64 0, .int .i64 0, .int .i64 0]
  sb : Blk W (w.heap.size + 1 + 1 + 1) 103 #[.int .i64 co.a, .int .i64 co.b, .int .i64 co.c, .int .i64 co.d]
theorem RWSt.below {w W W' : World} {T : Array Value} {p : Price} {co : Cost} (h : RWSt w T p co W) (hb : Below W.heap.size W W') : RWSt w T p co W' :=
  ⟨h.bel.trans (hb.mono h.bel.size), h.tb.below hb h.tb.lt, h.pb.below hb h.pb.lt, h.rb.below hb h.rb.lt, h.sb.below hb h.sb.lt⟩

theorem drop_at' {α : Type} {l : List α} {k : Nat} {x : α} (h : l[k]? = some x) : l.drop k = x :: l.drop (k + 1) := by
  obtain ⟨hk, e⟩ := List.getElem?_eq_some_iff.1 h
  rw [List.drop_eq_getElem_cons hk, e]
/-- A block of four cells written anew. -/
theorem ret4 {w W : World} {B g : Nat} {t : TypeId} {z0 z1 z2 z3 : Value} (R : Blk W g t #[z0, z1, z2, z3]) (L : Below B w W) (hg : B ≤ g) (v0 v1 v2 v3 : Value) :
    Blk ((((W.setCell ⟨g, 0, none⟩ v0).setCell ⟨g, 1, none⟩ v1).setCell ⟨g, 2, none⟩ v2).setCell ⟨g, 3, none⟩ v3) g t #[v0, v1, v2, v3] ∧ Below B w ((((W.setCell ⟨g, 0, none⟩ v0).setCell ⟨g, 1, none⟩ v1).setCell ⟨g, 2, none⟩ v2).setCell ⟨g, 3, none⟩ v3) :=
  ⟨(((R.set_ 0 v0).set_ 1 v1).set_ 2 v2).set_ 3 v3, (((L.setCell (p := ⟨g, 0, none⟩) hg _).setCell (p := ⟨g, 1, none⟩) hg _).setCell (p := ⟨g, 2, none⟩) hg _).setCell (p := ⟨g, 3, none⟩) hg _⟩

theorem RWSt.put {w W : World} {T : Array Value} {p : Price} {co : Cost} (h : RWSt w T p co W) (d : Cost) : RWSt w T p d ((((W.setCell ⟨w.heap.size + 1 + 1 + 1, 0, none⟩ (.int .i64 d.a)).setCell ⟨w.heap.size + 1 + 1 + 1, 1, none⟩ (.int .i64 d.b)).setCell ⟨w.heap.size + 1 + 1 + 1, 2, none⟩ (.int .i64 d.c)).setCell ⟨w.heap.size + 1 + 1 + 1, 3, none⟩ (.int .i64 d.d)) := by
  have X := ret4 (w := W) (B := w.heap.size + 1 + 1 + 1) h.sb (Below.refl _ _) (Nat.le_refl _) (.int .i64 d.a) (.int .i64 d.b) (.int .i64 d.c) (.int .i64 d.d)
  have Y := (ret4 h.sb h.bel (by omega) (.int .i64 d.a) (.int .i64 d.b) (.int .i64 d.c) (.int .i64 d.d)).2
  exact ⟨Y, h.tb.below X.2 (by omega), h.pb.below X.2 (by omega), h.rb.below X.2 (by omega), X.1⟩
theorem rleads_none {W : World} {n : Nat} (x : Link) (v : Int) (p : Price) (hr : leads false p x v = none) (hx : Fit x) (hp : Cheap p) {σ : Type} {of : σ → World} (h1 : ∀ z, Below W.heap.size W (of z)) (h2 : ∀ z W', Below (of z).heap.size (of z) W' → Cls of W') (z : σ) :
    CallsIn Fence.wide n Tryd.prog 112 #[.agg #[.int .i64 x.id, .int .i64 x.fr, .int .i64 x.to, .int .i64 x.steps, .int .i64 x.paces], .int .i64 v, .bool false, .agg #[.int .i64 p.pace, .int .i64 p.up, .int .i64 p.step]] (of z) fun e w'' => e = .returned (.tuple #[.int .i64 0, .agg #[.int .i64 0, .int .i64 0, .int .i64 0, .int .i64 0], .bool false]) ∧ Cls of w'' :=
  (callsIn_wide.2 (leads_any x v false p (of z) hx hp)).mono fun e w'' ⟨he, hb⟩ => ⟨by rw [he, hr]; rfl, h2 z _ hb⟩
theorem rleads_some {W : World} {n : Nat} (x : Link) (v : Int) (p : Price) (v' : Int) (cx : Cost) (hr : leads false p x v = some (v', cx)) (hx : Fit x) (hp : Cheap p) {σ : Type} {of : σ → World} (h1 : ∀ z, Below W.heap.size W (of z)) (h2 : ∀ z W', Below (of z).heap.size (of z) W' → Cls of W') (z : σ) :
    CallsIn Fence.wide n Tryd.prog 112 #[.agg #[.int .i64 x.id, .int .i64 x.fr, .int .i64 x.to, .int .i64 x.steps, .int .i64 x.paces], .int .i64 v, .bool false, .agg #[.int .i64 p.pace, .int .i64 p.up, .int .i64 p.step]] (of z) fun e w'' => e = .returned (.tuple #[.int .i64 v', .agg #[.int .i64 cx.a, .int .i64 cx.b, .int .i64 cx.c, .int .i64 cx.d], .bool true]) ∧ Cls of w'' :=
  (callsIn_wide.2 (leads_any x v false p (of z) hx hp)).mono fun e w'' ⟨he, hb⟩ => ⟨by rw [he, hr]; rfl, h2 z _ hb⟩

set_option maxRecDepth 100000 in
set_option maxHeartbeats 8000000 in
theorem rwalked_in (A : Option Addr) (n c : Nat) (A' : Option Addr) (m d : Nat) (p : Price) (t : Town) (place : Int) (A2 : Option Addr) (k2 c2 : Nat) (l : List Int) (w : World)
    (hm : m ≤ 1000) (hk2 : k2 ≤ 1000) (ht : LinksAt w w.heap.size A' m t.links) (hp : Cheap p) (hfine : Fine t) (hfair : Fair p) (hr : IntsAt w w.heap.size A2 k2 l) :
    CallsIn Fence.wide 9 Tryd.prog 54 #[.agg #[.slice A n c, .slice A' m d], .int .i64 place, .slice A2 k2 c2, .agg #[.int .i64 p.pace, .int .i64 p.up, .int .i64 p.step]] w (RWalkedOut w (walkedF t p place l, partF t p place l)) := by
  have HT := Lib.hid ht
  have HP := Lib.hid hp
  have HR := Lib.hid hr
  have HLl := Lib.hid hr.len
  have HFI := Lib.hid hfine
  have HFA := Lib.hid hfair
  have HLm := Lib.hid ht.len
  have hmx : m ≤ maxLen := by unfold maxLen; omega
  clear ht hp hr hfine hfair
  refine callsIn_of_wp Tryd.func54 rfl trivial ?_ rfl
  simp only [Tryd.ntmps54, List.size_toArray, List.length_cons, List.length_nil, Nat.reduceAdd, Nat.reduceSub, Array.replicate_succ, Array.replicate_zero, List.push_toArray, List.append_toArray, List.nil_append, List.cons_append]
  have S0 : RWSt w #[.slice A n c, .slice A' m d] p zeroC ((((w.alloc (.cells #[.slice A n c, .slice A' m d] 25)).alloc (.cells #[.int .i64 p.pace, .int .i64 p.up, .int .i64 p.step] 107)).alloc (.cells #[.int .i64 0, .int .i64 0, .int .i64 0, .int .i64 0] 103)).alloc (.cells #[.int .i64 0, .int .i64 0, .int .i64 0, .int .i64 0] 103)) := by
    have b := ((((Below.refl w.heap.size w).alloc (Nat.le_refl _) (.cells #[.slice A n c, .slice A' m d] 25)).alloc (by simp) (.cells #[.int .i64 p.pace, .int .i64 p.up, .int .i64 p.step] 107)).alloc (by simp; omega) (.cells #[.int .i64 0, .int .i64 0, .int .i64 0, .int .i64 0] 103)).alloc (by simp; omega) (.cells #[.int .i64 0, .int .i64 0, .int .i64 0, .int .i64 0] 103)
    have X := (((Blk.new w 25 #[.slice A n c, .slice A' m d]).alloc (.cells #[.int .i64 p.pace, .int .i64 p.up, .int .i64 p.step] 107)).alloc (.cells #[.int .i64 0, .int .i64 0, .int .i64 0, .int .i64 0] 103)).alloc (.cells #[.int .i64 0, .int .i64 0, .int .i64 0, .int .i64 0] 103)
    have Y := ((Blk.new (w.alloc (.cells #[.slice A n c, .slice A' m d] 25)) 107 #[.int .i64 p.pace, .int .i64 p.up, .int .i64 p.step]).alloc (.cells #[.int .i64 0, .int .i64 0, .int .i64 0, .int .i64 0] 103)).alloc (.cells #[.int .i64 0, .int .i64 0, .int .i64 0, .int .i64 0] 103)
    have U := (Blk.new ((w.alloc (.cells #[.slice A n c, .slice A' m d] 25)).alloc (.cells #[.int .i64 p.pace, .int .i64 p.up, .int .i64 p.step] 107)) 103 #[.int .i64 0, .int .i64 0, .int .i64 0, .int .i64 0]).alloc (.cells #[.int .i64 0, .int .i64 0, .int .i64 0, .int .i64 0] 103)
    have V := Blk.new (((w.alloc (.cells #[.slice A n c, .slice A' m d] 25)).alloc (.cells #[.int .i64 p.pace, .int .i64 p.up, .int .i64 p.step] 107)).alloc (.cells #[.int .i64 0, .int .i64 0, .int .i64 0, .int .i64 0] 103)) 103 #[.int .i64 0, .int .i64 0, .int .i64 0, .int .i64 0]
    rw [World.size_alloc] at Y
    rw [World.size_alloc, World.size_alloc] at U
    rw [World.size_alloc, World.size_alloc, World.size_alloc] at V
    exact ⟨b, X, Y, U, V⟩
  by_cases h40 : (40 : Int) < (k2 : Int)
  · have HN : Hid ((walkedF t p place l, partF t p place l) = (none, zeroC)) := Lib.hid (by unfold walkedF partF; rw [if_pos (by rw [HLl.out]; omega), if_pos (by rw [HLl.out]; omega)])
    have HS0 := Lib.hid S0
    clear S0
    gi_wp2
    gi_region
    all_goals
      gi_wp2
      refine bodyPost_ret (v := .tuple #[.int .i64 0, costV zeroC, .bool false]) (by simp [results, Tryd.results54, go_sem, zeroC]) rfl ?_
      rw [HN.out]
      exact ⟨0, zeroC, rfl, (fun q hq => by cases hq), below_drewN HS0.out.bel 1, rfl, fun _ => rfl⟩
  · have h40' : decide ((40 : Int) < (k2 : Int)) = false := by simp; omega
    have HWF : Hid ((walkedF t p place l, partF t p place l) = pairW t p (place, zeroC) l) := Lib.hid (by unfold walkedF partF pairW; rw [if_neg (by rw [HLl.out]; omega), if_neg (by rw [HLl.out]; omega)])
    have HS0 := Lib.hid S0
    clear S0 h40
    gi_wp2
    generalize ((((w.alloc (.cells #[.slice A n c, .slice A' m d] 25)).alloc (.cells #[.int .i64 p.pace, .int .i64 p.up, .int .i64 p.step] 107)).alloc (.cells #[.int .i64 0, .int .i64 0, .int .i64 0, .int .i64 0] 103)).alloc (.cells #[.int .i64 0, .int .i64 0, .int .i64 0, .int .i64 0] 103)) = w0 at *
    gi_loopw [1, 24] (fun vf vi wr => ∃ (k : Nat) (at_ : Int) (co : Cost), k ≤ k2 ∧ vi = .int .i64 k ∧ vf = .int .i64 at_ ∧ Hid (RWSt w #[.slice A n c, .slice A' m d] p co wr ∧ Walk t false p place at_ co (l.take k) ∧ pairW t p (at_, co) (l.drop k) = pairW t p (place, zeroC) l)) (fun _ vi _ => k2 - (intOf vi).toNat)
    case atStart => exact ⟨0, place, zeroC, Nat.zero_le _, rfl, rfl, Lib.hid ⟨HS0.out, .nil _, rfl⟩⟩
    case round =>
      obtain ⟨k, at_, co, hk, rfl, rfl, HS⟩ := hrel
      have s0 := HS.out.1.sb.cell 0
      have s1 := HS.out.1.sb.cell 1
      have s2 := HS.out.1.sb.cell 2
      have s3 := HS.out.1.sb.cell 3
      have r0 := HS.out.1.rb.cell 0
      have r1 := HS.out.1.rb.cell 1
      have r2 := HS.out.1.rb.cell 2
      have r3 := HS.out.1.rb.cell 3
      have z0 := HS.out.1.rb.frozen 0
      have z1 := HS.out.1.rb.frozen 1
      have z2 := HS.out.1.rb.frozen 2
      have z3 := HS.out.1.rb.frozen 3
      by_cases hlt : k < k2
      · obtain ⟨b, off, id, rfl, hb, hid, hcell⟩ := (HR.out.below HS.out.1.bel).cell hlt
        have hbl : b < wr.heap.size := Nat.lt_of_lt_of_le hb HS.out.1.bel.size
        have t0 := HS.out.1.tb.cell 0
        have t1 := HS.out.1.tb.cell 1
        have HID := Lib.hid hid
        clear hid hb
        gi_wp2
        rcases linkI_cases t.links id with ⟨hli, hno⟩ | ⟨jj, x, hli, hx, hxi⟩
        · have H := link_any A n c A' m d t id wr hmx ((HT.out.below HS.out.1.bel).more HS.out.1.bel.size)
          rw [hli] at H
          have HH := Lib.hid H
          have HNO : Hid (pairW t p (place, zeroC) l = (none, co)) := Lib.hid (by
            rw [← HS.out.2.2, drop_at' HID.out]
            simp only [pairW, walkS, partC]
            rw [show stepF t p at_ id = none by
              unfold stepF
              rw [List.findSome?_eq_none_iff]
              intro y hy
              rw [if_neg (hno y hy)]])
          clear H hli hno
          refine ⟨trivial, (callsIn_wide.2 HH.out).mono ?_⟩
          rintro e w1 ⟨rfl, hb1⟩
          have HS1 := Lib.hid (HS.out.1.below hb1)
          clear hb1 s0 s1 s2 s3 r0 r1 r2 r3 z0 z1 z2 z3 t0 t1
          have s0 := HS1.out.sb.cell 0
          have s1 := HS1.out.sb.cell 1
          have s2 := HS1.out.sb.cell 2
          have s3 := HS1.out.sb.cell 3
          have r0 := HS1.out.rb.cell 0
          have r1 := HS1.out.rb.cell 1
          have r2 := HS1.out.rb.cell 2
          have r3 := HS1.out.rb.cell 3
          have z0 := HS1.out.rb.frozen 0
          have z1 := HS1.out.rb.frozen 1
          have z2 := HS1.out.rb.frozen 2
          have z3 := HS1.out.rb.frozen 3
          gi_wp2
          gi_region
          all_goals
            gi_wp2
            have R4 := ret4 (w := w) HS1.out.rb (HS1.out.bel) (by omega) (.int .i64 co.a) (.int .i64 co.b) (.int .i64 co.c) (.int .i64 co.d)
            have y0 := R4.1.cell 0
            have y1 := R4.1.cell 1
            have y2 := R4.1.cell 2
            have y3 := R4.1.cell 3
            refine bodyPost_ret (v := .tuple #[.int .i64 0, costV co, .bool false]) (by simp [results, Tryd.results54, go_sem, y0, y1, y2, y3]) rfl ?_
            rw [HWF.out, HNO.out]
            exact ⟨0, co, rfl, (fun q hq => by first | cases hq; rfl | cases hq), below_drewN R4.2 1, rfl, fun _ => rfl⟩
        · have H := link_any A n c A' m d t id wr hmx ((HT.out.below HS.out.1.bel).more HS.out.1.bel.size)
          rw [hli] at H
          have HH := Lib.hid H
          have hjm : jj < m := by have := (List.getElem?_eq_some_iff.1 hx).1; have := HLm.out; omega
          have HX := Lib.hid hx
          have HXI := Lib.hid hxi
          clear H hli hx hxi
          refine ⟨trivial, (callsIn_wide.2 HH.out).mono ?_⟩
          rintro e w1 ⟨rfl, hb1⟩
          have HS1 := Lib.hid (HS.out.1.below hb1)
          clear hb1 s0 s1 s2 s3 r0 r1 r2 r3 z0 z1 z2 z3 t0 t1
          have HXM : Hid (x ∈ t.links) := Lib.hid (List.mem_of_getElem? HX.out)
          have HFit : Hid (Fit x) := Lib.hid ⟨HFI.out.steps x HXM.out, HFI.out.paces x HXM.out⟩
          have HLT := Lib.hid (HT.out.below HS1.out.bel)
          obtain ⟨b2, off2, x', hA', hb2, hx', _⟩ := HLT.out.cell hjm
          subst hA'
          obtain rfl : x' = x := Option.some.inj (hx'.symm.trans HX.out)
          have hb2l : b2 < w1.heap.size := Nat.lt_of_lt_of_le hb2 HS1.out.bel.size
          clear hx' hb2
          have hjI : (0 : Int) ≤ (jj : Int) ∧ (jj : Int) < (m : Int) := by omega
          have hcells : Hid (∀ W, Below w1.heap.size w1 W → W.cell? ⟨b2, off2 + jj * 5, none⟩ = some (.int .i64 x'.id) ∧ W.cell? ⟨b2, off2 + jj * 5 + 1, none⟩ = some (.int .i64 x'.fr) ∧ W.cell? ⟨b2, off2 + jj * 5 + 2, none⟩ = some (.int .i64 x'.to) ∧ W.cell? ⟨b2, off2 + jj * 5 + 3, none⟩ = some (.int .i64 x'.steps) ∧ W.cell? ⟨b2, off2 + jj * 5 + 4, none⟩ = some (.int .i64 x'.paces)) := Lib.hid (fun W hb => by
            obtain ⟨b3, o3, y, e, _, hy, h⟩ := ((HLT.out.more HS1.out.bel.size).below hb).cell hjm
            cases e
            obtain rfl : y = x' := Option.some.inj (hy.symm.trans HX.out)
            exact h)
          have HDR : Hid (pairW t p (place, zeroC) l = (match leads false p x' at_ with | none => (none, co) | some y => pairW t p (y.1, addC co y.2) (l.drop (k + 1)))) := Lib.hid (by
            rw [← HS.out.2.2, drop_at' HID.out]
            simp only [pairW, walkS, partC]
            rw [← HXI.out, stepF_leads HFI.out.ids HXM.out]
            rcases leads false p x' at_ with _ | ⟨a1, a2⟩ <;> rfl)
          gi_wp2
          rcases hld : leads false p x' at_ with _ | ⟨v, cx⟩
          · have HLD := Lib.hid hld
            clear hld
            refine wpIn_region_new (AF := ?AF) (fun b => .pointer (some ⟨b, 0, none⟩)) 103 #[.int .i64 0, .int .i64 0, .int .i64 0, .int .i64 0] [0, 1, 2, 3, 4, 5, 6, 7, 8, 9, 10, 11, 13, 15] [14] 12 [true, true, true, true, true, true, true, true, true, true, true, true, false, true, false, true] [false, false, false, false, false, false, false, false, false, false, false, false, false, false, true, false] (by kernel_rfl) (by kernel_rfl) (by kernel_rfl) (by kernel_rfl) (by kernel_rfl) (below_drewN (Below.refl _ _) 1) rfl rfl rfl ?hq ?hf ?ht
            case hq =>
              rintro σ hσ of hof hcl
              have HOF := Lib.hid hof
              have HCL := Lib.hid hcl
              clear hof hcl
              have l0 : ∀ z, (of z).cell? ⟨b2, off2 + jj * 5, none⟩ = some (.int .i64 x'.id) := fun z => (hcells.out _ (HOF.out z)).1
              have l1 : ∀ z, (of z).cell? ⟨b2, off2 + jj * 5 + 1, none⟩ = some (.int .i64 x'.fr) := fun z => (hcells.out _ (HOF.out z)).2.1
              have l2 : ∀ z, (of z).cell? ⟨b2, off2 + jj * 5 + 2, none⟩ = some (.int .i64 x'.to) := fun z => (hcells.out _ (HOF.out z)).2.2.1
              have l3 : ∀ z, (of z).cell? ⟨b2, off2 + jj * 5 + 3, none⟩ = some (.int .i64 x'.steps) := fun z => (hcells.out _ (HOF.out z)).2.2.2.1
              have l4 : ∀ z, (of z).cell? ⟨b2, off2 + jj * 5 + 4, none⟩ = some (.int .i64 x'.paces) := fun z => (hcells.out _ (HOF.out z)).2.2.2.2
              have t0 : ∀ z, (of z).cell? ⟨w.heap.size, 0, none⟩ = some (.slice A n c) := fun z => (HS1.out.tb.below (HOF.out z) HS1.out.tb.lt).cell 0
              have t1 : ∀ z, (of z).cell? ⟨w.heap.size, 1, none⟩ = some (.slice (some ⟨b2, off2, none⟩) m d) := fun z => (HS1.out.tb.below (HOF.out z) HS1.out.tb.lt).cell 1
              have p0 : ∀ z, (of z).cell? ⟨w.heap.size + 1, 0, none⟩ = some (.int .i64 p.pace) := fun z => (HS1.out.pb.below (HOF.out z) HS1.out.pb.lt).cell 0
              have p1 : ∀ z, (of z).cell? ⟨w.heap.size + 1, 1, none⟩ = some (.int .i64 p.up) := fun z => (HS1.out.pb.below (HOF.out z) HS1.out.pb.lt).cell 1
              have p2 : ∀ z, (of z).cell? ⟨w.heap.size + 1, 2, none⟩ = some (.int .i64 p.step) := fun z => (HS1.out.pb.below (HOF.out z) HS1.out.pb.lt).cell 2
              have hfw : ∀ f, Fence.wide.fn f := fun _ => trivial
              simp only [pickB]
              repeat (gi_big_quiet_step (exact rleads_none x' at_ p HLD.out HFit.out HP.out HOF.out HCL.out _))
              refine wpQuietIn_nil ?_
              exact rfl
            case hf =>
              intro W hb
              exact ⟨fun f hf => trivial, rfl⟩
            case ht =>
              intro b W hb hbb hR
              have HB := Lib.hid hb
              have HBB := Lib.hid hbb
              have HR4 := Lib.hid hR
              have hbl1 := hR.lt
              have c0 := hR.cell 0
              have c1 := hR.cell 1
              have c2 := hR.cell 2
              have c3 := hR.cell 3
              have d0 := hR.frozen 0
              have d1 := hR.frozen 1
              have d2 := hR.frozen 2
              have d3 := hR.frozen 3
              clear hb hbb hR
              simp only [pickB]
              refine wpE_cons ?_
              gi_wp2
              have R5 := Lib.hid (ret4 HR4.out HB.out HBB.out (.int .i64 0) (.int .i64 0) (.int .i64 0) (.int .i64 0))
              refine ⟨R5.out.2, wpE_nil ?_⟩
              have HW5 := Lib.hid (HS1.out.below R5.out.2)
              generalize (((W.setCell ⟨b, 0, none⟩ (.int .i64 0)).setCell ⟨b, 1, none⟩ (.int .i64 0)).setCell ⟨b, 2, none⟩ (.int .i64 0)).setCell ⟨b, 3, none⟩ (.int .i64 0) = W5 at *
              clear c0 c1 c2 c3 d0 d1 d2 d3
              have hbl5 := R5.out.1.lt
              have s0 := HW5.out.sb.cell 0
              have s1 := HW5.out.sb.cell 1
              have s2 := HW5.out.sb.cell 2
              have s3 := HW5.out.sb.cell 3
              have r0 := HW5.out.rb.cell 0
              have r1 := HW5.out.rb.cell 1
              have r2 := HW5.out.rb.cell 2
              have r3 := HW5.out.rb.cell 3
              have z0 := HW5.out.rb.frozen 0
              have z1 := HW5.out.rb.frozen 1
              have z2 := HW5.out.rb.frozen 2
              have z3 := HW5.out.rb.frozen 3
              gi_wp2
              gi_region
              all_goals
                gi_wp2
                have R4 := ret4 (w := w) HW5.out.rb (HW5.out.bel) (by omega) (.int .i64 co.a) (.int .i64 co.b) (.int .i64 co.c) (.int .i64 co.d)
                have y0 := R4.1.cell 0
                have y1 := R4.1.cell 1
                have y2 := R4.1.cell 2
                have y3 := R4.1.cell 3
                refine bodyPost_ret (v := .tuple #[.int .i64 0, costV co, .bool false]) (by simp [results, Tryd.results54, go_sem, y0, y1, y2, y3]) rfl ?_
                rw [HWF.out, HDR.out, HLD.out]
                exact ⟨0, co, rfl, (fun q hq => by cases hq), below_drewN R4.2 1, rfl, fun _ => rfl⟩
          · have HLD := Lib.hid hld
            clear hld
            refine wpIn_region_new (AF := ?AF2) (fun b => .pointer (some ⟨b, 0, none⟩)) 103 #[.int .i64 0, .int .i64 0, .int .i64 0, .int .i64 0] [0, 1, 2, 3, 4, 5, 6, 7, 8, 9, 10, 11, 13, 15] [14] 12 [true, true, true, true, true, true, true, true, true, true, true, true, false, true, false, true] [false, false, false, false, false, false, false, false, false, false, false, false, false, false, true, false] (by kernel_rfl) (by kernel_rfl) (by kernel_rfl) (by kernel_rfl) (by kernel_rfl) (below_drewN (Below.refl _ _) 1) rfl rfl rfl ?hq2 ?hf2 ?ht2
            case hq2 =>
              rintro σ hσ of hof hcl
              have HOF := Lib.hid hof
              have HCL := Lib.hid hcl
              clear hof hcl
              have l0 : ∀ z, (of z).cell? ⟨b2, off2 + jj * 5, none⟩ = some (.int .i64 x'.id) := fun z => (hcells.out _ (HOF.out z)).1
              have l1 : ∀ z, (of z).cell? ⟨b2, off2 + jj * 5 + 1, none⟩ = some (.int .i64 x'.fr) := fun z => (hcells.out _ (HOF.out z)).2.1
              have l2 : ∀ z, (of z).cell? ⟨b2, off2 + jj * 5 + 2, none⟩ = some (.int .i64 x'.to) := fun z => (hcells.out _ (HOF.out z)).2.2.1
              have l3 : ∀ z, (of z).cell? ⟨b2, off2 + jj * 5 + 3, none⟩ = some (.int .i64 x'.steps) := fun z => (hcells.out _ (HOF.out z)).2.2.2.1
              have l4 : ∀ z, (of z).cell? ⟨b2, off2 + jj * 5 + 4, none⟩ = some (.int .i64 x'.paces) := fun z => (hcells.out _ (HOF.out z)).2.2.2.2
              have t0 : ∀ z, (of z).cell? ⟨w.heap.size, 0, none⟩ = some (.slice A n c) := fun z => (HS1.out.tb.below (HOF.out z) HS1.out.tb.lt).cell 0
              have t1 : ∀ z, (of z).cell? ⟨w.heap.size, 1, none⟩ = some (.slice (some ⟨b2, off2, none⟩) m d) := fun z => (HS1.out.tb.below (HOF.out z) HS1.out.tb.lt).cell 1
              have p0 : ∀ z, (of z).cell? ⟨w.heap.size + 1, 0, none⟩ = some (.int .i64 p.pace) := fun z => (HS1.out.pb.below (HOF.out z) HS1.out.pb.lt).cell 0
              have p1 : ∀ z, (of z).cell? ⟨w.heap.size + 1, 1, none⟩ = some (.int .i64 p.up) := fun z => (HS1.out.pb.below (HOF.out z) HS1.out.pb.lt).cell 1
              have p2 : ∀ z, (of z).cell? ⟨w.heap.size + 1, 2, none⟩ = some (.int .i64 p.step) := fun z => (HS1.out.pb.below (HOF.out z) HS1.out.pb.lt).cell 2
              have hfw : ∀ f, Fence.wide.fn f := fun _ => trivial
              simp only [pickB]
              repeat (gi_big_quiet_step (exact rleads_some x' at_ p v cx HLD.out HFit.out HP.out HOF.out HCL.out _))
              refine wpQuietIn_nil ?_
              exact rfl
            case hf2 =>
              intro W hb
              exact ⟨fun f hf => trivial, rfl⟩
            case ht2 =>
              intro b W hb hbb hR
              have HB := Lib.hid hb
              have HBB := Lib.hid hbb
              have HR4 := Lib.hid hR
              have hbl1 := hR.lt
              have c0 := hR.cell 0
              have c1 := hR.cell 1
              have c2 := hR.cell 2
              have c3 := hR.cell 3
              have d0 := hR.frozen 0
              have d1 := hR.frozen 1
              have d2 := hR.frozen 2
              have d3 := hR.frozen 3
              clear hb hbb hR
              simp only [pickB]
              refine wpE_cons ?_
              gi_wp2
              have R5 := Lib.hid (ret4 HR4.out HB.out HBB.out (.int .i64 cx.a) (.int .i64 cx.b) (.int .i64 cx.c) (.int .i64 cx.d))
              refine ⟨R5.out.2, wpE_nil ?_⟩
              have HW5 := Lib.hid (HS1.out.below R5.out.2)
              generalize (((W.setCell ⟨b, 0, none⟩ (.int .i64 cx.a)).setCell ⟨b, 1, none⟩ (.int .i64 cx.b)).setCell ⟨b, 2, none⟩ (.int .i64 cx.c)).setCell ⟨b, 3, none⟩ (.int .i64 cx.d) = W5 at *
              clear c0 c1 c2 c3 d0 d1 d2 d3
              have hbl5 := R5.out.1.lt
              have s0 := HW5.out.sb.cell 0
              have s1 := HW5.out.sb.cell 1
              have s2 := HW5.out.sb.cell 2
              have s3 := HW5.out.sb.cell 3
              have r0 := HW5.out.rb.cell 0
              have r1 := HW5.out.rb.cell 1
              have r2 := HW5.out.rb.cell 2
              have r3 := HW5.out.rb.cell 3
              have z0 := HW5.out.rb.frozen 0
              have z1 := HW5.out.rb.frozen 1
              have z2 := HW5.out.rb.frozen 2
              have z3 := HW5.out.rb.frozen 3
              have HLC := Lib.hid (leads_cost HXM.out HFI.out HFA.out HLD.out)
              have HSM : Hid (Small co ∧ Small cx) := Lib.hid ⟨by
                have h1 := HS.out.2.1.bound HFI.out HFA.out
                have h2 : (l.take k).length ≤ 40 := by
                  rw [List.length_take]
                  have := of_decide_eq_false h40'
                  omega
                exact ⟨by omega, by omega, by omega, by omega⟩, by
                have h1 := HLC.out
                exact ⟨by omega, by omega, by omega, by omega⟩⟩
              have b0 := R5.out.1.cell 0
              have b1 := R5.out.1.cell 1
              have b2 := R5.out.1.cell 2
              have b3 := R5.out.1.cell 3
              gi_wp2
              refine ⟨trivial, (callsIn_wide.2 (rplus_any co cx _ HSM.out.1 HSM.out.2)).mono ?_⟩
              rintro e w6 ⟨rfl, hb6⟩
              clear s0 s1 s2 s3 r0 r1 r2 r3 z0 z1 z2 z3 b0 b1 b2 b3
              have HW6 := Lib.hid (HW5.out.below hb6)
              clear hb6
              have s0 := HW6.out.sb.cell 0
              have s1 := HW6.out.sb.cell 1
              have s2 := HW6.out.sb.cell 2
              have s3 := HW6.out.sb.cell 3
              have z0 := HW6.out.sb.frozen 0
              have z1 := HW6.out.sb.frozen 1
              have z2 := HW6.out.sb.frozen 2
              have z3 := HW6.out.sb.frozen 3
              unfold costV
              gi_wp2
              have e1 : ((k + 1 : Nat) : Int) = (k : Int) + 1 := by omega
              have hkl : k < l.length := by rw [HLl.out]; exact hlt
              refine ⟨⟨k + 1, v, addC co cx, by omega, by rw [e1], rfl, Lib.hid ⟨HW6.out.put (addC co cx), ?_, ?_⟩⟩, ?_⟩
              · have h := HS.out.2.1.snoc HXM.out HLD.out
                rw [List.take_add_one, HID.out, ← HXI.out]
                exact h
              · rw [HDR.out, HLD.out]
              · simp [intOf]; omega
      · obtain rfl : k = k2 := by omega
        have HNO : Hid (pairW t p (place, zeroC) l = (some (at_, co), co)) := Lib.hid (by
          rw [← HS.out.2.2, List.drop_of_length_le (by rw [HLl.out]; exact Nat.le_refl _)]
          rfl)
        gi_wp2
        gi_region
        all_goals
          gi_wp2
          have R4 := ret4 (w := w) HS.out.1.rb (HS.out.1.bel) (by omega) (.int .i64 co.a) (.int .i64 co.b) (.int .i64 co.c) (.int .i64 co.d)
          have y0 := R4.1.cell 0
          have y1 := R4.1.cell 1
          have y2 := R4.1.cell 2
          have y3 := R4.1.cell 3
          refine bodyPost_ret (v := .tuple #[.int .i64 at_, costV co, .bool true]) (by simp [results, Tryd.results54, go_sem, y0, y1, y2, y3]) rfl ?_
          rw [HWF.out, HNO.out]
          exact ⟨at_, co, rfl, (fun q hq => by first | cases hq; rfl | cases hq), below_drewN R4.2 1, rfl, fun h => by cases h⟩

theorem rwalked_any (A : Option Addr) (n c : Nat) (A' : Option Addr) (m d : Nat) (p : Price) (t : Town) (place : Int) (A2 : Option Addr) (k2 c2 : Nat) (l : List Int) (w : World)
    (hm : m ≤ 1000) (hk2 : k2 ≤ 1000) (ht : LinksAt w w.heap.size A' m t.links) (hp : Cheap p) (hfine : Fine t) (hfair : Fair p) (hr : IntsAt w w.heap.size A2 k2 l) :
    Calls Tryd.prog 54 #[.agg #[.slice A n c, .slice A' m d], .int .i64 place, .slice A2 k2 c2, .agg #[.int .i64 p.pace, .int .i64 p.up, .int .i64 p.step]] w (RWalkedOut w (walkedF t p place l, partF t p place l)) :=
  callsIn_wide.1 (rwalked_in A n c A' m d p t place A2 k2 c2 l w hm hk2 ht hp hfine hfair hr)
end Go.Proofs.YtahkjagjcogeiaaDoor
