/- Part 2 of the texts of this claim, joined. -/
import Derived.Maps.AppendAt
import Derived.Deep.AppendLies
import Derived.Lib.SliceRun
import Derived.Laws.IdiomCopy
import Derived.Lib.AppendZeros
import Derived.Shelf.Spec.SlicesInsert
import Derived.Lib.Overlaps
import Derived.Laws.StructEq
import Derived.Laws.EntriesVeiled
import Derived.Deep.RegionHeld3
import Derived.OwnWalk
import Derived.Test.YtahkjagjcogeiaaGreatDoorZxExamples1
set_option linter.unusedVariables false
/- The law of a drawn region by stages. -/
namespace Go.Proofs.YtahkjagjcogeiaaGreatDoor
section
open Go.RowKit
def Good (V : World) (C : World → Prop) : Prop := (∃ W, C W) ∧ (∀ W, C W → Below V.heap.size V W) ∧ ∀ W W', C W → Below W.heap.size W W' → C W'
theorem Good.above (V : World) : Good V fun W => Below V.heap.size V W := ⟨⟨V, Below.refl _ _⟩, fun _ h => h, fun _ _ h k => h.trans (k.mono h.size)⟩
theorem Good.up {V V' : World} {C : World → Prop} (h : Good V' C) (hb : Below V.heap.size V V') : Good V C := ⟨h.1, fun W hW => hb.trans ((h.2.1 W hW).mono hb.size), h.2.2⟩
section
variable {F : Fence} {n : Nat} {P : Program} {l : List Oper}
def Quietly (F : Fence) (n : Nat) (P : Program) (l : List Oper) (V : World) (qs : List Oper) (a A : Act) : Prop :=
 ∀ (σ : Type) (_ : Nonempty σ) (of : σ → World), (∀ z, Below V.heap.size V (of z)) → (∀ z W', Below (of z).heap.size (of z) W' → Cls of W') → wpQuietIn F n P l.toArray (Cls of) (fun a2 => a2 = A) qs a
theorem Quietly.cls {V : World} {qs : List Oper} {a A : Act} (hq : Quietly F n P l V qs a A) {C : World → Prop} (hC : Good V C) : wpQuietIn F n P l.toArray C (fun a2 => a2 = A) qs a := by
 obtain ⟨⟨W0, h0⟩, h1, h2⟩ := hC
 have e : C = Cls (fun z : { W : World // C W } => z.1) := by
  funext W
  exact propext ⟨fun h => ⟨⟨W, h⟩, rfl⟩, fun ⟨z, hz⟩ => by rw [hz]; exact z.2⟩
 rw [e]
 exact hq _ ⟨⟨W0, h0⟩⟩ _ (fun z => h1 _ z.2) (fun z W' hb => ⟨⟨W', h2 _ _ z.2 hb⟩, rfl⟩)
theorem Quietly.none {V : World} {a : Act} : Quietly F n P l V (pickB l []) a a := fun _ _ _ _ _ => by cases l <;> exact rfl
def wpT (F : Fence) (n : Nat) (P : Program) (ops : Array Oper) (Qn : Act → World → Prop) : List Oper → Act → World → Prop
 | [], a, w => Qn a w
 | o :: r, a, w => wpListIn F n P ops (Exit.then (wpT F n P ops Qn r) (fun _ _ _ => False)) [o] a w
theorem wpT_nil {ops : Array Oper} {Qn : Act → World → Prop} {a : Act} {w : World} (h : Qn a w) : wpT F n P ops Qn [] a w := h
theorem wpT_cons {ops : Array Oper} {Qn : Act → World → Prop} {o : Oper} {r : List Oper} {a : Act} {w : World} (h : wpListIn F n P ops (Exit.then (wpT F n P ops Qn r) (fun _ _ _ => False)) [o] a w) : wpT F n P ops Qn (o :: r) a w := h
def wpFlow (F : Fence) (n : Nat) (P : Program) (l : List Oper) (tail : List (Nat × Nat) → World → Act → Prop) : List (List Bool × Nat) → List Bool → List (Nat × Nat) → World → Act → Prop
 | [], fin, I, V, a => ∃ A, Quietly F n P l V (pickB l fin) a A ∧ tail I V A
 | (m, x) :: r, fin, I, V, a => ∃ A, Quietly F n P l V (pickB l m) a A ∧ ∃ o, l[x]? = some o ∧ ∀ W, Below V.heap.size V W →
   wpListIn F n P l.toArray (Exit.then (fun a' W' => a'.defers = A.defers ∧ Below W.heap.size W W' ∧ wpFlow F n P l tail r fin ((W.heap.size, W'.heap.size) :: I) W' a') (fun _ _ _ => False)) [o] A W
theorem wpFlow_nil {tail : List (Nat × Nat) → World → Act → Prop} {fin : List Bool} {I : List (Nat × Nat)} {V : World} {a A : Act} (hq : Quietly F n P l V (pickB l fin) a A) (h : tail I V A) : wpFlow F n P l tail [] fin I V a := ⟨A, hq, h⟩
theorem wpFlow_cons {tail : List (Nat × Nat) → World → Act → Prop} {m : List Bool} {x : Nat} {r : List (List Bool × Nat)} {fin : List Bool} {I : List (Nat × Nat)} {V : World} {a A : Act} {o : Oper} (ho : l[x]? = some o) (hq : Quietly F n P l V (pickB l m) a A)
  (h : ∀ W, Below V.heap.size V W → wpListIn F n P l.toArray (Exit.then (fun a' W' => a'.defers = A.defers ∧ Below W.heap.size W W' ∧ wpFlow F n P l tail r fin ((W.heap.size, W'.heap.size) :: I) W' a') (fun _ _ _ => False)) [o] A W) : wpFlow F n P l tail ((m, x) :: r) fin I V a := ⟨A, hq, o, ho, h⟩
def NextF (F : Fence) (n : Nat) (P : Program) (l : List Oper) (tail : List (Nat × Nat) → World → Act → Prop) (ws : List Nat) (fin : List Bool) (later : List Nat) (I : List (Nat × Nat)) (V : World) (A : Act) : Prop :=
 (later = [] ∧ tail I V A) ∨ ∃ x r o, later = x :: xsOf r fin ∧ x ∈ ws ∧ (∀ p ∈ r, p.2 ∈ ws ∧ p.1.length ≤ l.length) ∧ l[x]? = some o ∧ ∀ W, Below V.heap.size V W →
   wpListIn F n P l.toArray (Exit.then (fun a' W' => a'.defers = A.defers ∧ Below W.heap.size W W' ∧ wpFlow F n P l tail r fin ((W.heap.size, W'.heap.size) :: I) W' a') (fun _ _ _ => False)) [o] A W
def AvF (F : Fence) (n : Nat) (P : Program) (l : List Oper) (xs : List Nat) (a0 : Act) (ys : List Nat) (V : World) (A : Act) (i : Nat) : Prop :=
 ∀ o, l[i]? = some o → ∃ pre post, xs = pre ++ i :: post ∧ (∀ k ∈ pre, k ∈ ys) ∧ ∀ C, Good V C → ∃ LF, Mixed l (· ∈ pre) A a0 LF ∧ YieldsQuiet F n P l.toArray C o (valOf l A i) LF
section
variable {xs ws es : List Nat} {j : Nat} {a0 : Act} {tail : List (Nat × Nat) → World → Act → Prop} {fin : List Bool}
theorem enter_core (ok : FlowOk l xs ws es j) (hs : slotsM l a0.tmps.size = true) {ys qs rest : List Nat} {V : World} {A1 A : Act} (hx : xs = ys ++ (qs ++ rest)) (hA1 : Mixed l (· ∈ ys) A1 a0 A1) (hq : Quietly F n P l V (pick l qs) A1 A) :
  Mixed l (· ∈ ys ++ qs) A a0 A ∧ (∀ i ∈ ys, ∀ t, dstAt l i = some t → A1.tmps.getD t undef = A.tmps.getD t undef) ∧ ∀ i ∈ qs, AvF F n P l xs a0 (ys ++ qs) V A i := by
 have hslot : ∀ i, i < l.length → ∀ d, dstAt l i = some d → d < a0.tmps.size := fun i hi d hd => by
  have := List.all_eq_true.1 hs i (List.mem_range.2 hi)
  rw [hd] at this
  simpa using this
 have hnd := ok.nodup
 rw [hx, List.nodup_append] at hnd
 obtain ⟨_, hnd2, hdis⟩ := hnd
 have hqx : ∀ i ∈ qs, i ∈ xs := fun i hi => by rw [hx]; simp [hi]
 have hyx : ∀ i ∈ ys, i ∈ xs := fun i hi => by rw [hx]; simp [hi]
 have hcond : ∀ i ∈ qs, i < l.length ∧ ∃ d, dstAt l i = some d ∧ d < A1.tmps.size ∧ ∀ i' ∈ qs, dstAt l i' = some d → i' = i := fun i hi => by
  obtain ⟨h1, h2, h3⟩ := ok.x i (hqx i hi)
  obtain ⟨d, h4, h5⟩ := ok.own i h1 h3
  exact ⟨h1, d, h4, by rw [hA1.size]; exact hslot i h1 d h4, fun i' hi' hd' => h5 i' (ok.x i' (hqx i' hi')).1 hd'⟩
 have hnq : qs.Nodup := (List.nodup_append.1 hnd2).1
 have S := fun (C : World → Prop) (hC : Good V C) => quiet_seq (F := F) (n := n) (P := P) (l := l) (C := C) (A := A) qs A1 hcond hnq (hq.cls hC)
 obtain ⟨M, _⟩ := S _ (Good.above V)
 have same : ∀ i ∈ ys, ∀ t, dstAt l i = some t → A1.tmps.getD t undef = A.tmps.getD t undef := fun i hi t ht => by
  refine (M.out t fun i' hi' hd' => ?_).symm
  obtain ⟨h1, h2, h3⟩ := ok.x i (hyx i hi)
  obtain ⟨d, h4, h5⟩ := ok.own i h1 h3
  rw [ht] at h4
  cases h4
  have := h5 i' (ok.x i' (hqx i' hi')).1 hd'
  subst this
  exact hdis i' hi i' (by simp [hi']) rfl
 have B := hA1.change same
 refine ⟨(M.trans B).congr (fun i => by simp [or_comm]), same, fun i hi o ho => ?_⟩
 obtain ⟨pre, post, e⟩ := List.append_of_mem hi
 refine ⟨ys ++ pre, post ++ rest, by rw [hx, e]; simp, fun k hk => ?_, fun C hC => ?_⟩
 ·rw [e]
  rcases List.mem_append.1 hk with h | h <;> simp [h]
 ·obtain ⟨LF, h1, h2⟩ := (S C hC).2 pre i post e o ho
  exact ⟨LF, (h1.trans B).congr (fun k => by simp [or_comm]), h2⟩
theorem flow_enter (ok : FlowOk l xs ws es j) (hs : slotsM l a0.tmps.size = true) (hfin : fin.length ≤ l.length) (r : List (List Bool × Nat)) (hr : ∀ p ∈ r, p.2 ∈ ws ∧ p.1.length ≤ l.length) {ys : List Nat} {I : List (Nat × Nat)} {V : World} {A1 : Act} (h : wpFlow F n P l tail r fin I V A1) (hx : xs = ys ++ xsOf r fin) (hA1 : Mixed l (· ∈ ys) A1 a0 A1) :
  ∃ qs later A, xs = (ys ++ qs) ++ later ∧ Mixed l (· ∈ ys ++ qs) A a0 A ∧ (∀ i ∈ ys, ∀ t, dstAt l i = some t → A1.tmps.getD t undef = A.tmps.getD t undef) ∧ (∀ i ∈ qs, AvF F n P l xs a0 (ys ++ qs) V A i) ∧ NextF F n P l tail ws fin later I V A := by
 cases r with
 | nil =>
  obtain ⟨A, hq, ht⟩ := h
  rw [pickB_all l fin hfin] at hq
  obtain ⟨h1, h2, h3⟩ := enter_core ok hs (rest := []) (by rw [hx]; simp [xsOf]) hA1 hq
  exact ⟨idxs 0 fin, [], A, by rw [hx]; simp [xsOf], h1, h2, h3, .inl ⟨rfl, ht⟩⟩
 | cons p r =>
  obtain ⟨m, x⟩ := p
  obtain ⟨A, hq, o, ho, hw⟩ := h
  obtain ⟨hxw, hm⟩ := hr (m, x) (by simp)
  rw [pickB_all l m hm] at hq
  obtain ⟨h1, h2, h3⟩ := enter_core ok hs (rest := x :: xsOf r fin) (by rw [hx]; simp [xsOf]) hA1 hq
  exact ⟨idxs 0 m, x :: xsOf r fin, A, by rw [hx]; simp [xsOf], h1, h2, h3, .inr ⟨x, r, o, rfl, hxw, fun p hp => hr p (by simp [hp]), ho, hw⟩⟩
end
def tailF (F : Fence) (n : Nat) (P : Program) (l : List Oper) (es : List Bool) (j : Nat) (dj : Tmp) (fv : Nat → Value) (ty : TypeId) (cs : Array Value) (V0 : World) (Qn : Act → World → Prop) : List (Nat × Nat) → World → Act → Prop := fun I V A =>
 ∀ b W, Below V.heap.size V W → (j < l.length → V0.heap.size ≤ b ∧ Blk W b ty cs ∧ ∀ p ∈ I, b < p.1 ∨ p.2 ≤ b) → wpT F n P l.toArray Qn (pickB l es) (if j < l.length then A.put (some dj) (fv b) else A) W
theorem wpIn_region_flow {Q : Exit → Act → World → Prop} {id : Nat} {a0 : Act} {w V0 : World} (stages : List (List Bool × Nat)) (fin em : List Bool) (j : Nat) (dj : Tmp) (fv : Nat → Value) (ty : TypeId) (cs : Array Value)
  (hm : P.follows .mixedOrders = true) (hB : (flowB l (xsOf stages fin) (stages.map (·.2)) (idxs 0 em) j && stages.all (fun p => decide (p.1.length ≤ l.length)) && decide (fin.length ≤ l.length) && decide (em.length ≤ l.length)) = true)
  (hs : slotsM l a0.tmps.size = true) (hV : Below V0.heap.size V0 w.drew)
  (hj : j < l.length → ∃ oj, l[j]? = some oj ∧ oj.dst = some dj ∧ oj.guard = none ∧ (∀ ρ W, oj.about P W ρ = none) ∧ ∀ ρ W, (execOp ρ oj).run P W = .ok (.value (fv W.heap.size)) (W.alloc (.cells cs ty)))
  (h : wpFlow F n P l (tailF F n P l em j dj fv ty cs V0 (Q .normal)) stages fin [] V0 a0) : (Code.region id l.toArray true).wpIn F n P Q a0 w := by
 simp only [Bool.and_eq_true, decide_eq_true_eq] at hB
 obtain ⟨⟨⟨hB, hst⟩, hfin⟩, hem⟩ := hB
 have ok := flowOk hB
 obtain ⟨xs, hxs⟩ : ∃ xs, xsOf stages fin = xs := ⟨_, rfl⟩
 obtain ⟨ws, hws⟩ : ∃ ws, stages.map (·.2) = ws := ⟨_, rfl⟩
 obtain ⟨es, hes⟩ : ∃ es, idxs 0 em = es := ⟨_, rfl⟩
 rw [hxs, hws, hes] at ok
 have hpe : pickB l em = pick l es := by rw [← hes]; exact pickB_all l em hem
 have hr0 : ∀ p ∈ stages, p.2 ∈ ws ∧ p.1.length ≤ l.length := fun p hp => ⟨by rw [← hws]; exact List.mem_map.2 ⟨p, hp, rfl⟩, by simpa using List.all_eq_true.1 hst p hp⟩
 have hnd : noDefer l.toArray := noDefer_of ok.nodef
 have hslot : ∀ i, i < l.length → ∀ d, dstAt l i = some d → d < a0.tmps.size := fun i hi d hd => by
  have := List.all_eq_true.1 hs i (List.mem_range.2 hi)
  rw [hd] at this
  simpa using this
 have hje : j < l.length → j ∉ es := fun hlt he => (ok.e j he).2 rfl
 have hdj : j < l.length → dstAt l j = some dj := fun hlt => by
  obtain ⟨oj, h1, h2, _⟩ := hj hlt
  unfold dstAt; rw [h1]; exact h2
 have hjd : j < l.length → ∀ i, i < l.length → dstAt l i = some dj → i = j := fun hlt i hi hd => by
  obtain ⟨d, h1, h2⟩ := ok.own j hlt (hje hlt)
  rw [hdj hlt] at h1
  cases h1
  exact h2 i hi hd
 let tail := tailF F n P l em j dj fv ty cs V0 (Q .normal)
 let cls : List (Nat × Nat) → World → Option Nat → World → Prop := fun I V ob W => Below V.heap.size V W ∧ ∀ b, ob = some b → V0.heap.size ≤ b ∧ Blk W b ty cs ∧ ∀ p ∈ I, b < p.1 ∨ p.2 ≤ b
 have growC : ∀ {I V ob W W'}, cls I V ob W → Below W.heap.size W W' → cls I V ob W' := fun hc hb => ⟨hc.1.trans (hb.mono hc.1.size), fun b e => ⟨(hc.2 b e).1, (hc.2 b e).2.1.below hb (hc.2 b e).2.1.lt, (hc.2 b e).2.2⟩⟩
 let wJ : Option Nat → Act → Act := fun ob a => match ob with
  | some b => a.put (some dj) (fv b)
  | none => a
 have wJs : ∀ ob a, (wJ ob a).tmps.size = a.tmps.size := fun ob a => by cases ob <;> simp [wJ, Act.put]
 have wJd : ∀ ob a, (wJ ob a).defers = a.defers := fun ob a => by cases ob <;> simp [wJ, Act.put]
 have wJo : ∀ ob a t, (ob.isSome = true → dj ≠ t) → (wJ ob a).tmps.getD t undef = a.tmps.getD t undef := fun ob a t ht => by
  cases ob with
  | none => rfl
  | some b => exact getD_set_other a.tmps (fv b) (ht rfl)
 have wJp : ∀ ob a d v, (ob.isSome = true → d ≠ dj) → (wJ ob a).put (some d) v = wJ ob (a.put (some d) v) := fun ob a d v hd => by
  cases ob with
  | none => rfl
  | some b => exact Act.put_comm a (x := some dj) (y := some d) (fv b) v (fun d' e => by cases e; intro e'; exact hd rfl (Option.some.inj e'))
 let StA : Array Bool → Act → World → Prop := fun listed a W => listed.size = l.length ∧ (∀ e ∈ es, listed.getD e false = false) ∧ ∃ (ys later : List Nat) (A : Act) (V : World) (I : List (Nat × Nat)) (ob : Option Nat) (a1 : Act), xs = ys ++ later ∧ (∀ i ∈ later, listed.getD i false = false) ∧ Mixed l (· ∈ ys) A a0 A ∧
  Mixed l (fun i => i ∈ xs ∧ listed.getD i false = true) A a0 a1 ∧ a = wJ ob a1 ∧ (∀ i ∈ ys, listed.getD i false = false → AvF F n P l xs a0 ys V A i) ∧ (j < l.length → listed.getD j false = ob.isSome) ∧ (l.length ≤ j → ob = none) ∧ cls I V ob W ∧ (∀ p ∈ I, p.2 ≤ V.heap.size) ∧ V0.heap.size ≤ V.heap.size ∧ NextF F n P l tail ws fin later I V A
 let Miss : Array Bool → Tmp → Prop := fun listed t => ∃ i ∈ xs, listed.getD i false = false ∧ dstAt l i = some t
 let StB : Array Bool → Act → World → Prop := fun listed a W => listed.size = l.length ∧ ∃ (A Ac : Act) (m : Nat), m ≤ es.length ∧ (∀ e ∈ es.take m, listed.getD e false = true) ∧ (∀ e ∈ es.drop m, listed.getD e false = false) ∧ (j < l.length → listed.getD j false = true) ∧ Rel (Miss listed) a Ac ∧ Ac.tmps.size = a0.tmps.size ∧
  (∀ i ∈ xs, ∀ t, dstAt l i = some t → Ac.tmps.getD t undef = A.tmps.getD t undef) ∧ (∀ t, (∀ i, i < l.length → dstAt l i ≠ some t) → Ac.tmps.getD t undef = a0.tmps.getD t undef) ∧
  (∀ i ∈ xs, listed.getD i false = false → ∀ o, l[i]? = some o → ∃ pre post LF, xs = pre ++ i :: post ∧ Mixed l (· ∈ pre) A a0 LF ∧ YieldsAll F P l.toArray o (valOf l A i) LF) ∧ wpT F n P l.toArray (Q .normal) (pick l (es.drop m)) Ac W
 have setD : ∀ (listed : Array Bool) (i i' : Nat), listed.size = l.length → i < l.length → (listed.setIfInBounds i true).getD i' false = done (fun i => listed.getD i false) i i' := fun listed i i' hsz hi => by
  unfold done
  by_cases e : i' = i
  ·subst e
   rw [if_pos rfl, Array.getD_eq_getD_getElem?, Array.getElem?_setIfInBounds]
   have : i' < listed.size := by omega
   simp [this]
  ·rw [if_neg e, getD_set_ne false (Ne.symm e)]
 have mixS : ∀ (listed : Array Bool) (i : Nat), listed.size = l.length → i < l.length → i ∈ xs → ∀ k, ((k ∈ xs ∧ listed.getD k false = true) ∨ k = i) ↔ (k ∈ xs ∧ (listed.setIfInBounds i true).getD k false = true) := fun listed i hsz hi hix k => by
  rw [setD listed i k hsz hi]
  unfold done
  by_cases e : k = i
  ·subst e; simp [hix]
  ·simp [e]
 have obJ : ∀ {ob : Option Nat}, (l.length ≤ j → ob = none) → ob.isSome = true → j < l.length := fun h h' => by
  rcases Nat.lt_or_ge j l.length with h1 | h1
  ·exact h1
  ·rw [h h1] at h'; cases h'
 -- what an operation reads
 have agreeA : ∀ {listed : Array Bool} {A LF a1 : Act} {ob : Option Nat} {pre post : List Nat} {i : Nat} {o : Oper}, l[i]? = some o → xs = pre ++ i :: post → (∀ i', afterB l i i' = true → listed.getD i' false = true) → (l.length ≤ j → ob = none) →
   Mixed l (· ∈ pre) A a0 LF → Mixed l (fun i => i ∈ xs ∧ listed.getD i false = true) A a0 a1 → ∀ t ∈ o.looksAt l.toArray, LF.tmps.getD t undef = (wJ ob a1).tmps.getD t undef := by
  intro listed A LF a1 ob pre post i o hol hx hwait hob hLF hM t ht
  by_cases hex : ∃ i', i' < l.length ∧ dstAt l i' = some t
  ·obtain ⟨i', hi', hd⟩ := hex
   obtain ⟨h1, h2⟩ := ok.deps pre i post hx o hol t ht i' hi' hd
   have hix : i' ∈ xs := by rw [hx]; simp [h2]
   rw [wJo ob a1 t (fun hsm e => by
    have hlt := obJ hob hsm
    subst e
    exact (ok.x i' hix).2.1 (hjd hlt i' hi' hd)), hLF.in_ i' h2 t hd, hM.in_ i' ⟨hix, hwait i' h1⟩ t hd]
  ·have hno : ∀ i', i' < l.length → dstAt l i' ≠ some t := fun i' hi' hd => hex ⟨i', hi', hd⟩
   rw [wJo ob a1 t (fun hsm e => by
    have hlt := obJ hob hsm
    subst e
    exact hno j hlt (hdj hlt)), hLF.out t (fun i' hi' => hno i' (ok.x i' (by rw [hx]; simp [hi'])).1), hM.out t (fun i' hi' => hno i' (ok.x i' hi'.1).1)]
 have toB : ∀ listed a W, StA listed a W → (j < l.length → listed.getD j false = true) → (∀ i ∈ xs, listed.getD i false = false → ∀ o, l[i]? = some o → lateB o = true ∧ i ∉ ws) → StB listed a W := by
  rintro listed a W ⟨hsz, hesl, ys, later, A, V, I, ob, a1, hx, hlater, hA, hM, rfl, hav, h1, h2, hc, hI, hVV, hnext⟩ hjl hfl
  have hlt : later = [] ∧ tail I V A := by
   rcases hnext with h | ⟨x, r, o, e, hxw, _, ho, _⟩
   ·exact h
   ·exact absurd hxw (hfl x (by rw [hx, e]; simp) (hlater x (by rw [e]; simp)) o ho).2
  obtain ⟨rfl, ht⟩ := hlt
  rw [List.append_nil] at hx
  have hyx : ∀ i, i ∈ ys ↔ i ∈ xs := fun i => by rw [hx]
  have hfacts : ∃ b, (j < l.length → ob = some b) ∧ (j < l.length → V0.heap.size ≤ b ∧ Blk W b ty cs ∧ ∀ p ∈ I, b < p.1 ∨ p.2 ≤ b) := by
   by_cases h : j < l.length
   ·have h3 := h1 h
    rw [hjl h] at h3
    obtain ⟨b, rfl⟩ := Option.isSome_iff_exists.1 h3.symm
    exact ⟨b, fun _ => rfl, fun _ => hc.2 b rfl⟩
   ·exact ⟨0, fun h' => absurd h' h, fun h' => absurd h' h⟩
  obtain ⟨b, hob, hblk⟩ := hfacts
  have hw := ht b W hc.1 hblk
  have hAc : (if j < l.length then A.put (some dj) (fv b) else A) = wJ ob A := by
   by_cases h : j < l.length
   ·rw [if_pos h, hob h]
   ·rw [if_neg h, h2 (by omega)]
  rw [hAc, hpe] at hw
  refine ⟨hsz, A, _, 0, Nat.zero_le _, (fun e he => by simp at he), (fun e he => hesl e (by simpa using he)), hjl, ⟨?_, ?_, fun t ht' => ?_⟩, ?_, fun i hi t hd => ?_, fun t hno => ?_, fun i hi hf o ho => ?_, by simpa using hw⟩
  ·rw [wJd, wJd, hM.defers, hA.defers]
  ·rw [wJs, wJs, hM.size, hA.size]
  ·by_cases e : ob.isSome = true ∧ dj = t
   ·obtain ⟨e1, rfl⟩ := e
    obtain ⟨b', rfl⟩ := Option.isSome_iff_exists.1 e1
    have hlt := obJ h2 e1
    show (a1.tmps.setIfInBounds dj (fv b')).getD dj undef = (A.tmps.setIfInBounds dj (fv b')).getD dj undef
    rw [getD_set_same _ _ _ (by rw [hM.size]; exact hslot j hlt dj (hdj hlt)), getD_set_same _ _ _ (by rw [hA.size]; exact hslot j hlt dj (hdj hlt))]
   ·rw [wJo ob a1 t (fun h3 h4 => e ⟨h3, h4⟩), wJo ob A t (fun h3 h4 => e ⟨h3, h4⟩)]
    by_cases hex : ∃ i ∈ xs, dstAt l i = some t
    ·obtain ⟨i, hi, hd⟩ := hex
     have hl : listed.getD i false = true := by
      cases hc' : listed.getD i false with
      | true => rfl
      | false => exact absurd ⟨i, hi, hc', hd⟩ ht'
     exact hM.in_ i ⟨hi, hl⟩ t hd
    ·rw [hM.out t (fun i hi hd => hex ⟨i, hi.1, hd⟩), hA.out t (fun i hi hd => hex ⟨i, (hyx i).1 hi, hd⟩)]
  ·rw [wJs, hA.size]
  ·exact wJo ob A t (fun h3 h4 => (ok.x i hi).2.1 (hjd (obJ h2 h3) i (ok.x i hi).1 (by rw [hd, h4])))
  ·rw [wJo ob A t (fun h3 h4 => hno j (obJ h2 h3) (by rw [hdj (obJ h2 h3), h4]))]
   exact hA.out t fun i hi => hno i (ok.x i ((hyx i).1 hi)).1
  ·obtain ⟨pre, post, e1, e2, e3⟩ := hav i ((hyx i).2 hi) hf o ho
   obtain ⟨LF, h3, h4⟩ := e3 _ (Good.above V)
   exact ⟨pre, post, LF, e1, h3, late_yields (hfl i hi hf o ho).1 ⟨V, Below.refl _ _⟩ h4⟩
 let St : Array Bool → Act → World → Prop := fun listed a W => StA listed a W ∨ StB listed a W
 have stepB : ∀ listed a W i o, l[i]? = some o → listed.getD i true = false → (∀ i', afterB l i i' = true → listed.getD i' false = true) → StB listed a W → wpListIn F n P l.toArray (Exit.then (St (listed.setIfInBounds i true)) Q) [o] a W := by
  rintro listed a W i o hol hu hwait ⟨hsz, A, Ac, m, hm', ht, hdp, hjl, hR, hAcs, hAcx, hAco, hfl, hwp⟩
  have hi : i < l.length := (List.getElem?_eq_some_iff.1 hol).1
  have hfalse : listed.getD i false = false := getD_both hu
  have hsel : ∀ cs b, o.op ≠ .select cs b := fun cs b => Region.noSelect_spec ok.nosel i o cs b (by simpa using hol)
  rcases ok.part i hi with hix | hie | hij
  ·obtain ⟨pre, post, LF, hx, hLF, hy⟩ := hfl i hix hfalse o hol
   have hag : ∀ t ∈ o.looksAt l.toArray, LF.tmps.getD t undef = a.tmps.getD t undef := fun t ht' => by
    by_cases hex : ∃ i', i' < l.length ∧ dstAt l i' = some t
    ·obtain ⟨i', hi', hd⟩ := hex
     obtain ⟨h1, h2⟩ := ok.deps pre i post hx o hol t ht' i' hi' hd
     have hix' : i' ∈ xs := by rw [hx]; simp [h2]
     rw [hLF.in_ i' h2 t hd, hR.same t (fun ⟨i2, h5, h6, h7⟩ => by
      obtain ⟨d, h8, h9⟩ := ok.own i' hi' (ok.x i' hix').2.2
      rw [hd] at h8
      cases h8
      have := h9 i2 (ok.x i2 h5).1 h7
      subst this
      rw [hwait _ h1] at h6
      cases h6), hAcx i' hix' t hd]
    ·have hno : ∀ i', i' < l.length → dstAt l i' ≠ some t := fun i' hi' hd => hex ⟨i', hi', hd⟩
     rw [hLF.out t (fun i' hi' => hno i' (ok.x i' (by rw [hx]; simp [hi'])).1), hR.same t (fun ⟨i2, h5, _, h7⟩ => hno i2 (ok.x i2 h5).1 h7), hAco t hno]
   have hya := hy.agree hsel (hLF.size.trans (hAcs.symm.trans hR.size.symm)) hag
   obtain ⟨d, hdi, huniq⟩ := ok.own i hi (ok.x i hix).2.2
   have hdo : o.dst = some d := by unfold dstAt at hdi; rw [hol] at hdi; exact hdi
   have hnext : St (listed.setIfInBounds i true) (a.put o.dst (valOf l A i)) W := by
    refine .inr ⟨by simpa using hsz, A, Ac, m, hm', fun e he => ?_, fun e he => ?_, fun h => ?_, ?_, hAcs, hAcx, hAco, fun i' hi' hf => ?_, hwp⟩
    ·rw [setD _ _ _ hsz hi]; unfold done; split
     ·rfl
     ·exact ht e he
    ·rw [setD _ _ _ hsz hi]; unfold done; rw [if_neg (fun e' => by subst e'; exact (ok.x e hix).2.2 (List.mem_of_mem_drop he))]; exact hdp e he
    ·rw [setD _ _ _ hsz hi]; unfold done; split
     ·rfl
     ·exact hjl h
    ·rw [hdo]
     refine ⟨hR.defers, by rw [← hR.size]; simp [Act.put], fun t ht' => ?_⟩
     by_cases e : t = d
     ·subst e
      rw [show (a.put (some t) (valOf l A i)).tmps = a.tmps.setIfInBounds t (valOf l A i) from rfl, getD_set_same _ _ _ (by rw [hR.size, hAcs]; exact hslot i hi t hdi), hAcx i hix t hdi]
      unfold valOf; rw [hdi]; rfl
     ·rw [show (a.put (some d) (valOf l A i)).tmps = a.tmps.setIfInBounds d (valOf l A i) from rfl, getD_set_other _ _ (Ne.symm e)]
      refine hR.same t fun ⟨i2, h5, h6, h7⟩ => ht' ⟨i2, h5, ?_, h7⟩
      rw [setD _ _ _ hsz hi]; unfold done
      rw [if_neg (fun e' => by subst e'; rw [hdi] at h7; exact e (Option.some.inj h7).symm)]
      exact h6
    ·rw [setD _ _ _ hsz hi] at hf
     unfold done at hf
     split at hf
     ·cases hf
     ·exact hfl i' hi' hf
   simp only [wpListIn]
   rcases hya.2 with ⟨hw, hv⟩ | ⟨hw, hv⟩
   ·rw [if_pos hw]
    unfold Oper.wpIn
    refine ⟨hya.1 W, ?_⟩
    rw [Oper.semAt_eq _ _ _ (hnd i o (by simpa using hol)), hv W]
    exact hnext
   ·rw [if_neg (by rw [hw]; simp)]
    refine ⟨hya.1 W, ?_⟩
    rw [hv] at hnext
    exact hnext
  ·have hmem : i ∈ es.drop m := by
    rcases (List.mem_append.1 (by rw [List.take_append_drop]; exact hie : i ∈ es.take m ++ es.drop m)) with h | h
    ·rw [ht i h] at hfalse; cases hfalse
    ·exact h
   have hml : m < es.length := by
    rcases Nat.lt_or_ge m es.length with h | h
    ·exact h
    ·rw [List.drop_of_length_le h] at hmem; cases hmem
   have hdrop : es.drop m = es[m] :: es.drop (m + 1) := List.drop_eq_getElem_cons hml
   have hie' : i = es[m] := by
    rw [hdrop] at hmem
    rcases List.mem_cons.1 hmem with h | h
    ·exact h
    ·exfalso
     have hlt : es[m] < i := by
      have hp := ok.upE.sublist (List.drop_sublist m es)
      rw [hdrop, List.pairwise_cons] at hp
      exact hp.1 i h
     have h1 := hwait _ (ok.chain i hie es[m] (List.getElem_mem _) hlt)
     rw [hdp es[m] (by rw [hdrop]; exact List.mem_cons_self)] at h1
     cases h1
   rw [hdrop, ← hie', pick_cons hol] at hwp
   have hdn : o.dst = none := by
    have := ok.edst i hie
    unfold dstAt at this
    rw [hol] at this
    exact this
   refine wpListIn_rel hsel (hnd i o (by simpa using hol)) hdn hR (fun t ht' => ?_) hwp ?_
   ·rintro ⟨i2, h5, h6, h7⟩
    rw [hwait _ (ok.depsE i hie o hol t ht' i2 (ok.x i2 h5).1 h7)] at h6
    cases h6
   ·rintro A' a' W' eA ea ed hwp'
    refine .inr ⟨by simpa using hsz, A, A', m + 1, hml, fun e he => ?_, fun e he => ?_, fun h => ?_, ?_, by rw [eA]; exact hAcs, by rw [eA]; exact hAcx, by rw [eA]; exact hAco, fun i' hi' hf => ?_, hwp'⟩
    ·rw [setD _ _ _ hsz hi]; unfold done; split
     ·rfl
     ·rename_i hne
      rw [List.take_succ_eq_append_getElem hml] at he
      rcases List.mem_append.1 he with h | h
      ·exact ht e h
      ·exact absurd ((List.mem_singleton.1 h).trans hie'.symm) hne
    ·rw [setD _ _ _ hsz hi]; unfold done
     have hne : e ≠ i := fun e' => by
      have hp := ok.upE.sublist (List.drop_sublist m es)
      rw [hdrop, List.pairwise_cons] at hp
      have := hp.1 e he
      omega
     rw [if_neg hne]
     exact hdp e (by rw [hdrop]; exact List.mem_cons_of_mem _ he)
    ·rw [setD _ _ _ hsz hi]; unfold done; split
     ·rfl
     ·exact hjl h
    ·refine ⟨ed, by rw [ea, eA]; exact hR.size, fun t ht' => ?_⟩
     rw [ea, eA]
     refine hR.same t fun ⟨i2, h5, h6, h7⟩ => ht' ⟨i2, h5, ?_, h7⟩
     rw [setD _ _ _ hsz hi]; unfold done
     rw [if_neg (fun e' => by subst e'; exact (ok.x i2 h5).2.2 hie)]
     exact h6
    ·rw [setD _ _ _ hsz hi] at hf
     unfold done at hf
     split at hf
     ·cases hf
     ·exact hfl i' hi' hf
  ·subst hij
   rw [hjl hi] at hfalse
   cases hfalse
 refine wpIn_region_inv hm St ?_ ?_ ?_ ?_
 ·rintro listed a W (⟨h, _⟩ | ⟨h, _⟩) <;> simpa using h
 ·obtain ⟨qs, later, A, hx, hA, _, hav, hnext⟩ := flow_enter (F := F) (n := n) (P := P) (tail := tail) (a0 := a0) ok hs hfin stages hr0 (ys := []) h (by simpa using hxs.symm) (Mixed.nil (by simp))
  have hrep : ∀ i, (Array.replicate l.toArray.size false).getD i false = false := fun i => getD_replicate_false _ _
  refine .inl ⟨by simp, fun e _ => hrep e, qs, later, A, V0, [], none, a0, by simpa using hx, fun i _ => hrep i, by simpa using hA, Mixed.nil (fun i hi => by rw [hrep i] at hi; cases hi.2), rfl, fun i hi _ => by simpa using hav i hi, fun _ => hrep j, fun _ => rfl, ⟨hV, fun b e => by cases e⟩, fun p hp => by simp at hp, Nat.le_refl _, hnext⟩
 ·rintro listed a W i o ho hu hd hst
  have hol : l[i]? = some o := by simpa using ho
  have hi : i < l.length := (List.getElem?_eq_some_iff.1 hol).1
  have hwait : ∀ i', afterB l i i' = true → listed.getD i' false = true := fun i' h => by
   unfold afterB at h
   rw [hol] at h
   obtain ⟨e, he, h2⟩ := List.any_eq_true.1 h
   simp only [Bool.and_eq_true, beq_iff_eq] at h2
   rw [← h2.1]
   exact hd e (by simpa using he) h2.2
  rcases hst with hA0 | hBB
  ·obtain ⟨hsz, hesl, ys, later, A, V, I, ob, a1, hx, hlater, hA, hM, rfl, hav, h1, h2, hc, hI, hVV, hnext⟩ := hA0
   have hfalse : listed.getD i false = false := getD_both hu
   have hsel : ∀ cs b, o.op ≠ .select cs b := fun cs b => Region.noSelect_spec ok.nosel i o cs b ho
   rcases ok.part i hi with hix | hie | hij
   ·have hij : i ≠ j := (ok.x i hix).2.1
    obtain ⟨d, hdi, hun⟩ := ok.own i hi (ok.x i hix).2.2
    have hdo : o.dst = some d := by unfold dstAt at hdi; rw [hol] at hdi; exact hdi
    have hdd : ob.isSome = true → d ≠ dj := fun hsm e => by subst e; exact hij (hjd (obJ h2 hsm) i hi hdi)
    have e1 : ∀ e ∈ es, (listed.setIfInBounds i true).getD e false = false := fun e he => by
     rw [setD _ _ _ hsz hi]; unfold done
     rw [if_neg (fun e' => by subst e'; exact (ok.x e hix).2.2 he)]
     exact hesl e he
    have e2 : j < l.length → (listed.setIfInBounds i true).getD j false = ob.isSome := fun h => by
     rw [setD _ _ _ hsz hi]; unfold done
     rw [if_neg (Ne.symm hij)]
     exact h1 h
    have hmem : i ∈ ys ∨ i ∈ later := by rw [hx] at hix; exact List.mem_append.1 hix
    rcases hmem with hy | hlt
    ·-- quiet
     obtain ⟨pre, post, hp1, hp2, hp3⟩ := hav i hy hfalse o hol
     obtain ⟨LF, hLF, hyq⟩ := hp3 (cls I V ob) ⟨⟨W, hc⟩, fun _ h => h.1, fun W W' h k => growC h k⟩
     have hag := agreeA hol hp1 hwait h2 hLF hM
     have hya := yields_agree hsel (hLF.size.trans ((wJs ob a1).trans hM.size).symm) hag hyq
     have hval : valOf l A i = A.tmps.getD d undef := by unfold valOf; rw [hdi]; rfl
     have hnx : ∀ W', cls I V ob W' → St (listed.setIfInBounds i true) ((wJ ob a1).put o.dst (valOf l A i)) W' := fun W' hW' => by
      refine .inl ⟨by simpa using hsz, e1, ys, later, A, V, I, ob, a1.put (some d) (A.tmps.getD d undef), hx, fun k hk => ?_, hA, (hM.step hdi (fun i' hi' hd' => hun i' (ok.x i' hi'.1).1 hd') (hslot i hi d hdi)).congr (mixS listed i hsz hi hix), by rw [hdo, hval]; exact wJp ob a1 d _ hdd, fun k hk hf => ?_, e2, h2, hW', hI, hVV, hnext⟩
      ·rw [setD _ _ _ hsz hi]; unfold done
       rw [if_neg (fun e' => by
        subst e'
        have := ok.nodup
        rw [hx, List.nodup_append] at this
        exact this.2.2 k hy k hk rfl)]
       exact hlater k hk
      ·rw [setD _ _ _ hsz hi] at hf
       unfold done at hf
       split at hf
       ·cases hf
       ·exact hav k hk hf
     simp only [wpListIn]
     rcases hya.2 with ⟨hw, hv⟩ | ⟨hw, hv⟩
     ·rw [if_pos hw]
      exact wpIn_of_quiet' (K := fun a' => a' = (wJ ob a1).put o.dst (valOf l A i)) (hnd i o ho) hc (fun a' W' hW' ha' => by subst ha'; exact hnx W' hW') hya.1 ⟨_, hv, rfl⟩
     ·rw [if_neg (by rw [hw]; simp)]
      refine ⟨hya.1 W hc, ?_⟩
      have := hnx W hc
      rw [hv] at this
      exact this
    ·rcases hnext with ⟨h3, _⟩ | ⟨x, r, ox, he, hxw, hr, hox, hwx⟩
     ·rw [h3] at hlt; cases hlt
     rw [he] at hlt
     rcases List.mem_cons.1 hlt with rfl | hlt
     ·-- the next call
      obtain rfl : ox = o := Option.some.inj (hox.symm.trans hol)
      have hp1 : xs = ys ++ i :: xsOf r fin := by rw [hx, he]
      have hag := agreeA hol hp1 hwait h2 hA hM
      refine wpListIn_relD hsel (hnd i ox ho) (by rw [wJs, hM.size, hA.size]) hag (hwx W hc.1) ?_
      rintro A' a' W' v eA ea ed ⟨hdf, hbW, hfl⟩
      have hpd : ∀ (z : Act) (u : Value), (z.put ox.dst u).defers = z.defers := fun z u => by cases ox.dst <;> rfl
      have eA' : A' = A.put (some d) v := by
       obtain ⟨t1, d1⟩ := A'
       rw [hdo] at eA
       simp only at eA hdf
       subst eA hdf
       rfl
      have ea' : a' = (wJ ob a1).put (some d) v := by
       obtain ⟨t1, d1⟩ := a'
       rw [hdo] at ea
       have h5 := ed hdf
       simp only at ea h5
       subst ea h5
       rfl
      rw [eA'] at hfl
      have hA1 : Mixed l (· ∈ ys ++ [i]) (A.put (some d) v) a0 (A.put (some d) v) := by
       have hpt : (A.put (some d) v).tmps = A.tmps.setIfInBounds d v := rfl
       refine ⟨hA.defers, by rw [hpt]; simpa using hA.size, fun _ _ _ _ => rfl, fun t ht => ?_⟩
       rw [hpt, getD_set_other _ _ (fun e => ht i (by simp) (by rw [hdi, e]))]
       exact hA.out t fun k hk => ht k (by simp [hk])
      obtain ⟨qs, later', A2, hx2, hA2, hsame, hav2, hnext2⟩ := flow_enter (F := F) (n := n) (P := P) (tail := tail) (a0 := a0) ok hs hfin r hr (ys := ys ++ [i]) hfl (by rw [hp1]; simp) hA1
      have hbV : Below V.heap.size V W' := hc.1.trans (hbW.mono hc.1.size)
      have hdv : (A.put (some d) v).tmps.getD d undef = v := getD_set_same _ _ _ (by rw [hA.size]; exact hslot i hi d hdi)
      have hold : ∀ k ∈ ys, ∀ t, dstAt l k = some t → A.tmps.getD t undef = A2.tmps.getD t undef := fun k hk t hd => by
       rw [← hsame k (by simp [hk]) t hd]
       refine (getD_set_other _ _ (fun e => ?_)).symm
       subst e
       have hkx : k ∈ xs := by rw [hx]; simp [hk]
       have := hun k (ok.x k hkx).1 hd
       subst this
       have h6 := ok.nodup
       rw [hp1, List.nodup_append] at h6
       exact h6.2.2 k hk k (by simp) rfl
      have hlat : ∀ k ∈ later', k ∈ later := fun k hk => by
       have h6 : xs = ys ++ (i :: (qs ++ later')) := by rw [hx2]; simp
       rw [hp1] at h6
       have h7 := List.append_cancel_left h6
       rw [he, h7]
       simp [hk]
      have hlist : ∀ k, k ∈ xs ∧ listed.getD k false = true → k ∈ ys := fun k hk => by
       have := hk.1
       rw [hx] at this
       rcases List.mem_append.1 this with h | h
       ·exact h
       ·rw [hlater k h] at hk; cases hk.2
      have hM2 : Mixed l (fun k => k ∈ xs ∧ (listed.setIfInBounds i true).getD k false = true) A2 a0 (a1.put (some d) v) := by
       have h6 := (hM.change (A' := A2) (fun k hk t hd => hold k (hlist k hk) t hd)).step hdi (fun i' hi' hd' => hun i' (ok.x i' hi'.1).1 hd') (hslot i hi d hdi)
       have h7 : A2.tmps.getD d undef = v := by rw [← hsame i (by simp) d hdi]; exact hdv
       rw [h7] at h6
       exact h6.congr (mixS listed i hsz hi hix)
      refine .inl ⟨by simpa using hsz, e1, ys ++ [i] ++ qs, later', A2, W', (W.heap.size, W'.heap.size) :: I, ob, a1.put (some d) v, hx2, fun k hk => ?_, hA2, hM2, by rw [ea']; exact wJp ob a1 d v hdd, fun k hk hf => ?_, e2, h2, ⟨Below.refl _ _, fun b e => ?_⟩, fun p hp => ?_, Nat.le_trans hVV hbV.size, hnext2⟩
      ·rw [setD _ _ _ hsz hi]; unfold done
       rw [if_neg (fun e' => by
        subst e'
        have := ok.nodup
        rw [hx2, List.nodup_append] at this
        exact this.2.2 k (by simp) k hk rfl)]
       exact hlater k (hlat k hk)
      ·rw [setD _ _ _ hsz hi] at hf
       unfold done at hf
       split at hf
       ·cases hf
       ·rename_i hki
        rcases List.mem_append.1 hk with hk | hk
        ·have hk' : k ∈ ys := by
          rcases List.mem_append.1 hk with h | h
          ·exact h
          ·exact absurd (List.mem_singleton.1 h) hki
         intro o' ho'
         obtain ⟨pre, post, q1, q2, q3⟩ := hav k hk' hf o' ho'
         refine ⟨pre, post, q1, fun k' hk2 => by simp [q2 k' hk2], fun C hC => ?_⟩
         obtain ⟨LF, q4, q5⟩ := q3 C (hC.up hbV)
         have hkv : valOf l A k = valOf l A2 k := by
          have hkx : k ∈ xs := by rw [hx]; simp [hk']
          obtain ⟨dk, g1, _⟩ := ok.own k (ok.x k hkx).1 (ok.x k hkx).2.2
          unfold valOf
          rw [g1]
          exact hold k hk' dk g1
         exact ⟨LF, q4.change (fun k2 hk2 t hd => hold k2 (q2 k2 hk2) t hd), by rw [← hkv]; exact q5⟩
        ·exact hav2 k hk
      ·obtain ⟨g1, g2, g3⟩ := hc.2 b e
       refine ⟨g1, g2.below hbW g2.lt, fun p hp => ?_⟩
       rcases List.mem_cons.1 hp with rfl | hp
       ·exact .inl g2.lt
       ·exact g3 p hp
      ·rcases List.mem_cons.1 hp with rfl | hp
       ·exact Nat.le_refl _
       ·exact Nat.le_trans (hI p hp) hbV.size
     ·-- not yet
      exfalso
      have hp1 : xs = ys ++ x :: xsOf r fin := by rw [hx, he]
      obtain ⟨m, hm1, hm2⟩ := ok.ord ys x _ hp1 hxw i hlt
      have := hwait m hm2
      rw [hlater m (by rw [he]; exact hm1)] at this
      cases this
   ·refine stepB listed _ W i o hol hu hwait (toB listed _ W ⟨hsz, hesl, ys, later, A, V, I, ob, a1, hx, hlater, hA, hM, rfl, hav, h1, h2, hc, hI, hVV, hnext⟩ (fun h => hwait j (ok.fresh i hie h)) fun i' hi' hf o' ho' => ?_)
    rcases ok.late i' hi' o' ho' with h | h
    ·exact h
    ·rw [hwait i' (h i hie)] at hf
     cases hf
   ·subst hij
    obtain ⟨oj, hoj, hdd, hgj, hab, hrun⟩ := hj hi
    obtain rfl : oj = o := Option.some.inj (hoj.symm.trans hol)
    have hob : ob = none := by
     have h3 := h1 hi
     rw [hfalse] at h3
     cases ob with
     | none => rfl
     | some b => cases h3
    subst hob
    have hwant : Region.wanted oj (yielded l.toArray (wJ none a1).tmps) = true := by unfold Region.wanted; rw [hgj]
    simp only [wpListIn]
    rw [if_pos hwant]
    unfold Oper.wpIn
    refine ⟨fun f hf => (by rw [hab] at hf; cases hf), ?_⟩
    rw [Oper.semAt_eq _ _ _ (hnd i oj ho), hrun]
    show Exit.then _ Q .normal _ _
    refine .inl ⟨by simpa using hsz, fun e he => ?_, ys, later, A, V, I, some W.heap.size, a1, hx, fun k hk => ?_, hA, hM.congr (fun k => ?_), by rw [hdd], fun k hk hf => ?_, fun _ => ?_, fun h => absurd hi (by omega), ⟨hc.1.alloc hc.1.size _, fun b hb => ?_⟩, hI, hVV, hnext⟩
    ·rw [setD _ _ _ hsz hi]; unfold done
     rw [if_neg (fun e' => by subst e'; exact hje hi he)]
     exact hesl e he
    ·rw [setD _ _ _ hsz hi]; unfold done
     rw [if_neg (fun e' => by subst e'; exact (ok.x k (by rw [hx]; simp [hk])).2.1 rfl)]
     exact hlater k hk
    ·rw [setD _ _ _ hsz hi]; unfold done
     by_cases e : k = i
     ·subst e
      simp only
      exact ⟨fun h => absurd rfl (ok.x k h.1).2.1, fun h => absurd rfl (ok.x k h.1).2.1⟩
     ·rw [if_neg e]
    ·rw [setD _ _ _ hsz hi] at hf
     unfold done at hf
     split at hf
     ·cases hf
     ·exact hav k hk hf
    ·rw [setD _ _ _ hsz hi]; simp [done]
    ·cases hb
     exact ⟨Nat.le_trans hVV hc.1.size, Blk.new W _ _, fun p hp => .inr (Nat.le_trans (hI p hp) hc.1.size)⟩
  ·exact stepB listed a W i o hol hu hwait hBB
 ·rintro listed a W hr hst
  have hal : ∀ i, i < l.length → listed.getD i false = true := by
   rcases hst with ⟨h, _⟩ | ⟨h, _⟩ <;> exact fun i hi => ready_nil_all ok.back (by simpa using h) hr i (by simpa using hi)
  have hBB : StB listed a W := by
   rcases hst with h | h
   ·exact toB listed a W h (fun h' => hal j h') (fun i hi hf => by rw [hal i (ok.x i hi).1] at hf; cases hf)
   ·exact h
  obtain ⟨hsz, A, Ac, m, hm', ht, hdp, hjl, hR, hAcs, hAcx, hAco, hfl, hwp⟩ := hBB
  have hnil : es.drop m = [] := by
   cases h : es.drop m with
   | nil => rfl
   | cons e r =>
    have h1 := hdp e (by rw [h]; simp)
    rw [hal e (ok.e e (List.mem_of_mem_drop (by rw [h]; simp))).1] at h1
    cases h1
  rw [hnil] at hwp
  have hEq : a = Ac := by
   obtain ⟨t, d⟩ := a
   obtain ⟨t', d'⟩ := Ac
   have e1 : d = d' := hR.defers
   have s1 : t.size = t'.size := hR.size
   have e2 : t = t' := by
    apply Array.ext s1
    intro i h1 h2
    have := hR.same i (fun ⟨i2, h5, h6, _⟩ => by rw [hal i2 (ok.x i2 h5).1] at h6; cases h6)
    simpa [h1, h2] using this
   rw [e1, e2]
  subst hEq
  exact hwp
theorem wpIn_flow_new {Q : Exit → Act → World → Prop} {id : Nat} {a0 : Act} {w V0 : World} {oj : Oper} {dj : Tmp} (stages : List (List Bool × Nat)) (fin em : List Bool) (j : Nat) (fv : Nat → Value) (ty : TypeId) (cs : Array Value)
  (hm : P.follows .mixedOrders = true) (hB : ((flowB l (xsOf stages fin) (stages.map (·.2)) (idxs 0 em) j && stages.all (fun p => decide (p.1.length ≤ l.length)) && decide (fin.length ≤ l.length) && decide (em.length ≤ l.length)) && decide (j < l.length)) = true)
  (hs : slotsM l a0.tmps.size = true) (hV : Below V0.heap.size V0 w.drew) (hoj : l[j]? = some oj) (hdj : oj.dst = some dj) (hgj : oj.guard = none) (hab : ∀ ρ W, oj.about P W ρ = none)
  (hrun : ∀ ρ W, (execOp ρ oj).run P W = .ok (.value (fv W.heap.size)) (W.alloc (.cells cs ty)))
  (h : wpFlow F n P l (fun I V A => ∀ b W, Below V.heap.size V W → V0.heap.size ≤ b → Blk W b ty cs → (∀ p ∈ I, b < p.1 ∨ p.2 ≤ b) → wpT F n P l.toArray (Q .normal) (pickB l em) (A.put (some dj) (fv b)) W) stages fin [] V0 a0) : (Code.region id l.toArray true).wpIn F n P Q a0 w := by
 rw [Bool.and_eq_true, decide_eq_true_eq] at hB
 refine wpIn_region_flow stages fin em j dj fv ty cs hm hB.1 hs hV (fun _ => ⟨oj, hoj, hdj, hgj, hab, hrun⟩) ?_
 have e : tailF F n P l em j dj fv ty cs V0 (Q .normal) = fun I V A => ∀ b W, Below V.heap.size V W → V0.heap.size ≤ b → Blk W b ty cs → (∀ p ∈ I, b < p.1 ∨ p.2 ≤ b) → wpT F n P l.toArray (Q .normal) (pickB l em) (A.put (some dj) (fv b)) W := by
  funext I V A
  unfold tailF
  exact propext ⟨fun k b W h1 h2 h3 h4 => by have := k b W h1 (fun _ => ⟨h2, h3, h4⟩); rwa [if_pos hB.2] at this, fun k b W h1 h2 => by rw [if_pos hB.2]; exact k b W h1 (h2 hB.2).1 (h2 hB.2).2.1 (h2 hB.2).2.2⟩
 rw [e]
 exact h
theorem wpIn_flow_old {Q : Exit → Act → World → Prop} {id : Nat} {a0 : Act} {w V0 : World} (stages : List (List Bool × Nat)) (fin em : List Bool)
  (hm : P.follows .mixedOrders = true) (hB : (flowB l (xsOf stages fin) (stages.map (·.2)) (idxs 0 em) l.length && stages.all (fun p => decide (p.1.length ≤ l.length)) && decide (fin.length ≤ l.length) && decide (em.length ≤ l.length)) = true)
  (hs : slotsM l a0.tmps.size = true) (hV : Below V0.heap.size V0 w.drew)
  (h : wpFlow F n P l (fun I V A => ∀ W, Below V.heap.size V W → wpT F n P l.toArray (Q .normal) (pickB l em) A W) stages fin [] V0 a0) : (Code.region id l.toArray true).wpIn F n P Q a0 w := by
 refine wpIn_region_flow stages fin em l.length 0 (fun _ => undef) 0 #[] hm hB hs hV (fun h => absurd h (Nat.lt_irrefl _)) ?_
 have e : tailF F n P l em l.length 0 (fun _ => undef) 0 #[] V0 (Q .normal) = fun I V A => ∀ W, Below V.heap.size V W → wpT F n P l.toArray (Q .normal) (pickB l em) A W := by
  funext I V A
  unfold tailF
  exact propext ⟨fun k W h1 => by have := k 0 W h1 (fun h => absurd h (Nat.lt_irrefl _)); rwa [if_neg (Nat.lt_irrefl _)] at this, fun k b W h1 _ => by rw [if_neg (Nat.lt_irrefl _)]; exact k W h1⟩
 rw [e]
 exact h
end
end
section
open Go.RowKit
structure ElemI (P : Program) (t e : TypeId) (i : TypeInfo) (z : Value) (size bytes : Nat) : Prop where
 und : P.underlying t = some (.slice e)
 info : P.info? e = some i
 zero : i.zero = some z
 isize : i.size = size
 ibytes : i.bytes = bytes
 zcells : z.cells.size = size
 pos : 0 < size
def ElemAt (P : Program) (t e : TypeId) (z : Value) (size bytes : Nat) : Prop := ∃ i, ElemI P t e i z size bytes
def Own (w : World) (base : Nat) (e : TypeId) (size : Nat) (A : Option Addr) (n cap : Nat) (xs : List Value) : Prop := w.ownsRow base e size (.slice A n cap) n xs
section
variable {w w' : World} {base n cap size : Nat} {e : TypeId} {A : Option Addr} {xs : List Value}
theorem Own.none_ (w : World) (base : Nat) (e : TypeId) (size : Nat) : Own w base e size none 0 0 [] := World.ownsRow_nil w base e size
theorem Own.form (h : Own w base e size A n cap xs) : (A = none ∧ n = 0 ∧ cap = 0 ∧ xs = []) ∨ ∃ g cur, A = some ⟨g, 0, none⟩ ∧ base ≤ g ∧ Blk w g e cur ∧ n ≤ cap ∧ cap ≤ maxLen ∧ cur.size = cap * size ∧ cur.toList.take (n * size) = xs ∧ xs.length = n * size := by
 rcases h.2 with ⟨hv, h0⟩ | ⟨g, cap', cur, hv, hb, hg, h1, h2, h3, h4⟩
 ·simp at hv
  obtain ⟨rfl, rfl, rfl⟩ := hv
  exact .inl ⟨rfl, rfl, rfl, List.eq_nil_of_length_eq_zero (by simpa using h.1)⟩
 ·simp at hv
  obtain ⟨rfl, rfl⟩ := hv
  exact .inr ⟨g, cur, rfl, hb, hg, h1, h2, h3, h4, h.1⟩
theorem Own.len (h : Own w base e size A n cap xs) : xs.length = n * size := h.1
theorem Own.cap_le (h : Own w base e size A n cap xs) : n ≤ cap ∧ cap ≤ maxLen := by
 rcases h.form with ⟨_, rfl, rfl, _⟩ | ⟨_, _, _, _, _, h1, h2, _⟩
 ·exact ⟨Nat.le_refl _, by unfold maxLen; omega⟩
 ·exact ⟨h1, h2⟩
theorem Own.reads (h : Own w base e size A n cap xs) {B : Nat} (hB : w.heap.size ≤ B) : Reads w B size A n xs := by
 rcases h.form with ⟨rfl, rfl, rfl, rfl⟩ | ⟨g, cur, rfl, hb, hg, h1, h2, h3, h4, h5⟩
 ·exact Reads.none_
 ·refine ⟨h5, fun _ => ⟨_, rfl, Nat.lt_of_lt_of_le hg.lt hB, fun j u hu => ?_⟩⟩
  have ha : ((⟨g, 0, none⟩ : Addr).add j) = ⟨g, j, none⟩ := by
   unfold Addr.add
   by_cases hj : j = 0
   ·simp [hj]
   ·simp [hj]
  have hj : j < n * size := by
   rw [← h5]
   exact (List.getElem?_eq_some_iff.1 hu).1
  rw [ha, hg.cell, ← Array.getElem?_toList, ← hu, ← h4, List.getElem?_take, if_pos hj]
theorem Own.mono (h : Own w base e size A n cap xs) {b' : Nat} (hb : b' ≤ base) : Own w b' e size A n cap xs := by
 refine ⟨h.1, ?_⟩
 rcases h.2 with h' | ⟨g, cap', cur, hv, hb', hr⟩
 ·exact .inl h'
 ·exact .inr ⟨g, cap', cur, hv, Nat.le_trans hb hb', hr⟩
theorem Own.alloc (h : Own w base e size A n cap xs) (o : Obj) : Own (w.alloc o) base e size A n cap xs := World.ownsRow.alloc h o
theorem Own.drewN (h : Own w base e size A n cap xs) (k : Nat) : Own (w.drewN k) base e size A n cap xs := h
theorem Own.below {B : Nat} (h : Own w base e size A n cap xs) (hb : Below B w w') (hB : w.heap.size ≤ B) : Own w' base e size A n cap xs := by
 refine ⟨h.1, ?_⟩
 rcases h.2 with h' | ⟨g, cap', cur, hv, hb', hg, hr⟩
 ·exact .inl h'
 ·have hl : g < w.heap.size := by
   rcases Nat.lt_or_ge g w.heap.size with hlt | hge
   ·exact hlt
   ·rw [Array.getElem?_eq_none hge] at hg; cases hg
  exact .inr ⟨g, cap', cur, hv, hb', (hb.block g (by omega)).trans hg, hr⟩
theorem Own.lt (h : Own w base e size A n cap xs) {a : Addr} (ha : A = some a) : base ≤ a.block ∧ a.block < w.heap.size := by
 rcases h.form with ⟨rfl, _⟩ | ⟨g, cur, rfl, hb, hg, _⟩
 ·cases ha
 ·cases ha; exact ⟨hb, hg.lt⟩
theorem Own.nil (h : Own w base e size none n cap xs) : n = 0 ∧ cap = 0 ∧ xs = [] := by
 rcases h.form with ⟨_, h1, h2, h3⟩ | ⟨g, cur, h', _⟩
 ·exact ⟨h1, h2, h3⟩
 ·cases h'
end
theorem ownBlock_slice (A : Option Addr) (n cap : Nat) : (Value.slice A n cap).ownBlock = A.map (·.block) := by
 cases A <;> rfl
section
variable {P : Program} (w : World)
theorem run_append_any {t e : TypeId} (ty : TypeId) {z : Value} {size bytes : Nat} (EE : ElemAt P t e z size bytes) {base : Nat} {A : Option Addr} {n cap : Nat} {xs : List Value} (hown : Own w base e size A n cap xs)
  {A2 : Option Addr} {m c B : Nat} {news : List Value} (hR : Reads w B size A2 m news) (h1 : ∀ u ∈ news, u.oneCell' = true) (h63 : n + m ≤ maxLen) (hbytes : (n + m) * bytes ≤ 140737488355328) (hbase : base ≤ w.heap.size) :
  ∃ A' cap' w', (Builtin.append_ #[t, t] ty #[.slice A n cap, .slice A2 m c]).run P w = .ok (.slice A' (n + m) cap') w' ∧ Own w' base e size A' (n + m) cap' (xs ++ news) ∧ w.grownBy w' (A.map (·.block)) ∧ (A' = A ∨ A' = some ⟨w.heap.size, 0, none⟩) := by
 obtain ⟨i, E⟩ := EE
 have main : ∀ (ad : Addr), (∀ j u, news[j]? = some u → w.cell? (ad.add j) = some u) → ∃ A' cap' w', (Builtin.append_ #[t, t] ty #[.slice A n cap, .slice (some ad) m c]).run P w = .ok (.slice A' (n + m) cap') w' ∧ Own w' base e size A' (n + m) cap' (xs ++ news) ∧ w.grownBy w' (A.map (·.block)) ∧ (A' = A ∨ A' = some ⟨w.heap.size, 0, none⟩) := by
  intro ad hc
  obtain ⟨v', w', hr, h2, h3, h4, h5⟩ := run_append_own_at (P := P) w base t ty e i z size bytes E.und E.info E.zero E.isize E.ibytes E.zcells E.pos _ n xs hown ad m c news hR.1 hc h1 h63 hbytes hbase
  rw [ownBlock_slice] at h3
  rcases h2.2 with ⟨hv, h0⟩ | ⟨g, cap', cur, hv, hb, hg, _⟩
  ·subst hv
   have hn : n = 0 := by omega
   have hm : m = 0 := by omega
   have hA := (h4.1 rfl).1
   simp at hA
   obtain ⟨rfl, rfl, rfl⟩ := hA
   subst hm
   exact ⟨none, 0, w', hr, h2, h3, .inl rfl⟩
  ·subst hv
   refine ⟨_, cap', w', hr, h2, h3, ?_⟩
   rcases hown.form with ⟨rfl, rfl, rfl, _⟩ | ⟨g', cur', rfl, _⟩
   ·right
    rcases h5 with h5 | h5
    ·simp [Value.ownBlock] at h5
    ·simp [Value.ownBlock] at h5; rw [h5]
   ·rcases h5 with h5 | h5
    ·left; simp [Value.ownBlock] at h5; rw [h5]
    ·right; simp [Value.ownBlock] at h5; rw [h5]
 cases A2 with
 | some ad =>
  refine main ad ?_
  rcases Nat.eq_zero_or_pos m with h0 | h0
  ·have : news = [] := List.eq_nil_of_length_eq_zero (by rw [hR.1, h0]; simp)
   intro j u hu
   rw [this] at hu; simp at hu
  ·obtain ⟨ad', hA, _, hc⟩ := hR.2 h0
   cases hA
   exact hc
 | none =>
  rcases Nat.eq_zero_or_pos m with h0 | h0
  ·subst h0
   have hne : news = [] := List.eq_nil_of_length_eq_zero (by rw [hR.1]; simp)
   subst hne
   have hn : n ≤ cap := (Own.cap_le hown).1
   refine ⟨A, cap, w, ?_, by simpa using hown, ⟨rfl, rfl, rfl, Nat.le_refl _, fun _ _ _ => rfl⟩, .inl rfl⟩
   rcases hown.form with ⟨rfl, rfl, rfl, _⟩ | ⟨g, cur, rfl, _⟩
   ·simp [Builtin.append_, run_underlying E.und, sizeOf, typeInfo, E.info, Builtin.lenOf, Builtin.firstCells]
   ·simp [Builtin.append_, run_underlying E.und, sizeOf, typeInfo, E.info, Builtin.lenOf, Builtin.firstCells, hn, storeCells]
  ·obtain ⟨ad', hA, _⟩ := hR.2 h0
   cases hA
theorem wpList_append_any {ops : Array Oper} {rest : List Oper} {o : Oper} {a : Act} {Q : Exit → Act → World → Prop} (hgd : o.guard = none) (s x : Operand) {t e : TypeId}
  (ho : o.op = .call { callee := .builtin .append, args := #[s, x], argTypes := #[t, t] })
  {z : Value} {size bytes : Nat} (EE : ElemAt P t e z size bytes) {base : Nat} {A : Option Addr} {n cap : Nat} {xs : List Value} (hs : a.eval s = .slice A n cap) (hown : Own w base e size A n cap xs)
  {A2 : Option Addr} {m c B : Nat} {news : List Value} (hx : a.eval x = .slice A2 m c) (hR : Reads w B size A2 m news) (h1 : ∀ u ∈ news, u.oneCell' = true) (h63 : n + m ≤ maxLen) (hbytes : (n + m) * bytes ≤ 140737488355328) (hbase : base ≤ w.heap.size)
  (h : ∀ A' cap' w', Own w' base e size A' (n + m) cap' (xs ++ news) → w.grownBy w' (A.map (·.block)) → (A' = A ∨ A' = some ⟨w.heap.size, 0, none⟩) → wpList P ops Q rest (a.put o.dst (.slice A' (n + m) cap')) w') :
  wpList P ops Q (o :: rest) a w := by
 refine wpList_plain hgd fun K hK => ?_
 obtain ⟨A', cap', w', hr, h2, h3, h4⟩ := run_append_any (P := P) w o.type EE hown hR (c := c) h1 h63 hbytes hbase
 unfold Oper.wp execOp
 simp only [ho, resolve, invoke, builtin, Sem.run_bind, Sem.run_pure, Result.andThen_ok, List.map_toArray, List.map_cons, List.map_nil, hs, hx, hr]
 exact hK _ _ (h A' cap' w' h2 h3 h4)
end
theorem info_int : (Tryz.prog.info? 3).map (fun i => (i.zero, i.size, i.bytes)) = some (some (.int .i64 0), 1, 8) := by kernel_rfl
theorem elem_int : ElemAt Tryz.prog 22 3 (.int .i64 0) 1 8 := by
 obtain ⟨i0, hi, hz0, hz1, hz2⟩ := info_parts info_int
 exact ⟨i0, Tryz.underlying22, hi, hz0, hz1, hz2, rfl, by decide⟩
theorem eql_nil_int (w : World) (a : Option Addr) (n c n' c' : Nat) : (binOp .eql 22 (.slice a n c) (.slice none n' c')).run Tryz.prog w = .ok (.bool a.isNone) w := Lib.run_eql_slice_nil w _ _ a n c n' c' Tryz.underlying22
theorem ints_one (l : List Int) : ∀ u ∈ l.map (Value.int .i64), u.oneCell' = true := by
 intro u hu; simp at hu; obtain ⟨x, _, rfl⟩ := hu; rfl
end
section
open Go.RowKit
def wrt : Array Value → Nat → List Value → Array Value
 | cs, _, [] => cs
 | cs, o, v :: r => wrt (cs.setIfInBounds o v) (o + 1) r
theorem wrt_size : ∀ (vs : List Value) (o : Nat) (cs : Array Value), (wrt cs o vs).size = cs.size
 | [], _, _ => rfl
 | v :: r, o, cs => by rw [wrt, wrt_size r]; simp
theorem wrt_out : ∀ (vs : List Value) (o : Nat) (cs : Array Value) (k : Nat), k < o ∨ o + vs.length ≤ k → (wrt cs o vs)[k]? = cs[k]?
 | [], _, _, _, _ => rfl
 | v :: r, o, cs, k, h => by
  simp at h
  rw [wrt, wrt_out r _ _ _ (by omega), Array.getElem?_setIfInBounds_ne (by omega)]
theorem wrt_in : ∀ (vs : List Value) (o : Nat) (cs : Array Value) (k : Nat), k < vs.length → o + vs.length ≤ cs.size → (wrt cs o vs)[o + k]? = vs[k]?
 | [], _, _, _, h, _ => by simp at h
 | v :: r, o, cs, k, h, hs => by
  simp at hs h
  cases k with
  | zero => rw [wrt, wrt_out r _ _ _ (.inl (by omega)), Nat.add_zero, Array.getElem?_setIfInBounds_self_of_lt (by omega)]; simp
  | succ k => rw [wrt, show o + (k + 1) = o + 1 + k by omega, wrt_in r _ _ _ (by omega) (by simp; omega)]; simp
section
variable {w w' w2 : World} {g : Nat} {t : TypeId} {cs : Array Value}
theorem Blk.drew (h : Blk w g t cs) : Blk w.drew g t cs := h
theorem Blk.setCells : ∀ (vs : List Value) (o : Nat) {w : World} {cs : Array Value}, Blk w g t cs → Blk (w.setCells g o vs) g t (wrt cs o vs)
 | [], _, _, _, h => h
 | v :: r, o, w, cs, h => Blk.setCells r (o + 1) (h.set_ o v)
theorem grown_refl (w : World) (row : Option Nat) : w.grownBy w row := ⟨rfl, rfl, rfl, Nat.le_refl _, fun _ _ _ => rfl⟩
theorem grown_trans {row : Option Nat} (h : w.grownBy w' row) (k : w'.grownBy w2 row) : w.grownBy w2 row :=
 ⟨k.os.trans h.os, k.tape.trans h.tape, k.output.trans h.output, Nat.le_trans h.size k.size, fun i hi hr => (k.block i (Nat.lt_of_lt_of_le hi h.size) hr).trans (h.block i hi hr)⟩
theorem grown_below {row : Option Nat} (h : w.grownBy w' row) (k : Below w'.heap.size w' w2) : w.grownBy w2 row :=
 ⟨k.os.trans h.os, k.tape.trans h.tape, k.output.trans h.output, Nat.le_trans h.size k.size, fun i hi hr => (k.block i (Nat.lt_of_lt_of_le hi h.size)).trans (h.block i hi hr)⟩
theorem grown_of_below (h : Below w.heap.size w w') (row : Option Nat) : w.grownBy w' row := ⟨h.os, h.tape, h.output, h.size, fun k hk _ => h.block k hk⟩
theorem grown_alloc {row : Option Nat} (h : w.grownBy w' row) (o : Obj) : w.grownBy (w'.alloc o) row := grown_below h ((Below.refl _ _).alloc (Nat.le_refl _) _)
theorem grown_drew {row : Option Nat} (h : w.grownBy w' row) (n : Nat) : w.grownBy (w'.drewN n) row := ⟨h.os, h.tape, h.output, h.size, h.block⟩
theorem grown_setCell {row : Option Nat} (h : w.grownBy w' row) {p : Addr} (hp : some p.block = row ∨ w.heap.size ≤ p.block) (u : Value) : w.grownBy (w'.setCell p u) row :=
 ⟨h.os, h.tape, h.output, by have := h.size; simpa [World.setCell] using this, fun i hi hr => (Below.heap_setCell w' p u i (by
  intro e
  subst e
  rcases hp with hp | hp
  ·exact hr hp
  ·omega)).trans (h.block i hi hr)⟩
theorem grown_setCells {row : Option Nat} : ∀ (vs : List Value) (o : Nat) {w' : World}, w.grownBy w' row → some g = row ∨ w.heap.size ≤ g → w.grownBy (w'.setCells g o vs) row
 | [], _, _, h, _ => h
 | v :: r, o, w', h, hp => grown_setCells r (o + 1) (grown_setCell h (p := ⟨g, o, none⟩) hp v) hp
theorem below_of_grown {B : Nat} {row : Option Nat} (h : w.grownBy w' row) (hr : ∀ k, row = some k → B ≤ k) (hB : B ≤ w.heap.size) : Below B w w' :=
 (Below.refl B w).grown h hB hr
theorem Reads.grown {B size n : Nat} {A : Option Addr} {xs : List Value} {row : Option Nat} (h : Reads w B size A n xs) (hg : w.grownBy w' row) (hB : B ≤ w.heap.size) (hr : ∀ a, A = some a → some a.block ≠ row) : Reads w' B size A n xs :=
 ⟨h.1, fun hn => by
  obtain ⟨ad, e, hb, hc⟩ := h.2 hn
  exact ⟨ad, e, hb, fun j u hu => by
   rw [← hc j u hu]
   exact World.cell?_of_block (hg.block _ (by rw [block_of_add]; omega) (by rw [block_of_add]; exact hr ad e))⟩⟩
theorem Own.grown {base n cap size : Nat} {e : TypeId} {A : Option Addr} {xs : List Value} {row : Option Nat} (h : Own w base e size A n cap xs) (hg : w.grownBy w' row) (hr : ∀ a, A = some a → some a.block ≠ row) : Own w' base e size A n cap xs := by
 refine ⟨h.1, ?_⟩
 rcases h.2 with h' | ⟨g, cap', cur, hv, hb, hgb, hrest⟩
 ·exact .inl h'
 ·have hl : g < w.heap.size := (Array.getElem?_eq_some_iff.1 hgb).1
  simp at hv
  exact .inr ⟨g, cap', cur, by simp [hv], hb, (hg.block g hl (by have := hr _ hv.1; simpa using this)).trans hgb, hrest⟩
theorem Own.mk_ {base n cap size : Nat} {e : TypeId} {xs : List Value} {cur : Array Value} (hb : base ≤ g) (h : Blk w g e cur) (h1 : n ≤ cap) (h2 : cap ≤ maxLen) (h3 : cur.size = cap * size) (h4 : xs.length = n * size) (h5 : ∀ k, k < n * size → cur[k]? = xs[k]?) : Own w base e size (some ⟨g, 0, none⟩) n cap xs := by
 refine ⟨h4, .inr ⟨g, cap, cur, by simp, hb, h, h1, h2, h3, ?_⟩⟩
 apply List.ext_getElem?
 intro k
 rw [List.getElem?_take]
 split
 ·rename_i hk; rw [Array.getElem?_toList]; exact h5 k hk
 ·rename_i hk; rw [List.getElem?_eq_none (by omega)]
end
def ElAt (cur : Array Value) (size k : Nat) (vs : List Value) : Prop := ∀ q, q < size → cur[k * size + q]? = vs[q]?
theorem ElAt.wrt_same {cur : Array Value} {size k : Nat} {vs : List Value} (hv : vs.length = size) (hk : (k + 1) * size ≤ cur.size) : ElAt (wrt cur (k * size) vs) size k vs := by
 intro q hq
 exact wrt_in vs _ _ _ (by omega) (by rw [Nat.add_mul] at hk; omega)
theorem ElAt.wrt_other {cur : Array Value} {size k j : Nat} {vs us : List Value} (h : ElAt cur size j us) (hv : vs.length = size) (hkj : k ≠ j) : ElAt (wrt cur (k * size) vs) size j us := by
 intro q hq
 rw [wrt_out]
 ·exact h q hq
 ·rcases Nat.lt_or_gt_of_ne hkj with h1 | h1
  ·right
   have := Nat.mul_le_mul_right size (show k + 1 ≤ j by omega)
   rw [Nat.add_mul] at this
   omega
  ·left
   have := Nat.mul_le_mul_right size (show j + 1 ≤ k by omega)
   rw [Nat.add_mul] at this
   omega
theorem flat_len' {α : Type} {vals : α → List Value} {size : Nat} (hv : ∀ x, (vals x).length = size) (l : List α) : (l.flatMap vals).length = l.length * size := by
 induction l with
 | nil => simp
 | cons x l ih => rw [List.flatMap_cons, List.length_append, ih, List.length_cons, hv, Nat.add_mul]; omega
theorem flat_at' {α : Type} {vals : α → List Value} {size : Nat} (hv : ∀ x, (vals x).length = size) {l : List α} {k j : Nat} {x : α} (h : l[k]? = some x) (hj : j < size) : (l.flatMap vals)[k * size + j]? = (vals x)[j]? := by
 induction l generalizing k with
 | nil => simp at h
 | cons y l ih =>
  rw [List.flatMap_cons]
  cases k with
  | zero =>
   simp at h; subst h
   rw [List.getElem?_append_left (by rw [hv]; omega)]; simp
  | succ k =>
   rw [List.getElem?_append_right (by rw [hv, Nat.add_mul]; omega)]
   have : (k + 1) * size + j - (vals y).length = k * size + j := by rw [hv, Nat.add_mul]; omega
   rw [this]
   exact ih (by simpa using h)
theorem flat_of_els {α : Type} {vals : α → List Value} {size : Nat} (hs : 0 < size) (hv : ∀ x, (vals x).length = size) {l : List α} {cur : Array Value} (h : ∀ (k : Nat) x, l[k]? = some x → ElAt cur size k (vals x)) : ∀ k, k < l.length * size → cur[k]? = (l.flatMap vals)[k]? := by
 intro k hk
 have hq : k / size < l.length := (Nat.div_lt_iff_lt_mul hs).2 hk
 have hx : l[k / size]? = some l[k / size] := List.getElem?_eq_getElem hq
 have h1 := h _ _ hx (k % size) (Nat.mod_lt _ hs)
 have h2 := flat_at' hv hx (Nat.mod_lt k hs)
 have e : k / size * size + k % size = k := by rw [Nat.mul_comm]; exact Nat.div_add_mod k size
 rw [e] at h1 h2
 rw [h1, h2]
theorem els_of_flat {α : Type} {vals : α → List Value} {size : Nat} (hv : ∀ x, (vals x).length = size) {l : List α} {cur : Array Value} (h : ∀ k, k < l.length * size → cur[k]? = (l.flatMap vals)[k]?) : ∀ (k : Nat) x, l[k]? = some x → ElAt cur size k (vals x) := by
 intro k x hx q hq
 have hk : k < l.length := (List.getElem?_eq_some_iff.1 hx).1
 have := Nat.mul_le_mul_right size (show k + 1 ≤ l.length by omega)
 rw [Nat.add_mul] at this
 rw [h _ (by omega), flat_at' hv hx hq]
theorem run_clear_row {P : Program} {w : World} {g : Nat} {e : TypeId} {cs : Array Value} {t ty : TypeId} {z : Value} (hb : Blk w g e cs) (ht : P.underlying t = some (.slice e)) (hv : ∀ w, (zeroValue e).run P w = .ok z w) (h1 : ∀ u ∈ z.cells.toList, u.oneCell' = true) (o n c : Nat) (hn : o + n * z.cells.size ≤ cs.size) :
  ∃ vs : List Value, vs.length = n * z.cells.size ∧ (Builtin.clear_ #[t] ty #[.slice (some ⟨g, o, none⟩) n c]).run P w = .ok (.tuple #[]) (w.setCells g o vs) := by
 cases n with
 | zero => exact ⟨[], by simp, by simp [Builtin.clear_, run_underlying ht, World.setCells]⟩
 | succ n =>
  have hl : (Builtin.zeroCells z.cells (n + 1)).toList.length = (n + 1) * z.cells.size := by simp [Builtin.zeroCells]
  refine ⟨(Builtin.zeroCells z.cells (n + 1)).toList, hl, ?_⟩
  have hst := run_storeCells_cells (P := P) g o (Builtin.zeroCells z.cells (n + 1)).toList 0 w ?_ (fun j _ => hb.frozen _) ?_
  ·simp only [Nat.add_zero] at hst
   simp [Builtin.clear_, run_underlying ht, hv, hst]
  ·intro j hj
   rw [hb.cell]
   rw [hl] at hj
   rw [Array.getElem?_eq_getElem (by omega)]; rfl
  ·intro v hv'
   simp only [Builtin.zeroCells, Array.toList_map, List.mem_map, Array.toList_range, List.mem_range] at hv'
   obtain ⟨i, hi, rfl⟩ := hv'
   have hp : 0 < z.cells.size := by
    rcases Nat.eq_zero_or_pos z.cells.size with h | h
    ·rw [h] at hi; simp at hi
    ·exact h
   have hlt : i % z.cells.size < z.cells.size := Nat.mod_lt _ hp
   rw [getElem!_pos z.cells _ hlt]
   exact h1 _ (by simp)
end
section
open Go.RowKit
def Lay (w W : World) (bs : List (Nat × TypeId × Array Value)) : Prop := Below w.heap.size w W ∧ ∀ b ∈ bs, w.heap.size ≤ b.1 ∧ Blk W b.1 b.2.1 b.2.2
section
variable {w W W' : World} {bs : List (Nat × TypeId × Array Value)}
theorem Lay.nil (w : World) : Lay w w [] := ⟨Below.refl _ _, fun b hb => by simp at hb⟩
theorem Lay.bel (h : Lay w W bs) : Below w.heap.size w W := h.1
theorem Lay.below (h : Lay w W bs) (hb : Below W.heap.size W W') : Lay w W' bs := ⟨h.1.trans (hb.mono h.1.size), fun b k => ⟨(h.2 b k).1, (h.2 b k).2.below hb (h.2 b k).2.lt⟩⟩
theorem Lay.blk (h : Lay w W bs) (i : Nat) {g : Nat} {t : TypeId} {cs : Array Value} (hi : bs[i]? = some (g, t, cs)) : Blk W g t cs := (h.2 _ (List.mem_of_getElem? hi)).2
theorem Lay.ge (h : Lay w W bs) (i : Nat) {g : Nat} {t : TypeId} {cs : Array Value} (hi : bs[i]? = some (g, t, cs)) : w.heap.size ≤ g := (h.2 _ (List.mem_of_getElem? hi)).1
theorem Lay.lt (h : Lay w W bs) (i : Nat) {g : Nat} {t : TypeId} {cs : Array Value} (hi : bs[i]? = some (g, t, cs)) : g < W.heap.size := (h.blk i hi).lt
theorem Lay.alloc (h : Lay w W bs) (t : TypeId) (cs : Array Value) : Lay w (W.alloc (.cells cs t)) (bs ++ [(W.heap.size, t, cs)]) := by
 have hb : Below W.heap.size W (W.alloc (.cells cs t)) := (Below.refl _ _).alloc (Nat.le_refl _) _
 refine ⟨(h.below hb).1, fun b k => ?_⟩
 rcases List.mem_append.1 k with k | k
 ·exact (h.below hb).2 b k
 ·obtain rfl := List.mem_singleton.1 k
  exact ⟨h.1.size, Blk.new W t cs⟩
theorem Lay.add (h : Lay w W bs) {g : Nat} {t : TypeId} {cs : Array Value} (hg : w.heap.size ≤ g) (hb : Blk W g t cs) : Lay w W (bs ++ [(g, t, cs)]) := ⟨h.1, fun b k => by
 rcases List.mem_append.1 k with k | k
 ·exact h.2 b k
 ·obtain rfl := List.mem_singleton.1 k
  exact ⟨hg, hb⟩⟩
theorem Lay.sub (h : Lay w W bs) {bs' : List (Nat × TypeId × Array Value)} (hs : ∀ b ∈ bs', b ∈ bs) : Lay w W bs' := ⟨h.1, fun b k => h.2 b (hs b k)⟩
theorem Lay.turn (h : Lay w W bs) {g : Nat} {t : TypeId} {cs : Array Value} (hk : ∀ i, i ≠ g → i < W.heap.size → W'.heap[i]? = W.heap[i]?) (hz : W.heap.size ≤ W'.heap.size) (hos : W'.os = W.os) (htp : W'.tape = W.tape) (hop : W'.output = W.output) (hg : w.heap.size ≤ g) (hb : Blk W' g t cs) {bs' : List (Nat × TypeId × Array Value)} (hs : ∀ b ∈ bs', (b ∈ bs ∧ b.1 ≠ g) ∨ b = (g, t, cs)) : Lay w W' bs' := by
 refine ⟨⟨hos.trans h.1.os, htp.trans h.1.tape, hop.trans h.1.output, Nat.le_trans h.1.size hz, fun i hi => (hk i (by omega) (Nat.lt_of_lt_of_le hi h.1.size)).trans (h.1.block i hi)⟩, fun b k => ?_⟩
 rcases hs b k with ⟨k1, k2⟩ | rfl
 ·exact ⟨(h.2 b k1).1, (hk _ k2 (h.2 b k1).2.lt).trans (h.2 b k1).2⟩
 ·exact ⟨hg, hb⟩
end
theorem Lay.setLast {w W : World} {bs : List (Nat × TypeId × Array Value)} {g : Nat} {t : TypeId} {cs : Array Value} (h : Lay w W (bs ++ [(g, t, cs)])) (hne : ∀ p ∈ bs, p.1 ≠ g) (k : Nat) (v : Value) : Lay w (W.setCell ⟨g, k, none⟩ v) (bs ++ [(g, t, cs.setIfInBounds k v)]) := by
 have hg := h.2 (g, t, cs) (by simp)
 refine ⟨h.1.setCell (p := ⟨g, k, none⟩) hg.1 v, fun b hb => ?_⟩
 rcases List.mem_append.1 hb with hb | hb
 ·have := h.2 b (by simp [hb])
  exact ⟨this.1, this.2.far (p := ⟨g, k, none⟩) (hne b hb) v⟩
 ·obtain rfl := List.mem_singleton.1 hb
  exact ⟨hg.1, hg.2.set_ k v⟩
theorem fbox_bel {W V : World} {cs : Array Value} {t : TypeId} (h : W.alloc (.cells cs t) = V) : Below W.heap.size W V := h ▸ (Below.refl W.heap.size W).alloc (Nat.le_refl _) (.cells cs t)
theorem fbox_blk {W V : World} {cs : Array Value} {t : TypeId} (h : W.alloc (.cells cs t) = V) : Blk V W.heap.size t cs := h ▸ Blk.new W t cs
theorem Lay.one (w : World) (t : TypeId) (X : Array Value) : Lay w (w.alloc (.cells X t)) [(w.heap.size, t, X)] := (Lay.nil w).alloc t X
theorem Lay.two (w : World) (t : TypeId) (X : Array Value) (t2 : TypeId) (X2 : Array Value) : Lay w ((w.alloc (.cells X t)).alloc (.cells X2 t2)) [(w.heap.size, t, X), (w.heap.size + 1, t2, X2)] := by
 have h := (Lay.one w t X).alloc t2 X2
 rwa [World.size_alloc] at h
theorem Lay.three (w : World) (t : TypeId) (X : Array Value) (t2 : TypeId) (X2 : Array Value) (t3 : TypeId) (X3 : Array Value) : Lay w (((w.alloc (.cells X t)).alloc (.cells X2 t2)).alloc (.cells X3 t3)) [(w.heap.size, t, X), (w.heap.size + 1, t2, X2), (w.heap.size + 1 + 1, t3, X3)] := by
 have h := (Lay.two w t X t2 X2).alloc t3 X3
 rwa [World.size_alloc, World.size_alloc] at h
theorem Lay.four (w : World) (t : TypeId) (X : Array Value) (t2 : TypeId) (X2 : Array Value) (t3 : TypeId) (X3 : Array Value) (t4 : TypeId) (X4 : Array Value) : Lay w ((((w.alloc (.cells X t)).alloc (.cells X2 t2)).alloc (.cells X3 t3)).alloc (.cells X4 t4)) [(w.heap.size, t, X), (w.heap.size + 1, t2, X2), (w.heap.size + 1 + 1, t3, X3), (w.heap.size + 1 + 1 + 1, t4, X4)] := by
 have h := (Lay.three w t X t2 X2 t3 X3).alloc t4 X4
 rwa [World.size_alloc, World.size_alloc, World.size_alloc] at h
theorem Lay.drewN {w W : World} {bs : List (Nat × TypeId × Array Value)} (h : Lay w W bs) (k : Nat) : Lay w (W.drewN k) bs := ⟨below_drewN h.1 k, h.2⟩
theorem ret2 {w W : World} {B g : Nat} {t : TypeId} {z0 z1 : Value} (R : Blk W g t #[z0, z1]) (L : Below B w W) (hg : B ≤ g) (v0 v1 : Value) :
  Blk ((W.setCell ⟨g, 0, none⟩ v0).setCell ⟨g, 1, none⟩ v1) g t #[v0, v1] ∧ Below B w ((W.setCell ⟨g, 0, none⟩ v0).setCell ⟨g, 1, none⟩ v1) :=
 ⟨(R.set_ 0 v0).set_ 1 v1, (L.setCell (p := ⟨g, 0, none⟩) hg _).setCell (p := ⟨g, 1, none⟩) hg _⟩
theorem ret6' {w W : World} {B g : Nat} {t : TypeId} {z0 z1 z2 z3 z4 z5 : Value} (R : Blk W g t #[z0, z1, z2, z3, z4, z5]) (L : Below B w W) (hg : B ≤ g) (v0 v1 v2 v3 v4 v5 : Value) :
  Blk ((((((W.setCell ⟨g, 0, none⟩ v0).setCell ⟨g, 1, none⟩ v1).setCell ⟨g, 2, none⟩ v2).setCell ⟨g, 3, none⟩ v3).setCell ⟨g, 4, none⟩ v4).setCell ⟨g, 5, none⟩ v5) g t #[v0, v1, v2, v3, v4, v5] ∧
  Below B w ((((((W.setCell ⟨g, 0, none⟩ v0).setCell ⟨g, 1, none⟩ v1).setCell ⟨g, 2, none⟩ v2).setCell ⟨g, 3, none⟩ v3).setCell ⟨g, 4, none⟩ v4).setCell ⟨g, 5, none⟩ v5) ∧
  W.grownBy ((((((W.setCell ⟨g, 0, none⟩ v0).setCell ⟨g, 1, none⟩ v1).setCell ⟨g, 2, none⟩ v2).setCell ⟨g, 3, none⟩ v3).setCell ⟨g, 4, none⟩ v4).setCell ⟨g, 5, none⟩ v5) (some g) := by
 refine ⟨(((((R.set_ 0 v0).set_ 1 v1).set_ 2 v2).set_ 3 v3).set_ 4 v4).set_ 5 v5, (((((L.setCell (p := ⟨g, 0, none⟩) hg _).setCell (p := ⟨g, 1, none⟩) hg _).setCell (p := ⟨g, 2, none⟩) hg _).setCell (p := ⟨g, 3, none⟩) hg _).setCell (p := ⟨g, 4, none⟩) hg _).setCell (p := ⟨g, 5, none⟩) hg _, ?_⟩
 exact grown_setCell (grown_setCell (grown_setCell (grown_setCell (grown_setCell (grown_setCell (grown_refl W (some g)) (p := ⟨g, 0, none⟩) (.inl rfl) v0) (p := ⟨g, 1, none⟩) (.inl rfl) v1) (p := ⟨g, 2, none⟩) (.inl rfl) v2) (p := ⟨g, 3, none⟩) (.inl rfl) v3) (p := ⟨g, 4, none⟩) (.inl rfl) v4) (p := ⟨g, 5, none⟩) (.inl rfl) v5
theorem ret4' {w W : World} {B g : Nat} {t : TypeId} {z0 z1 z2 z3 : Value} (R : Blk W g t #[z0, z1, z2, z3]) (L : Below B w W) (hg : B ≤ g) (v0 v1 v2 v3 : Value) :
  Blk ((((W.setCell ⟨g, 0, none⟩ v0).setCell ⟨g, 1, none⟩ v1).setCell ⟨g, 2, none⟩ v2).setCell ⟨g, 3, none⟩ v3) g t #[v0, v1, v2, v3] ∧ Below B w ((((W.setCell ⟨g, 0, none⟩ v0).setCell ⟨g, 1, none⟩ v1).setCell ⟨g, 2, none⟩ v2).setCell ⟨g, 3, none⟩ v3) ∧
  W.grownBy ((((W.setCell ⟨g, 0, none⟩ v0).setCell ⟨g, 1, none⟩ v1).setCell ⟨g, 2, none⟩ v2).setCell ⟨g, 3, none⟩ v3) (some g) := by
 refine ⟨(((R.set_ 0 v0).set_ 1 v1).set_ 2 v2).set_ 3 v3, (((L.setCell (p := ⟨g, 0, none⟩) hg _).setCell (p := ⟨g, 1, none⟩) hg _).setCell (p := ⟨g, 2, none⟩) hg _).setCell (p := ⟨g, 3, none⟩) hg _, ?_⟩
 exact grown_setCell (grown_setCell (grown_setCell (grown_setCell (grown_refl W (some g)) (p := ⟨g, 0, none⟩) (.inl rfl) v0) (p := ⟨g, 1, none⟩) (.inl rfl) v1) (p := ⟨g, 2, none⟩) (.inl rfl) v2) (p := ⟨g, 3, none⟩) (.inl rfl) v3
theorem ints_off {W W' : World} {n b : Nat} {A : Option Addr} {l : List Int} (h : IntsAt W W.heap.size A n l) (hne : ∀ a, A = some a → a.block ≠ b) (hg : W.grownBy W' (some b)) : IntsAt W' W'.heap.size A n l :=
 (Reads.grown h hg (Nat.le_refl _) (fun a ha e => hne a ha (Option.some.inj e))).more hg.size
theorem ret2' {w W : World} {B g : Nat} {t : TypeId} {z0 z1 : Value} (R : Blk W g t #[z0, z1]) (L : Below B w W) (hg : B ≤ g) (v0 v1 : Value) :
  Blk ((W.setCell ⟨g, 0, none⟩ v0).setCell ⟨g, 1, none⟩ v1) g t #[v0, v1] ∧ Below B w ((W.setCell ⟨g, 0, none⟩ v0).setCell ⟨g, 1, none⟩ v1) ∧ W.grownBy ((W.setCell ⟨g, 0, none⟩ v0).setCell ⟨g, 1, none⟩ v1) (some g) :=
 ⟨(R.set_ 0 v0).set_ 1 v1, (L.setCell (p := ⟨g, 0, none⟩) hg _).setCell (p := ⟨g, 1, none⟩) hg _, grown_setCell (grown_setCell (grown_refl W (some g)) (p := ⟨g, 0, none⟩) (.inl rfl) v0) (p := ⟨g, 1, none⟩) (.inl rfl) v1⟩
theorem blk_ne {W : World} {g g' : Nat} {t t' : TypeId} {cs cs' : Array Value} (h : Blk W g t cs) (h' : Blk W g' t' cs') (ht : t ≠ t') : g ≠ g' := fun e => by
 subst e
 unfold Blk at h h'
 rw [h] at h'
 simp at h'
 exact ht h'.2
theorem lh {p : Prop} (h : p) : Hid p := Lib.hid h
theorem ai {a b : Prop} (h : a) (k : b) : a ∧ b := ⟨h, k⟩
theorem hfT : ∀ f, Fence.wide.fn f := fun _ => trivial
section
variable {w W W' : World} {bs : List (Nat × TypeId × Array Value)} {g : Nat} {t : TypeId} {cs : Array Value}
theorem lyc (h : Hid (Lay w W bs)) (i : Nat) (hi : bs[i]? = some (g, t, cs)) (k : Nat) : W.cell? ⟨g, k, none⟩ = cs[k]? := (h.out.blk i hi).cell k
theorem lyf (h : Hid (Lay w W bs)) (i : Nat) (hi : bs[i]? = some (g, t, cs)) (k : Nat) : W.frozen? ⟨g, k, none⟩ = false := (h.out.blk i hi).frozen k
theorem lyb (h : Hid (Lay w W bs)) (hb : Below W.heap.size W W') : Hid (Lay w W' bs) := Lib.hid (h.out.below hb)
theorem lyz {α : Type} {of : α → World} (h : Hid (Lay w W bs)) (ho : Hid (∀ z, Below W.heap.size W (of z))) (i : Nat) (hi : bs[i]? = some (g, t, cs)) (k : Nat) : ∀ z, (of z).cell? ⟨g, k, none⟩ = cs[k]? :=
 fun z => ((h.out.below (ho.out z)).blk i hi).cell k
theorem iu {A : Option Addr} {n : Nat} {l : List Int} (h : Hid (IntsAt W W.heap.size A n l)) (hb : Below W.heap.size W W') : Hid (IntsAt W' W'.heap.size A n l) := Lib.hid ((h.out.below hb).more hb.size)
theorem lyz2 {α : Type} {of : α → World} {v0 v1 : Value} (h : Hid (Lay w W bs)) (ho : Hid (∀ z, Below W.heap.size W (of z))) (i : Nat) (hi : bs[i]? = some (g, t, #[v0, v1])) : (∀ z, (of z).cell? ⟨g, 0, none⟩ = some v0) ∧ (∀ z, (of z).cell? ⟨g, 1, none⟩ = some v1) :=
 ⟨fun z => ((h.out.below (ho.out z)).blk i hi).cell 0, fun z => ((h.out.below (ho.out z)).blk i hi).cell 1⟩
theorem lyc2 {v0 v1 : Value} (h : Hid (Lay w W bs)) (i : Nat) (hi : bs[i]? = some (g, t, #[v0, v1])) : W.cell? ⟨g, 0, none⟩ = some v0 ∧ W.cell? ⟨g, 1, none⟩ = some v1 :=
 ⟨(h.out.blk i hi).cell 0, (h.out.blk i hi).cell 1⟩
theorem lyz4 {α : Type} {of : α → World} {v0 v1 v2 v3 : Value} (h : Hid (Lay w W bs)) (ho : Hid (∀ z, Below W.heap.size W (of z))) (i : Nat) (hi : bs[i]? = some (g, t, #[v0, v1, v2, v3])) : (∀ z, (of z).cell? ⟨g, 0, none⟩ = some v0) ∧ (∀ z, (of z).cell? ⟨g, 1, none⟩ = some v1) ∧ (∀ z, (of z).cell? ⟨g, 2, none⟩ = some v2) ∧ (∀ z, (of z).cell? ⟨g, 3, none⟩ = some v3) :=
 ⟨fun z => ((h.out.below (ho.out z)).blk i hi).cell 0, fun z => ((h.out.below (ho.out z)).blk i hi).cell 1, fun z => ((h.out.below (ho.out z)).blk i hi).cell 2, fun z => ((h.out.below (ho.out z)).blk i hi).cell 3⟩
theorem lyc4 {v0 v1 v2 v3 : Value} (h : Hid (Lay w W bs)) (i : Nat) (hi : bs[i]? = some (g, t, #[v0, v1, v2, v3])) : W.cell? ⟨g, 0, none⟩ = some v0 ∧ W.cell? ⟨g, 1, none⟩ = some v1 ∧ W.cell? ⟨g, 2, none⟩ = some v2 ∧ W.cell? ⟨g, 3, none⟩ = some v3 :=
 ⟨(h.out.blk i hi).cell 0, (h.out.blk i hi).cell 1, (h.out.blk i hi).cell 2, (h.out.blk i hi).cell 3⟩
theorem lyz5 {α : Type} {of : α → World} {v0 v1 v2 v3 v4 : Value} (h : Hid (Lay w W bs)) (ho : Hid (∀ z, Below W.heap.size W (of z))) (i : Nat) (hi : bs[i]? = some (g, t, #[v0, v1, v2, v3, v4])) : (∀ z, (of z).cell? ⟨g, 0, none⟩ = some v0) ∧ (∀ z, (of z).cell? ⟨g, 1, none⟩ = some v1) ∧ (∀ z, (of z).cell? ⟨g, 2, none⟩ = some v2) ∧ (∀ z, (of z).cell? ⟨g, 3, none⟩ = some v3) ∧ (∀ z, (of z).cell? ⟨g, 4, none⟩ = some v4) :=
 ⟨fun z => ((h.out.below (ho.out z)).blk i hi).cell 0, fun z => ((h.out.below (ho.out z)).blk i hi).cell 1, fun z => ((h.out.below (ho.out z)).blk i hi).cell 2, fun z => ((h.out.below (ho.out z)).blk i hi).cell 3, fun z => ((h.out.below (ho.out z)).blk i hi).cell 4⟩
theorem lyc5 {v0 v1 v2 v3 v4 : Value} (h : Hid (Lay w W bs)) (i : Nat) (hi : bs[i]? = some (g, t, #[v0, v1, v2, v3, v4])) : W.cell? ⟨g, 0, none⟩ = some v0 ∧ W.cell? ⟨g, 1, none⟩ = some v1 ∧ W.cell? ⟨g, 2, none⟩ = some v2 ∧ W.cell? ⟨g, 3, none⟩ = some v3 ∧ W.cell? ⟨g, 4, none⟩ = some v4 :=
 ⟨(h.out.blk i hi).cell 0, (h.out.blk i hi).cell 1, (h.out.blk i hi).cell 2, (h.out.blk i hi).cell 3, (h.out.blk i hi).cell 4⟩
theorem lyz6 {α : Type} {of : α → World} {v0 v1 v2 v3 v4 v5 : Value} (h : Hid (Lay w W bs)) (ho : Hid (∀ z, Below W.heap.size W (of z))) (i : Nat) (hi : bs[i]? = some (g, t, #[v0, v1, v2, v3, v4, v5])) : (∀ z, (of z).cell? ⟨g, 0, none⟩ = some v0) ∧ (∀ z, (of z).cell? ⟨g, 1, none⟩ = some v1) ∧ (∀ z, (of z).cell? ⟨g, 2, none⟩ = some v2) ∧ (∀ z, (of z).cell? ⟨g, 3, none⟩ = some v3) ∧ (∀ z, (of z).cell? ⟨g, 4, none⟩ = some v4) ∧ (∀ z, (of z).cell? ⟨g, 5, none⟩ = some v5) :=
 ⟨fun z => ((h.out.below (ho.out z)).blk i hi).cell 0, fun z => ((h.out.below (ho.out z)).blk i hi).cell 1, fun z => ((h.out.below (ho.out z)).blk i hi).cell 2, fun z => ((h.out.below (ho.out z)).blk i hi).cell 3, fun z => ((h.out.below (ho.out z)).blk i hi).cell 4, fun z => ((h.out.below (ho.out z)).blk i hi).cell 5⟩
theorem lyc6 {v0 v1 v2 v3 v4 v5 : Value} (h : Hid (Lay w W bs)) (i : Nat) (hi : bs[i]? = some (g, t, #[v0, v1, v2, v3, v4, v5])) : W.cell? ⟨g, 0, none⟩ = some v0 ∧ W.cell? ⟨g, 1, none⟩ = some v1 ∧ W.cell? ⟨g, 2, none⟩ = some v2 ∧ W.cell? ⟨g, 3, none⟩ = some v3 ∧ W.cell? ⟨g, 4, none⟩ = some v4 ∧ W.cell? ⟨g, 5, none⟩ = some v5 :=
 ⟨(h.out.blk i hi).cell 0, (h.out.blk i hi).cell 1, (h.out.blk i hi).cell 2, (h.out.blk i hi).cell 3, (h.out.blk i hi).cell 4, (h.out.blk i hi).cell 5⟩
theorem lyz7 {α : Type} {of : α → World} {v0 v1 v2 v3 v4 v5 v6 : Value} (h : Hid (Lay w W bs)) (ho : Hid (∀ z, Below W.heap.size W (of z))) (i : Nat) (hi : bs[i]? = some (g, t, #[v0, v1, v2, v3, v4, v5, v6])) : (∀ z, (of z).cell? ⟨g, 0, none⟩ = some v0) ∧ (∀ z, (of z).cell? ⟨g, 1, none⟩ = some v1) ∧ (∀ z, (of z).cell? ⟨g, 2, none⟩ = some v2) ∧ (∀ z, (of z).cell? ⟨g, 3, none⟩ = some v3) ∧ (∀ z, (of z).cell? ⟨g, 4, none⟩ = some v4) ∧ (∀ z, (of z).cell? ⟨g, 5, none⟩ = some v5) ∧ (∀ z, (of z).cell? ⟨g, 6, none⟩ = some v6) :=
 ⟨fun z => ((h.out.below (ho.out z)).blk i hi).cell 0, fun z => ((h.out.below (ho.out z)).blk i hi).cell 1, fun z => ((h.out.below (ho.out z)).blk i hi).cell 2, fun z => ((h.out.below (ho.out z)).blk i hi).cell 3, fun z => ((h.out.below (ho.out z)).blk i hi).cell 4, fun z => ((h.out.below (ho.out z)).blk i hi).cell 5, fun z => ((h.out.below (ho.out z)).blk i hi).cell 6⟩
theorem lyc7 {v0 v1 v2 v3 v4 v5 v6 : Value} (h : Hid (Lay w W bs)) (i : Nat) (hi : bs[i]? = some (g, t, #[v0, v1, v2, v3, v4, v5, v6])) : W.cell? ⟨g, 0, none⟩ = some v0 ∧ W.cell? ⟨g, 1, none⟩ = some v1 ∧ W.cell? ⟨g, 2, none⟩ = some v2 ∧ W.cell? ⟨g, 3, none⟩ = some v3 ∧ W.cell? ⟨g, 4, none⟩ = some v4 ∧ W.cell? ⟨g, 5, none⟩ = some v5 ∧ W.cell? ⟨g, 6, none⟩ = some v6 :=
 ⟨(h.out.blk i hi).cell 0, (h.out.blk i hi).cell 1, (h.out.blk i hi).cell 2, (h.out.blk i hi).cell 3, (h.out.blk i hi).cell 4, (h.out.blk i hi).cell 5, (h.out.blk i hi).cell 6⟩
end
end
section
open Go.RowKit
theorem reads_blk {W : World} {g k n : Nat} {t : TypeId} {xs : List Value} (h : Blk W g t xs.toArray) (hn : xs.length = n * k) : Reads W W.heap.size k (some ⟨g, 0, none⟩) n xs :=
 ⟨hn, fun _ => ⟨_, rfl, h.lt, fun j u hu => by
  have ha : ((⟨g, 0, none⟩ : Addr).add j) = ⟨g, j, none⟩ := by
   unfold Addr.add
   by_cases hj : j = 0
   ·subst hj; simp
   ·simp [hj]
  rw [ha, h.cell]
  simpa using hu⟩⟩
theorem ints_blk2 {W : World} {g : Nat} {t : TypeId} (l : List Int) (h : Blk W g t (l.map (Value.int .i64)).toArray) : IntsAt W W.heap.size (some ⟨g, 0, none⟩) l.length l := reads_blk h (by simp)
def exT : Town := ⟨[1, 2, 3, 4], [⟨1, 1, 2, 50, 40⟩, ⟨2, 1, 3, 0, 100⟩, ⟨3, 3, 2, 20, 10⟩, ⟨4, 2, 4, 0, 30⟩]⟩
def ExTownOut (w : World) (e : Ending) (w' : World) : Prop := ∃ g g', e = .returned (.agg #[.slice (some ⟨g, 0, none⟩) 4 4, .slice (some ⟨g', 0, none⟩) 4 4]) ∧ TownAt w' w'.heap.size (some ⟨g, 0, none⟩) 4 (some ⟨g', 0, none⟩) 4 exT ∧ Below w.heap.size w w'
set_option maxRecDepth 100000 in
set_option maxHeartbeats 8000000 in
theorem town_any (w : World) : Calls Tryz.prog 43 #[] w (ExTownOut w) := by
 go_enter Tryz.func43, Tryz.ntmps43
 have Ly := lh (Lay.three w 25 #[.slice (some ⟨w.heap.size + 1, 0, none⟩) 4 4, .slice (some ⟨w.heap.size + 1 + 1, 0, none⟩) 4 4] 3 #[.int .i64 1, .int .i64 2, .int .i64 3, .int .i64 4] 52 #[.int .i64 1, .int .i64 1, .int .i64 2, .int .i64 50, .int .i64 40, .int .i64 2, .int .i64 1, .int .i64 3, .int .i64 0, .int .i64 100, .int .i64 3, .int .i64 3, .int .i64 2, .int .i64 20, .int .i64 10, .int .i64 4, .int .i64 2, .int .i64 4, .int .i64 0, .int .i64 30])
 go_wp2_with fail
 have c0 := lyc Ly 0 rfl 0
 have c1 := lyc Ly 0 rfl 1
 exact bodyPost_ret (v := .agg #[.slice (some ⟨w.heap.size + 1, 0, none⟩) 4 4, .slice (some ⟨w.heap.size + 1 + 1, 0, none⟩) 4 4]) (by simp [results, Tryz.results43, go_sem, c0, c1]) rfl ⟨_, _, rfl, ⟨reads_blk (xs := [1, 2, 3, 4].map (Value.int .i64)) (Ly.out.blk 1 rfl) rfl, reads_blk (xs := exT.links.flatMap Link.vals) (Ly.out.blk 2 rfl) rfl⟩, Ly.out.1⟩
set_option maxRecDepth 100000 in
theorem ltoil_any (a b : Int) (w : World) : Calls Tryz.prog 23 #[.int .i64 a, .int .i64 b] w fun e w' => e = .returned (.agg #[.int .i64 a, .int .i64 b]) ∧ Below w.heap.size w w' := by
 go_enter Tryz.func23, Tryz.ntmps23
 have HB := lh (Blk.new w 34 #[.int .i64 a, .int .i64 b])
 have HW := lh ((Below.refl w.heap.size w).alloc (Nat.le_refl _) (.cells #[.int .i64 a, .int .i64 b] 34))
 go_wp2_with fail
 have c0 := HB.out.cell 0
 have c1 := HB.out.cell 1
 exact bodyPost_ret (v := .agg #[.int .i64 a, .int .i64 b]) (by simp [results, Tryz.results23, go_sem, c0, c1]) rfl ⟨rfl, HW.out⟩
set_option maxRecDepth 100000 in
theorem lspan_any (a b : Int) (w : World) : Calls Tryz.prog 40 #[.int .i64 a, .int .i64 b] w fun e w' => e = .returned (.agg #[.int .i64 a, .int .i64 b]) ∧ Below w.heap.size w w' := by
 go_enter Tryz.func40, Tryz.ntmps40
 have HB := lh (Blk.new w 63 #[.int .i64 a, .int .i64 b])
 have HW := lh ((Below.refl w.heap.size w).alloc (Nat.le_refl _) (.cells #[.int .i64 a, .int .i64 b] 63))
 go_wp2_with fail
 have c0 := HB.out.cell 0
 have c1 := HB.out.cell 1
 exact bodyPost_ret (v := .agg #[.int .i64 a, .int .i64 b]) (by simp [results, Tryz.results40, go_sem, c0, c1]) rfl ⟨rfl, HW.out⟩
end
section
open Go.RowKit
def upB : Int → List Int → Bool
 | _, [] => true
 | last, x :: l => inB (last + 1) 9999 [x] && upB x l
def linkB (t : Town) (last : Int) (x : Link) : Bool := inB (last + 1) 9999 [x.id] && inB 0 500 [x.steps] && inB 1 2000 [x.paces] && !(x.fr == x.to) && hasB t [x.fr, x.to]
def linksB (t : Town) : Int → List Link → Bool
 | _, [] => true
 | last, x :: l => linkB t last x && linksB t x.id l
def sizeB (t : Town) : Bool := inB 1 9 [(t.places.length : Int)] && decide (t.links.length ≤ 20)
def townB (t : Town) : Bool := sizeB t && upB 0 t.places && linksB t 0 t.links
theorem upB_drop {l : List Int} {k : Nat} {x last : Int} (hx : l[k]? = some x) : upB last (l.drop k) = (inB (last + 1) 9999 [x] && upB x (l.drop (k + 1))) := by
 obtain ⟨hk, rfl⟩ := List.getElem?_eq_some_iff.1 hx
 rw [List.drop_eq_getElem_cons hk]; rfl
theorem linksB_drop {t : Town} {l : List Link} {k : Nat} {x : Link} {last : Int} (hx : l[k]? = some x) : linksB t last (l.drop k) = (linkB t last x && linksB t x.id (l.drop (k + 1))) := by
 obtain ⟨hk, rfl⟩ := List.getElem?_eq_some_iff.1 hx
 rw [List.drop_eq_getElem_cons hk]; rfl
theorem hasI2 (g : Nat) (x y : Int) (w : World) (hg : g < w.heap.size) (h0 : w.cell? ⟨g, 0, none⟩ = some (.int .i64 x)) (h1 : w.cell? ⟨g, 1, none⟩ = some (.int .i64 y)) : IntsAt w w.heap.size (some ⟨g, 0, none⟩) 2 [x, y] :=
 ⟨rfl, fun _ => ⟨_, rfl, hg, fun j u hu => by
  match j, hu with
  | 0, hu => simp at hu; rw [← hu]; simpa [Addr.add] using h0
  | 1, hu => simp at hu; rw [← hu]; simpa [Addr.add] using h1⟩⟩
theorem check1_any (A : Option Addr) (n c : Nat) (A' : Option Addr) (m d : Nat) (t : Town) (w : World) (hn : n ≤ maxLen) (hm : m ≤ maxLen) (ht : TownAt w w.heap.size A n A' m t) :
  Calls Tryz.prog 174 #[.agg #[.slice A n c, .slice A' m d]] w fun e w' => e = .returned (.bool (sizeB t)) ∧ Below w.heap.size w w' := by
 have hl := ht.places.len
 have hl' := ht.links.len
 have H : sizeB t = (inB 1 9 [(n : Int)] && decide ((m : Int) ≤ 20)) := by
  unfold sizeB; rw [hl, hl']; congr 1; simp; omega
 have HS := lh H
 clear H hl hl'
 unfold maxLen at hn hm
 go_enter Tryz.func174, Tryz.ntmps174
 go_wp2_with fail
 refine (in1_any _ _ (n : Int) _ _ ?_ ?_).mono ?_
 ·simp
 ·simp [go_sem]
 rintro e w1 ⟨rfl, hb⟩
 have hb' : Below w.heap.size w w1 := (((Below.refl _ _).alloc (Nat.le_refl _) _).alloc (by simp) _).trans (hb.mono (by simp; omega))
 have T1 : Blk w1 w.heap.size 25 #[.slice A n c, .slice A' m d] := ((Blk.new w _ _).alloc _).below hb (by simp; omega)
 have t1 : w1.cell? ⟨w.heap.size, 1, none⟩ = some (.slice A' m d) := T1.cell 1
 have hl : w.heap.size < w1.heap.size := T1.lt
 cases hi : inB 1 9 [(n : Int)] with
 | true =>
  have HI := lh hi
  clear hi
  go_wp2_with fail
  go_ret
  exact ⟨ret_bool (by rw [HS.out, HI.out]; simp), hb'⟩
 | false =>
  have HI := lh hi
  clear hi
  go_wp2_with fail
  go_ret
  exact ⟨ret_bool (by rw [HS.out, HI.out]; simp), hb'⟩
theorem inB_one (lo hi x : Int) : inB lo hi [x] = (decide (lo ≤ x) && decide (x ≤ hi)) := by
 unfold inB
 by_cases h1 : x < lo <;> by_cases h2 : hi < x <;> simp [h1, h2] <;> omega
theorem inB_iff {lo hi x : Int} : inB lo hi [x] = true ↔ lo ≤ x ∧ x ≤ hi := by rw [inB_one]; simp
theorem below_one (w w1 w2 : World) (A : Obj) (h : Below w.heap.size w w1) (hb : Below (w1.alloc A).heap.size (w1.alloc A) w2) : Below w.heap.size w w2 :=
 (h.alloc h.size _).trans (hb.mono (by have := h.size; simp; omega))
set_option maxHeartbeats 1000000 in
theorem check2_any (A : Option Addr) (n c : Nat) (A' : Option Addr) (m d : Nat) (t : Town) (w : World) (hn : n ≤ maxLen) (ht : TownAt w w.heap.size A n A' m t) :
  Calls Tryz.prog 175 #[.agg #[.slice A n c, .slice A' m d]] w fun e w' => e = .returned (.bool (upB 0 t.places)) ∧ Below w.heap.size w w' := by
 unfold maxLen at hn
 go_enter Tryz.func175, Tryz.ntmps175
 go_wp2_with fail
 go_loopw [9, 3] (fun i last wr => ∃ (k : Nat) (x : Int), k ≤ n ∧ i = .int .i64 k ∧ last = .int .i64 x ∧ 0 ≤ x ∧ x ≤ 9999 ∧ upB 0 t.places = upB x (t.places.drop k) ∧ Below w.heap.size w wr)
  (fun i _ _ => n - (intOf i).toNat)
 case atStart => exact ⟨0, 0, by omega, rfl, rfl, by omega, by omega, by simp, (Below.refl _ _).alloc (Nat.le_refl _) _⟩
 case round =>
  obtain ⟨k, z, hk, rfl, rfl, hz0, hz1, hu, hb⟩ := hrel
  have HU := lh hu
  clear hu
  by_cases hlt : k < n
  ·obtain ⟨b, off, x, rfl, hbB, hx, hc⟩ := (ht.places.below hb).cell hlt
   have HX := lh hx
   clear hx
   go_wp2_with fail
   refine (in1_any _ _ x _ _ ?_ ?_).mono ?_
   ·simp
   ·simp [go_sem]
   rintro e w' ⟨rfl, hb'⟩
   have hb2 := below_one _ _ _ _ hb hb'
   cases hi : inB (z + 1) 9999 [x] with
   | true =>
    have HI := lh hi
    have hxz := inB_iff.1 hi
    clear hi
    go_wp2_with fail
    go_roundw
    case rel => exact ⟨k + 1, x, by omega, by go_num, rfl, by omega, by omega, by rw [HU.out, upB_drop HX.out, HI.out]; rfl, hb2⟩
    case measure => simp [intOf]; omega
   | false =>
    have HI := lh hi
    clear hi
    go_wp2_with fail
    go_ret
    exact ⟨ret_bool (by rw [HU.out, upB_drop HX.out, HI.out]; rfl), hb2⟩
  ·go_wp2_with fail
   go_ret
   exact ⟨ret_bool (by rw [HU.out, List.drop_eq_nil_of_le (by have := ht.places.len; omega)]; rfl), hb⟩
theorem linkB_false {t : Town} {last : Int} {x : Link} (h : inB (last + 1) 9999 [x.id] = false ∨ inB 0 500 [x.steps] = false ∨ inB 1 2000 [x.paces] = false ∨ x.fr = x.to ∨ hasB t [x.fr, x.to] = false) : linkB t last x = false := by
 unfold linkB
 rcases h with h | h | h | h | h <;> simp [h]
theorem linkB_true {t : Town} {last : Int} {x : Link} (h1 : inB (last + 1) 9999 [x.id] = true) (h2 : inB 0 500 [x.steps] = true) (h3 : inB 1 2000 [x.paces] = true) (h4 : ¬ x.fr = x.to) (h5 : hasB t [x.fr, x.to] = true) : linkB t last x = true := by
 unfold linkB
 simp [h1, h2, h3, h4, h5]
set_option maxHeartbeats 2000000 in
theorem check3_any (A : Option Addr) (n c : Nat) (A' : Option Addr) (m d : Nat) (t : Town) (w : World) (hn : n ≤ maxLen) (hm : m ≤ maxLen) (ht : TownAt w w.heap.size A n A' m t) :
  Calls Tryz.prog 176 #[.agg #[.slice A n c, .slice A' m d]] w fun e w' => e = .returned (.bool (linksB t 0 t.links)) ∧ Below w.heap.size w w' := by
 unfold maxLen at hn hm
 go_enter Tryz.func176, Tryz.ntmps176
 go_wp2_with fail
 go_loopw [9, 3] (fun i last wr => ∃ (k : Nat) (x : Int), k ≤ m ∧ i = .int .i64 k ∧ last = .int .i64 x ∧ 0 ≤ x ∧ x ≤ 9999 ∧ linksB t 0 t.links = linksB t x (t.links.drop k) ∧ Blk wr w.heap.size 25 #[.slice A n c, .slice A' m d] ∧ Below w.heap.size w wr)
  (fun i _ _ => m - (intOf i).toNat)
 case atStart => exact ⟨0, 0, by omega, rfl, rfl, by omega, by omega, by simp, Blk.new _ _ _, (Below.refl _ _).alloc (Nat.le_refl _) _⟩
 case round =>
  obtain ⟨k, z, hk, rfl, rfl, hz0, hz1, hu, hT, hb⟩ := hrel
  have HU := lh hu
  clear hu
  have t0 : wr.cell? ⟨w.heap.size, 0, none⟩ = some (.slice A n c) := hT.cell 0
  have t1 : wr.cell? ⟨w.heap.size, 1, none⟩ = some (.slice A' m d) := hT.cell 1
  have hlr := hT.lt
  by_cases hlt : k < m
  ·obtain ⟨b, off, x, rfl, hbB, hx, hc0, hc1, hc2, hc3, hc4⟩ := (ht.links.below hb).cell hlt
   have HX := lh hx
   clear hx
   go_wp2_with fail
   refine (in1_any _ _ x.id _ _ ?_ ?_).mono ?_
   ·simp
   ·simp [go_sem]
   rintro e w1 ⟨rfl, hb1⟩
   have X1 : Blk w1 wr.heap.size 52 #[.int .i64 x.id, .int .i64 x.fr, .int .i64 x.to, .int .i64 x.steps, .int .i64 x.paces] := ((Blk.new wr _ _).alloc _).below hb1 (by simp; omega)
   have T1 : Blk w1 w.heap.size 25 #[.slice A n c, .slice (some ⟨b, off, none⟩) m d] := ((hT.alloc _).alloc _).below hb1 (by simp; omega)
   have B1 : Below w.heap.size w w1 := below_one _ _ _ _ (hb.alloc hb.size _) hb1
   clear hb1 t0 t1 hlr
   have x0 : w1.cell? ⟨wr.heap.size, 0, none⟩ = some (.int .i64 x.id) := X1.cell 0
   have x1 : w1.cell? ⟨wr.heap.size, 1, none⟩ = some (.int .i64 x.fr) := X1.cell 1
   have x2 : w1.cell? ⟨wr.heap.size, 2, none⟩ = some (.int .i64 x.to) := X1.cell 2
   have x3 : w1.cell? ⟨wr.heap.size, 3, none⟩ = some (.int .i64 x.steps) := X1.cell 3
   have x4 : w1.cell? ⟨wr.heap.size, 4, none⟩ = some (.int .i64 x.paces) := X1.cell 4
   have t0 : w1.cell? ⟨w.heap.size, 0, none⟩ = some (.slice A n c) := T1.cell 0
   have t1 : w1.cell? ⟨w.heap.size, 1, none⟩ = some (.slice (some ⟨b, off, none⟩) m d) := T1.cell 1
   have hlr := T1.lt
   have hlx := X1.lt
   cases hi1 : inB (z + 1) 9999 [x.id] with
   | false =>
    have HI1 := lh hi1
    clear hi1
    go_wp2_with fail
    go_ret
    exact ⟨ret_bool (by rw [HU.out, linksB_drop HX.out, linkB_false (.inl HI1.out)]; rfl), B1⟩
   | true =>
    have HI1 := lh hi1
    have hxz := inB_iff.1 hi1
    clear hi1
    go_wp2_with fail
    refine (in1_any _ _ x.steps _ _ ?_ ?_).mono ?_
    ·simp
    ·simp [go_sem]
    rintro e w2 ⟨rfl, hb2⟩
    have X2 := (X1.alloc (.cells #[.int .i64 x.steps] 3)).below hb2 (by have := X1.lt; simp; omega)
    have T2 := (T1.alloc (.cells #[.int .i64 x.steps] 3)).below hb2 (by have := T1.lt; simp; omega)
    have B2 := below_one _ _ _ _ B1 hb2
    clear hb2
    clear x0 x1 x2 x3 x4 t0 t1 hlr hlx
    have x0 : w2.cell? ⟨wr.heap.size, 0, none⟩ = some (.int .i64 x.id) := X2.cell 0
    have x1 : w2.cell? ⟨wr.heap.size, 1, none⟩ = some (.int .i64 x.fr) := X2.cell 1
    have x2 : w2.cell? ⟨wr.heap.size, 2, none⟩ = some (.int .i64 x.to) := X2.cell 2
    have x3 : w2.cell? ⟨wr.heap.size, 3, none⟩ = some (.int .i64 x.steps) := X2.cell 3
    have x4 : w2.cell? ⟨wr.heap.size, 4, none⟩ = some (.int .i64 x.paces) := X2.cell 4
    have t0 : w2.cell? ⟨w.heap.size, 0, none⟩ = some (.slice A n c) := T2.cell 0
    have t1 : w2.cell? ⟨w.heap.size, 1, none⟩ = some (.slice (some ⟨b, off, none⟩) m d) := T2.cell 1
    have hlr := T2.lt
    have hlx := X2.lt
    cases hi2 : inB 0 500 [x.steps] with
    | false =>
     have HI2 := lh hi2
     clear hi2
     go_wp2_with fail
     go_ret
     exact ⟨ret_bool (by rw [HU.out, linksB_drop HX.out, linkB_false (.inr (.inl HI2.out))]; rfl), B2⟩
    | true =>
     have HI2 := lh hi2
     clear hi2
     go_wp2_with fail
     refine (in1_any _ _ x.paces _ _ ?_ ?_).mono ?_
     ·simp
     ·simp [go_sem]
     rintro e w3 ⟨rfl, hb3⟩
     have X3 := (X2.alloc (.cells #[.int .i64 x.paces] 3)).below hb3 (by have := X2.lt; simp; omega)
     have T3 := (T2.alloc (.cells #[.int .i64 x.paces] 3)).below hb3 (by have := T2.lt; simp; omega)
     have B3 := below_one _ _ _ _ B2 hb3
     clear hb3
     clear x0 x1 x2 x3 x4 t0 t1 hlr hlx
     have x0 : w3.cell? ⟨wr.heap.size, 0, none⟩ = some (.int .i64 x.id) := X3.cell 0
     have x1 : w3.cell? ⟨wr.heap.size, 1, none⟩ = some (.int .i64 x.fr) := X3.cell 1
     have x2 : w3.cell? ⟨wr.heap.size, 2, none⟩ = some (.int .i64 x.to) := X3.cell 2
     have x3 : w3.cell? ⟨wr.heap.size, 3, none⟩ = some (.int .i64 x.steps) := X3.cell 3
     have x4 : w3.cell? ⟨wr.heap.size, 4, none⟩ = some (.int .i64 x.paces) := X3.cell 4
     have t0 : w3.cell? ⟨w.heap.size, 0, none⟩ = some (.slice A n c) := T3.cell 0
     have t1 : w3.cell? ⟨w.heap.size, 1, none⟩ = some (.slice (some ⟨b, off, none⟩) m d) := T3.cell 1
     have hlr := T3.lt
     have hlx := X3.lt
     cases hi3 : inB 1 2000 [x.paces] with
     | false =>
      have HI3 := lh hi3
      clear hi3
      go_wp2_with fail
      go_ret
      exact ⟨ret_bool (by rw [HU.out, linksB_drop HX.out, linkB_false (.inr (.inr (.inl HI3.out)))]; rfl), B3⟩
     | true =>
      have HI3 := lh hi3
      clear hi3
      by_cases he : x.fr = x.to
      ·have HE := lh he
       have he' : (x.fr == x.to) = true := by simpa using he
       clear he
       go_wp2_with fail
       go_ret
       exact ⟨ret_bool (by rw [HU.out, linksB_drop HX.out, linkB_false (.inr (.inr (.inr (.inl HE.out))))]; rfl), B3⟩
      ·have HE := lh he
       go_wp2_with fail
       refine (has_any A n c _ m d t _ 2 2 [x.fr, x.to] _ (by unfold maxLen; omega) (by decide) ?_ ?_).mono ?_
       ·have b3 := ht.below B3
        exact ((b3.more B3.size).below ((Below.refl _ _).alloc (Nat.le_refl _) _)).more (by rw [World.size_alloc]; omega)
       ·exact hasI2 _ _ _ _ (by simp) (by simp [go_sem]) (by simp [go_sem])
       rintro e w4 ⟨rfl, hb4⟩
       have X4 := (X3.alloc (.cells #[.int .i64 x.fr, .int .i64 x.to] 3)).below hb4 (by have := X3.lt; simp; omega)
       have T4 := (T3.alloc (.cells #[.int .i64 x.fr, .int .i64 x.to] 3)).below hb4 (by have := T3.lt; simp; omega)
       have B4 := below_one _ _ _ _ B3 hb4
       clear hb4
       clear x0 x1 x2 x3 x4 t0 t1 hlr hlx
       have x0 : w4.cell? ⟨wr.heap.size, 0, none⟩ = some (.int .i64 x.id) := X4.cell 0
       have x1 : w4.cell? ⟨wr.heap.size, 1, none⟩ = some (.int .i64 x.fr) := X4.cell 1
       have x2 : w4.cell? ⟨wr.heap.size, 2, none⟩ = some (.int .i64 x.to) := X4.cell 2
       have x3 : w4.cell? ⟨wr.heap.size, 3, none⟩ = some (.int .i64 x.steps) := X4.cell 3
       have x4 : w4.cell? ⟨wr.heap.size, 4, none⟩ = some (.int .i64 x.paces) := X4.cell 4
       have t0 : w4.cell? ⟨w.heap.size, 0, none⟩ = some (.slice A n c) := T4.cell 0
       have t1 : w4.cell? ⟨w.heap.size, 1, none⟩ = some (.slice (some ⟨b, off, none⟩) m d) := T4.cell 1
       have hlr := T4.lt
       have hlx := X4.lt
       cases hi4 : hasB t [x.fr, x.to] with
       | false =>
        have HI4 := lh hi4
        clear hi4
        go_wp2_with fail
        go_ret
        exact ⟨ret_bool (by rw [HU.out, linksB_drop HX.out, linkB_false (.inr (.inr (.inr (.inr HI4.out))))]; rfl), B4⟩
       | true =>
        have HI4 := lh hi4
        clear hi4
        go_wp2_with fail
        go_roundw
        case rel => exact ⟨k + 1, x.id, by omega, by go_num, rfl, by omega, by omega, by rw [HU.out, linksB_drop HX.out, linkB_true HI1.out HI2.out HI3.out HE.out HI4.out]; rfl, T4, B4⟩
        case measure => simp [intOf]; omega
  ·go_wp2_with fail
   go_ret
   exact ⟨ret_bool (by rw [HU.out, List.drop_eq_nil_of_le (by have := ht.links.len; omega)]; rfl), hb⟩
end
section
open Go.RowKit
@[reducible] def linkW (x : Link) : Value := .agg #[.int .i64 x.id, .int .i64 x.fr, .int .i64 x.to, .int .i64 x.steps, .int .i64 x.paces]
def idxL {α : Type} (p : α → Bool) (l : List α) : Int := if l.any p then (l.findIdx p : Int) else -1
theorem idxL_none {α : Type} {p : α → Bool} {l : List α} (h : ∀ y ∈ l, p y = false) : idxL p l = -1 := by
 unfold idxL
 rw [if_neg]
 simp only [List.any_eq_true, not_exists, not_and, Bool.not_eq_true]
 exact h
theorem idxL_some {α : Type} {p : α → Bool} {l : List α} {k : Nat} {x : α} (hx : l[k]? = some x) (hp : p x = true) (h : ∀ y ∈ l.take k, p y = false) : idxL p l = k := by
 obtain ⟨hk, rfl⟩ := List.getElem?_eq_some_iff.1 hx
 have hf : l.findIdx p = k := by
  rw [List.findIdx_eq hk]
  refine ⟨hp, fun j hj => ?_⟩
  have := h (l[j]'(by omega)) (by
   rw [List.mem_take_iff_getElem]
   exact ⟨j, by omega, rfl⟩)
  simp [this]
 unfold idxL
 rw [if_pos (List.any_eq_true.2 ⟨_, List.getElem_mem hk, hp⟩), hf]
structure PredL (w : World) (K : Nat) (F : FuncId) (C : Array Value) (p : Link → Bool) : Prop where
 enters : ∀ args W, (callFunc F args).run Tryz.prog W = .ok (.enter F args) W
 calls : ∀ x W, Below K w W → Calls Tryz.prog F (#[.agg #[.int .i64 x.id, .int .i64 x.fr, .int .i64 x.to, .int .i64 x.steps, .int .i64 x.paces]] ++ C) W fun e w' => e = .returned (.bool (p x)) ∧ Below W.heap.size W w'
theorem PredL.below {w w' : World} {K : Nat} {F : FuncId} {C : Array Value} {p : Link → Bool} (h : PredL w K F C p) (hb : Below K w w') : PredL w' K F C p :=
 ⟨h.enters, fun x W hW => h.calls x W (hb.trans hW)⟩
set_option maxRecDepth 100000 in
set_option maxHeartbeats 2000000 in
theorem indexFunc_link (K : Nat) (F : FuncId) (C : Array Value) (p : Link → Bool) (A : Option Addr) (n c : Nat) (l : List Link) (w : World) (hr : LinksAt w w.heap.size A n l) (hn : n ≤ maxLen) (hK : K ≤ w.heap.size) (hp : PredL w K F C p) :
  Calls Tryz.prog 143 #[.slice A n c, .func (.func F) #[] C] w fun e w' => e = .returned (.int .i64 (idxL p l)) ∧ Below w.heap.size w w' := by
 unfold maxLen at hn
 have hE := hp.enters
 have HF := lh hp
 clear hp
 go_enter Tryz.func143, Tryz.ntmps143
 go_wp2_with fail
 go_loopw [8, 5] (fun i j wr => ∃ k : Nat, k ≤ n ∧ i = .int .i64 k ∧ (∀ y ∈ l.take k, p y = false) ∧ Below w.heap.size w wr)
  (fun i _ _ => n - (intOf i).toNat)
 case atStart => exact ⟨0, by omega, rfl, by simp, Below.refl _ _⟩
 case round =>
  obtain ⟨k, hk, rfl, hno, hb⟩ := hrel
  have HN := lh hno
  clear hno
  by_cases hlt : k < n
  ·obtain ⟨b, off, x, rfl, hbB, hx, hc0, hc1, hc2, hc3, hc4⟩ := (hr.below hb).cell hlt
   have HX := lh hx
   clear hx
   go_wp2_with fail
   refine (HF.out.calls x _ (hb.mono hK)).mono ?_
   rintro e w' ⟨rfl, hb'⟩
   cases hp : p x with
   | true =>
    have HP := lh hp
    clear hp
    go_wp2_with fail
    go_ret
    exact ⟨ret_int (idxL_some HX.out HP.out HN.out).symm, hb.trans (hb'.mono hb.size)⟩
   | false =>
    have HP := lh hp
    clear hp
    go_wp2_with fail
    go_roundw
    case rel => exact ⟨k + 1, by omega, by go_num, take_snoc_all HX.out HP.out HN.out, hb.trans (hb'.mono hb.size)⟩
    case measure => simp [intOf]; omega
  ·go_wp2_with fail
   go_ret
   exact ⟨ret_int (idxL_none (by
    have := HN.out
    rwa [List.take_of_length_le (by have := hr.len; omega)] at this)).symm, hb⟩
end
section
open Go.RowKit
def sameI (a b : List Int) : Bool := decide (a = b)
theorem sameI_len {a b : List Int} (h : a.length ≠ b.length) : sameI a b = false := by unfold sameI; simp; intro e; exact h (by rw [e])
theorem sameI_ne {a b : List Int} {k : Nat} {x y : Int} (hx : a[k]? = some x) (hy : b[k]? = some y) (h : x ≠ y) : sameI a b = false := by
 unfold sameI; simp; intro e; subst e; rw [hx] at hy; cases hy; exact h rfl
theorem sameI_eq {a b : List Int} (hl : a.length = b.length) (h : ∀ (k : Nat) x y, k < a.length → a[k]? = some x → b[k]? = some y → x = y) : sameI a b = true := by
 unfold sameI; simp
 apply List.ext_getElem?
 intro k
 by_cases hk : k < a.length
 ·have h1 : a[k]? = some a[k] := List.getElem?_eq_getElem hk
  have h2 : b[k]? = some (b[k]'(by omega)) := List.getElem?_eq_getElem _
  rw [h1, h2, h k _ _ hk h1 h2]
 ·rw [List.getElem?_eq_none (by omega), List.getElem?_eq_none (by omega)]
set_option maxRecDepth 100000 in
set_option maxHeartbeats 2000000 in
theorem sameInts_any (A : Option Addr) (n c : Nat) (a : List Int) (B : Option Addr) (m d : Nat) (b : List Int) (w : World) (hn : n ≤ maxLen) (hm : m ≤ maxLen) (ha : IntsAt w w.heap.size A n a) (hb : IntsAt w w.heap.size B m b) :
  Calls Tryz.prog 24 #[.slice A n c, .slice B m d] w fun e w' => e = .returned (.bool (sameI a b)) ∧ Below w.heap.size w w' := by
 unfold maxLen at hn hm
 have HA := lh ha.len
 have HB := lh hb.len
 by_cases hnm : n = m
 ·subst hnm
  have hnn : ((n : Int) == (n : Int)) = true := by simp
  go_enter Tryz.func24, Tryz.ntmps24
  go_wp2_with fail
  go_loopw [5] (fun i wr => ∃ k : Nat, k ≤ n ∧ i = .int .i64 k ∧ (∀ (j : Nat) x y, j < k → a[j]? = some x → b[j]? = some y → x = y) ∧ Below w.heap.size w wr)
   (fun i _ => n - (intOf i).toNat)
  case atStart => exact ⟨0, by omega, rfl, fun _ _ _ h => absurd h (by omega), Below.refl _ _⟩
  case round =>
   obtain ⟨k, hk, rfl, hall, hbel⟩ := hrel
   have HAll := lh hall
   clear hall
   by_cases hlt : k < n
   ·obtain ⟨b1, o1, x, rfl, hb1, hx, cx⟩ := (ha.below hbel).cell hlt
    obtain ⟨b2, o2, y, rfl, hb2, hy, cy⟩ := (hb.below hbel).cell hlt
    have HX := lh hx
    have HY := lh hy
    have kI : (k : Int) < (n : Int) := by omega
    have k0 : (0 : Int) ≤ (k : Int) := by omega
    clear hx hy
    by_cases hxy : x = y
    ·have hxy' : (x == y) = true := by simpa using hxy
     have HXY := lh hxy
     clear hxy
     go_wp2_with fail
     go_quiet (fail)
     go_wp2_with fail
     go_roundw
     case rel => exact ⟨k + 1, by omega, by go_num, fun j u v hj hu hv => by
      rcases Nat.lt_or_ge j k with h | h
      ·exact HAll.out j u v h hu hv
      ·obtain rfl : j = k := by omega
       rw [HX.out] at hu; rw [HY.out] at hv
       cases hu; cases hv; exact HXY.out, below_drewN hbel _⟩
     case measure => simp [intOf]; omega
    ·have hxy' : (x == y) = false := by simpa using hxy
     have HXY := lh hxy
     clear hxy
     go_wp2_with fail
     go_quiet (fail)
     go_wp2_with fail
     go_ret
     exact ⟨ret_bool (sameI_ne HX.out HY.out HXY.out).symm, below_drewN hbel _⟩
   ·go_wp2_with fail
    go_ret
    exact ⟨ret_bool (sameI_eq (by rw [HA.out, HB.out]) (fun j x y hj hx hy => HAll.out j x y (by have := HA.out; omega) hx hy)).symm, hbel⟩
 ·have hnn : ((n : Int) == (m : Int)) = false := by simp; omega
  have HF : Hid (sameI a b = false) := sameI_len (by rw [HA.out, HB.out]; exact hnm)
  go_enter Tryz.func24, Tryz.ntmps24
  go_wp2_with fail
  go_ret
  exact ⟨ret_bool HF.out.symm, Below.refl _ _⟩
theorem eqi_run' (d : Nat) (a b : Int) (w : World) : (Op.equalIn (d+1) 3 (.int .i64 a) (.int .i64 b)).run Tryz.prog w = .ok (a == b) w := by
 simp [Op.equalIn, run_underlying Tryz.underlying3]
end
section
open Go.RowKit
theorem ret5 {w W : World} {B g : Nat} {t : TypeId} {z0 z1 z2 z3 z4 : Value} (R : Blk W g t #[z0, z1, z2, z3, z4]) (L : Below B w W) (hg : B ≤ g) (v0 v1 v2 v3 v4 : Value) :
  Blk (((((W.setCell ⟨g, 0, none⟩ v0).setCell ⟨g, 1, none⟩ v1).setCell ⟨g, 2, none⟩ v2).setCell ⟨g, 3, none⟩ v3).setCell ⟨g, 4, none⟩ v4) g t #[v0, v1, v2, v3, v4] ∧
  Below B w (((((W.setCell ⟨g, 0, none⟩ v0).setCell ⟨g, 1, none⟩ v1).setCell ⟨g, 2, none⟩ v2).setCell ⟨g, 3, none⟩ v3).setCell ⟨g, 4, none⟩ v4) ∧ True :=
 ⟨((((R.set_ 0 v0).set_ 1 v1).set_ 2 v2).set_ 3 v3).set_ 4 v4, ((((L.setCell (p := ⟨g, 0, none⟩) hg _).setCell (p := ⟨g, 1, none⟩) hg _).setCell (p := ⟨g, 2, none⟩) hg _).setCell (p := ⟨g, 3, none⟩) hg _).setCell (p := ⟨g, 4, none⟩) hg _, trivial⟩
set_option maxRecDepth 100000 in
theorem lskin_any (w : World) : Calls Tryz.prog 44 #[] w fun e w' => e = .returned (.agg #[.int .i64 1000, .int .i64 1, .int .i64 2, .int .i64 0, .int .i64 3]) ∧ Below w.heap.size w w' := by
 have Ly := lh (Lay.one w 65 #[.int .i64 0, .int .i64 0, .int .i64 0, .int .i64 0, .int .i64 0])
 go_enter Tryz.func44, Tryz.ntmps44
 go_wp2_with fail
 generalize (w.alloc (.cells #[.int .i64 0, .int .i64 0, .int .i64 0, .int .i64 0, .int .i64 0] 65)) = w0 at *
 refine (lspan_any 1 2 w0).mono ?_
 rintro e w1 ⟨rfl, hb⟩
 replace Ly := lyb Ly hb
 clear hb
 go_wp2_with fail
 refine (lspan_any 0 3 w1).mono ?_
 rintro e w2 ⟨rfl, hb⟩
 replace Ly := lyb Ly hb
 clear hb
 have c0 := lyc Ly 0 rfl 0
 have c1 := lyc Ly 0 rfl 1
 have c2 := lyc Ly 0 rfl 2
 have c3 := lyc Ly 0 rfl 3
 have c4 := lyc Ly 0 rfl 4
 have z0 := lyf Ly 0 rfl 0
 have z1 := lyf Ly 0 rfl 1
 have z2 := lyf Ly 0 rfl 2
 have z3 := lyf Ly 0 rfl 3
 have z4 := lyf Ly 0 rfl 4
 have l0 := Ly.out.lt 0 rfl
 go_wp2_with fail
 have R1 := ret5 (Ly.out.blk 0 rfl) Ly.out.1 (Nat.le_refl _) (.int .i64 1000) (.int .i64 1) (.int .i64 2) (.int .i64 0) (.int .i64 3)
 have y0 := R1.1.cell 0
 have y1 := R1.1.cell 1
 have y2 := R1.1.cell 2
 have y3 := R1.1.cell 3
 have y4 := R1.1.cell 4
 exact bodyPost_ret (v := .agg #[.int .i64 1000, .int .i64 1, .int .i64 2, .int .i64 0, .int .i64 3]) (by simp [results, Tryz.results44, go_sem, y0, y1, y2, y3, y4]) rfl ⟨rfl, R1.2.1⟩
set_option maxRecDepth 100000 in
theorem lgait_any (w : World) : Calls Tryz.prog 47 #[] w fun e w' => e = .returned (.agg #[.int .i64 1, .int .i64 2, .int .i64 2, .int .i64 3]) ∧ Below w.heap.size w w' := by
 have Ly := lh (Lay.one w 73 #[.int .i64 0, .int .i64 0, .int .i64 0, .int .i64 0])
 go_enter Tryz.func47, Tryz.ntmps47
 go_wp2_with fail
 generalize (w.alloc (.cells #[.int .i64 0, .int .i64 0, .int .i64 0, .int .i64 0] 73)) = w0 at *
 refine (lspan_any 1 2 w0).mono ?_
 rintro e w1 ⟨rfl, hb⟩
 replace Ly := lyb Ly hb
 clear hb
 go_wp2_with fail
 refine (lspan_any 2 3 w1).mono ?_
 rintro e w2 ⟨rfl, hb⟩
 replace Ly := lyb Ly hb
 clear hb
 have c0 := lyc Ly 0 rfl 0
 have c1 := lyc Ly 0 rfl 1
 have c2 := lyc Ly 0 rfl 2
 have c3 := lyc Ly 0 rfl 3
 have z0 := lyf Ly 0 rfl 0
 have z1 := lyf Ly 0 rfl 1
 have z2 := lyf Ly 0 rfl 2
 have z3 := lyf Ly 0 rfl 3
 have l0 := Ly.out.lt 0 rfl
 go_wp2_with fail
 have R1 := ret4' (Ly.out.blk 0 rfl) Ly.out.1 (Nat.le_refl _) (.int .i64 1) (.int .i64 2) (.int .i64 2) (.int .i64 3)
 have y0 := R1.1.cell 0
 have y1 := R1.1.cell 1
 have y2 := R1.1.cell 2
 have y3 := R1.1.cell 3
 exact bodyPost_ret (v := .agg #[.int .i64 1, .int .i64 2, .int .i64 2, .int .i64 3]) (by simp [results, Tryz.results47, go_sem, y0, y1, y2, y3]) rfl ⟨rfl, R1.2.1⟩
set_option maxRecDepth 100000 in
theorem is_any (A : Option Addr) (n c : Nat) (a : List Int) (e : Int) (B : Option Addr) (m d : Nat) (b : List Int) (w : World) (hn : n ≤ maxLen) (hm : m ≤ maxLen) (ha : IntsAt w w.heap.size A n a) (hb : IntsAt w w.heap.size B m b) :
  Calls Tryz.prog 46 #[.slice A n c, .int .i64 e, .slice B m d] w fun x w' => x = .returned (.bool (decide (e = 0) && sameI a b)) ∧ Below w.heap.size w w' := by
 have HA := lh ha
 have HB := lh hb
 clear ha hb
 go_enter Tryz.func46, Tryz.ntmps46
 by_cases he : e = 0
 ·subst he
  go_wp2_with fail
  refine (sameInts_any A n c a B m d b w hn hm HA.out HB.out).mono ?_
  rintro x w1 ⟨rfl, hb1⟩
  have H1 := lh hb1
  clear hb1
  obtain ⟨s, hs⟩ : ∃ s, sameI a b = s := ⟨_, rfl⟩
  rw [hs]
  have HS := lh hs
  clear hs
  go_wp2_with fail
  go_ret
  exact ⟨by rw [HS.out]; simp, H1.out⟩
 ·have he' : (e == 0) = false := by simpa using he
  have HE := lh he
  clear he
  go_wp2_with fail
  go_ret
  exact ⟨by simp [HE.out], Below.refl _ _⟩
end
section
open Go.RowKit
def Laid (w : World) : Prop := w.cell? ⟨0, 0, none⟩ = some (.func (.func 174) #[] #[]) ∧ w.cell? ⟨0, 1, none⟩ = some (.func (.func 175) #[] #[]) ∧ w.cell? ⟨0, 2, none⟩ = some (.func (.func 176) #[] #[]) ∧ 0 < w.heap.size
theorem Laid.below {w w' : World} (h : Laid w) {B : Nat} (hb : Below B w w') (hB : 0 < B) : Laid w' := by
 obtain ⟨h0, h1, h2, h3⟩ := h
 exact ⟨(hb.cell (p := ⟨0, 0, none⟩) hB).trans h0, (hb.cell (p := ⟨0, 1, none⟩) hB).trans h1, (hb.cell (p := ⟨0, 2, none⟩) hB).trans h2, Nat.lt_of_lt_of_le h3 hb.size⟩
theorem TownAt.up {w wr : World} {A A' : Option Addr} {n m : Nat} {t : Town} (ht : TownAt w w.heap.size A n A' m t) (hb : Below w.heap.size w wr) (o : Obj) : TownAt (wr.alloc o) (wr.alloc o).heap.size A n A' m t :=
 (((ht.below hb).more hb.size).below ((Below.refl _ _).alloc (Nat.le_refl _) _)).more (by rw [World.size_alloc]; omega)
theorem arr0_run (w : World) : (Instr.index 163 (.agg #[.func (.func 174) #[] #[], .func (.func 175) #[] #[], .func (.func 176) #[] #[]]) (.int .i64 0)).run Tryz.prog w = .ok (.agg #[.func (.func 174) #[] #[]]) w := by
 kernel_rfl
theorem arr1_run (w : World) : (Instr.index 163 (.agg #[.func (.func 174) #[] #[], .func (.func 175) #[] #[], .func (.func 176) #[] #[]]) (.int .i64 1)).run Tryz.prog w = .ok (.agg #[.func (.func 175) #[] #[]]) w := by
 kernel_rfl
theorem arr2_run (w : World) : (Instr.index 163 (.agg #[.func (.func 174) #[] #[], .func (.func 175) #[] #[], .func (.func 176) #[] #[]]) (.int .i64 2)).run Tryz.prog w = .ok (.agg #[.func (.func 176) #[] #[]]) w := by
 kernel_rfl
def chk (t : Town) : Int := if townB t then 0 else 30
set_option maxRecDepth 100000 in
set_option maxHeartbeats 1000000 in
theorem check_any (A : Option Addr) (n c : Nat) (A' : Option Addr) (m d : Nat) (t : Town) (w : World) (hn : n ≤ maxLen) (hm : m ≤ maxLen) (ht : TownAt w w.heap.size A n A' m t) (hL : Laid w) :
  Calls Tryz.prog 49 #[.agg #[.slice A n c, .slice A' m d]] w fun e w' => e = .returned (.int .i64 (chk t)) ∧ Below w.heap.size w w' := by
 obtain ⟨g0, g1, g2, hsz⟩ := hL
 have a0 := arr0_run
 have a1 := arr1_run
 have a2 := arr2_run
 go_enter Tryz.func49, Tryz.ntmps49
 go_wp2_with fail
 go_loopw [6] (fun i wr => ∃ k : Nat, k ≤ 3 ∧ i = .int .i64 k ∧ ((0 < k → sizeB t = true) ∧ (1 < k → upB 0 t.places = true) ∧ (2 < k → linksB t 0 t.links = true)) ∧ Blk wr w.heap.size 25 #[.slice A n c, .slice A' m d] ∧ Below w.heap.size w wr)
  (fun i _ => 3 - (intOf i).toNat)
 case atStart => exact ⟨0, by omega, rfl, ⟨fun h => absurd h (by omega), fun h => absurd h (by omega), fun h => absurd h (by omega)⟩, Blk.new _ _ _, (Below.refl _ _).alloc (Nat.le_refl _) _⟩
 case round =>
  obtain ⟨k, hk, rfl, hp, hT, hb⟩ := hrel
  have t0 : wr.cell? ⟨w.heap.size, 0, none⟩ = some (.slice A n c) := hT.cell 0
  have t1 : wr.cell? ⟨w.heap.size, 1, none⟩ = some (.slice A' m d) := hT.cell 1
  have hlr := hT.lt
  have HP := lh hp
  clear hp
  have hk' : k = 0 ∨ k = 1 ∨ k = 2 ∨ k = 3 := by omega
  rcases hk' with rfl | rfl | rfl | rfl
  ·go_wp2_with fail
   refine (check1_any A n c A' m d t _ hn hm (ht.up hb _)).mono ?_
   rintro e w1 ⟨rfl, hb1⟩
   have B1 := below_one _ _ _ _ hb hb1
   have T1 := (hT.alloc (.cells #[.func (.func 174) #[] #[]] 162)).below hb1 (by rw [World.size_alloc]; omega)
   cases hi : sizeB t with
   | true =>
    have HI := lh hi
    clear hi
    go_wp2_with fail
    go_roundw
    case rel => exact ⟨1, by omega, by go_num, ⟨fun _ => HI.out, fun h => absurd h (by omega), fun h => absurd h (by omega)⟩, T1, B1⟩
    case measure => simp [intOf]
   | false =>
    have HI := lh hi
    clear hi
    go_wp2_with fail
    go_ret
    exact ⟨ret_int (by unfold chk townB; rw [HI.out]; simp), B1⟩
  ·go_wp2_with fail
   refine (check2_any A n c A' m d t _ hn (ht.up hb _)).mono ?_
   rintro e w1 ⟨rfl, hb1⟩
   have B1 := below_one _ _ _ _ hb hb1
   have T1 := (hT.alloc (.cells #[.func (.func 175) #[] #[]] 162)).below hb1 (by rw [World.size_alloc]; omega)
   cases hi : upB 0 t.places with
   | true =>
    have HI := lh hi
    clear hi
    go_wp2_with fail
    go_roundw
    case rel => exact ⟨2, by omega, by go_num, ⟨fun _ => HP.out.1 (by omega), fun _ => HI.out, fun h => absurd h (by omega)⟩, T1, B1⟩
    case measure => simp [intOf]
   | false =>
    have HI := lh hi
    clear hi
    go_wp2_with fail
    go_ret
    exact ⟨ret_int (by unfold chk townB; rw [HI.out]; simp), B1⟩
  ·go_wp2_with fail
   refine (check3_any A n c A' m d t _ hn hm (ht.up hb _)).mono ?_
   rintro e w1 ⟨rfl, hb1⟩
   have B1 := below_one _ _ _ _ hb hb1
   have T1 := (hT.alloc (.cells #[.func (.func 176) #[] #[]] 162)).below hb1 (by rw [World.size_alloc]; omega)
   cases hi : linksB t 0 t.links with
   | true =>
    have HI := lh hi
    clear hi
    go_wp2_with fail
    go_roundw
    case rel => exact ⟨3, by omega, by go_num, ⟨fun _ => HP.out.1 (by omega), fun _ => HP.out.2.1 (by omega), fun _ => HI.out⟩, T1, B1⟩
    case measure => simp [intOf]
   | false =>
    have HI := lh hi
    clear hi
    go_wp2_with fail
    go_ret
    exact ⟨ret_int (by unfold chk townB; rw [HI.out]; simp), B1⟩
  ·go_wp2_with fail
   go_ret
   exact ⟨ret_int (by unfold chk townB; rw [HP.out.1 (by omega), HP.out.2.1 (by omega), HP.out.2.2 (by omega)]; simp), hb⟩
end
section
open Go.RowKit
theorem isNaN_int (x : Int) (w : World) : Calls Tryz.prog 124 #[.int .i64 x] w fun e w' => e = .returned (.bool false) ∧ w' = w := by
 go_enter Tryz.func124, Tryz.ntmps124
 go_wp2_with fail
 go_ret
 exact ⟨rfl, rfl⟩
def cmpI (x y : Int) : Int := if x < y then -1 else if y < x then 1 else 0
theorem cmp_int (x y : Int) (w : World) : Calls Tryz.prog 98 #[.int .i64 x, .int .i64 y] w fun e w' => e = .returned (.int .i64 (cmpI x y)) ∧ w' = w := by
 have h3 : x < y ∨ (¬ x < y ∧ y < x) ∨ (¬ x < y ∧ ¬ y < x) := by omega
 rcases h3 with h1 | ⟨h1, h2⟩ | ⟨h1, h2⟩
 all_goals
  go_enter Tryz.func98, Tryz.ntmps98
  go_wp2_with fail
  refine (isNaN_int x w).mono ?_
  rintro e w1 ⟨rfl, rfl⟩
  go_wp2_with fail
  refine (isNaN_int y w1).mono ?_
  rintro e w2 ⟨rfl, rfl⟩
  go_wp2_with fail
  go_ret
  exact ⟨ret_int (by unfold cmpI; split <;> first | rfl | omega | (split <;> first | rfl | omega)), rfl⟩
set_option maxHeartbeats 2000000 in
theorem compare_int (A : Option Addr) (n c : Nat) (a : List Int) (B : Option Addr) (m d : Nat) (b : List Int) (w : World) (ha : IntsAt w w.heap.size A n a) (hb : IntsAt w w.heap.size B m b) (hn : n ≤ maxLen) (hm : m ≤ maxLen) :
  Calls Tryz.prog 84 #[.slice A n c, .slice B m d] w fun e w' => e = .returned (.int .i64 (cmpL a b)) ∧ w' = w := by
 unfold maxLen at hn hm
 go_enter Tryz.func84, Tryz.ntmps84
 go_wp2_with fail
 go_loopw [11] (fun i wr => ∃ k : Nat, k ≤ n ∧ k ≤ m ∧ i = .int .i64 k ∧ cmpL a b = cmpL (a.drop k) (b.drop k) ∧ wr = w)
  (fun i _ => n - (intOf i).toNat)
 case atStart => exact ⟨0, by omega, by omega, rfl, by simp, rfl⟩
 case round =>
  obtain ⟨k, hk, hk', rfl, hc, rfl⟩ := hrel
  have HC := lh hc
  clear hc
  have la := ha.len
  have lb := hb.len
  by_cases h1 : k < n
  ·by_cases h2 : k < m
   ·obtain ⟨b1, o1, x, rfl, hb1, hx, cx⟩ := ha.cell h1
    obtain ⟨b2, o2, y, rfl, hb2, hy, cy⟩ := hb.cell h2
    have HX := lh hx
    have HY := lh hy
    clear hx hy
    have h2' : ¬ m ≤ k := by omega
    go_wp2_with fail
    refine (cmp_int x y wr).mono ?_
    rintro e w1 ⟨rfl, rfl⟩
    by_cases hxy : x < y
    ·have he : cmpI x y = -1 := by unfold cmpI; rw [if_pos hxy]
     go_wp2_with fail
     go_ret
     exact ⟨ret_int (by rw [HC.out, cmpL_drop HX.out HY.out, if_pos hxy]), rfl⟩
    ·by_cases hyx : y < x
     ·have he : cmpI x y = 1 := by unfold cmpI; rw [if_neg (by omega), if_pos hyx]
      go_wp2_with fail
      go_ret
      exact ⟨ret_int (by rw [HC.out, cmpL_drop HX.out HY.out, if_neg (by omega), if_pos hyx]), rfl⟩
     ·have he : cmpI x y = 0 := by unfold cmpI; rw [if_neg (by omega), if_neg (by omega)]
      go_wp2_with fail
      go_roundw
      case rel => exact ⟨k + 1, by omega, by omega, by go_num, by rw [HC.out, cmpL_drop HX.out HY.out, if_neg (by omega), if_neg (by omega)], trivial⟩
      case measure => simp [intOf]; omega
   ·obtain ⟨b1, o1, x, rfl, hb1, hx, cx⟩ := ha.cell h1
    have HX := lh hx
    clear hx
    have h2' : m ≤ k := by omega
    go_wp2_with fail
    go_ret
    refine ⟨ret_int ?_, rfl⟩
    obtain ⟨hk1, _⟩ := List.getElem?_eq_some_iff.1 HX.out
    rw [HC.out, List.drop_eq_getElem_cons hk1, show b.drop k = [] from List.drop_eq_nil_of_le (by omega)]; rfl
  ·by_cases h2 : n < m
   ·go_wp2_with fail
    go_ret
    refine ⟨ret_int ?_, rfl⟩
    rw [HC.out, show a.drop k = [] from List.drop_eq_nil_of_le (by omega), List.drop_eq_getElem_cons (show k < b.length by omega)]; rfl
   ·go_wp2_with fail
    go_ret
    refine ⟨ret_int ?_, rfl⟩
    rw [HC.out, show a.drop k = [] from List.drop_eq_nil_of_le (by omega), show b.drop k = [] from List.drop_eq_nil_of_le (by omega)]; rfl
end
section
open Go.RowKit
structure Wk where
 to : Int
 cost : Cost
 links : List Int
 A : Option Addr
 n : Nat
 cap : Nat
def Cost.vals (c : Cost) : List Value := [.int .i64 c.a, .int .i64 c.b, .int .i64 c.c, .int .i64 c.d]
@[reducible] def Wk.val (x : Wk) : Value := .agg #[.int .i64 x.to, .int .i64 x.cost.a, .int .i64 x.cost.b, .int .i64 x.cost.c, .int .i64 x.cost.d, .slice x.A x.n x.cap]
def Wk.at_ (w : World) (B : Nat) (x : Wk) : Prop := IntsAt w B x.A x.n x.links
def eqC (x y : Cost) : Bool := x.a == y.a && x.b == y.b && x.c == y.c && x.d == y.d
def cmpC (x y : Cost) : Int := cmpL x.list y.list
def cmpW (x : Cost) (l : List Int) (y : Cost) (m : List Int) : Int := if eqC x y then cmpL l m else cmpC x y
theorem eqi_run (d : Nat) (a b : Int) (w : World) : (Op.equalIn (d+1) 3 (.int .i64 a) (.int .i64 b)).run Tryz.prog w = .ok (a == b) w := by
 simp [Op.equalIn, run_underlying Tryz.underlying3]
theorem eqC_run (a1 a2 a3 a4 b1 b2 b3 b4 : Int) (w : World) : (Op.equalIn 10000 97 (.agg #[.int .i64 a1, .int .i64 a2, .int .i64 a3, .int .i64 a4]) (.agg #[.int .i64 b1, .int .i64 b2, .int .i64 b3, .int .i64 b4])).run Tryz.prog w = .ok (eqC ⟨a1, a2, a3, a4⟩ ⟨b1, b2, b3, b4⟩) w := by
 rw [Op.equalIn]
 simp [go_sem, run_underlying Tryz.underlying97, eqi_run, Std.Legacy.Range.forIn_eq_forIn_range', List.range', part, eqC]
 by_cases h1 : a1 = b1 <;> by_cases h2 : a2 = b2 <;> by_cases h3 : a3 = b3 <;> by_cases h4 : a4 = b4 <;> simp [h1, h2, h3, h4]
theorem cost_at {w : World} {g : Nat} {t : TypeId} {x : Wk} (h : Blk w g t #[.int .i64 x.to, .int .i64 x.cost.a, .int .i64 x.cost.b, .int .i64 x.cost.c, .int .i64 x.cost.d, .slice x.A x.n x.cap]) : IntsAt w w.heap.size (some ⟨g, 1, none⟩) 4 x.cost.list :=
 ⟨rfl, fun _ => ⟨_, rfl, h.lt, fun j u hu => by
  match j, hu with
  | 0, hu => simp [Cost.list] at hu; rw [← hu]; simpa [Addr.add] using h.cell 1
  | 1, hu => simp [Cost.list] at hu; rw [← hu]; simpa [Addr.add] using h.cell 2
  | 2, hu => simp [Cost.list] at hu; rw [← hu]; simpa [Addr.add] using h.cell 3
  | 3, hu => simp [Cost.list] at hu; rw [← hu]; simpa [Addr.add] using h.cell 4
  | (j + 4), hu => simp [Cost.list] at hu⟩⟩
set_option maxRecDepth 100000 in
set_option maxHeartbeats 2000000 in
theorem before_any (x y : Wk) (w : World) (hx : x.at_ w w.heap.size) (hy : y.at_ w w.heap.size) (hn : x.n ≤ maxLen) (hm : y.n ≤ maxLen) :
  Calls Tryz.prog 104 #[x.val, y.val] w fun e w' => e = .returned (.int .i64 (cmpW x.cost x.links y.cost y.links)) ∧ Below w.heap.size w w' := by
 have hq := eqC_run
 have hxw : cmpW x.cost x.links y.cost y.links = if eqC ⟨x.cost.a, x.cost.b, x.cost.c, x.cost.d⟩ ⟨y.cost.a, y.cost.b, y.cost.c, y.cost.d⟩ then cmpL x.links y.links else cmpC x.cost y.cost := rfl
 cases he : eqC ⟨x.cost.a, x.cost.b, x.cost.c, x.cost.d⟩ ⟨y.cost.a, y.cost.b, y.cost.c, y.cost.d⟩ with
 | true =>
  have HE := lh hxw
  clear hxw
  go_enter Tryz.func104, Tryz.ntmps104
  go_wp2_with fail
  refine (compare_int x.A x.n x.cap x.links y.A y.n y.cap y.links _ ?_ ?_ hn hm).mono ?_
  ·exact (Reads.alloc (Reads.alloc hx (Nat.le_refl _) _) (by simp) _).more (by simp; omega)
  ·exact (Reads.alloc (Reads.alloc hy (Nat.le_refl _) _) (by simp) _).more (by simp; omega)
  rintro e w1 ⟨rfl, rfl⟩
  go_wp2_with fail
  go_ret
  refine ⟨ret_int ?_, ((Below.refl _ _).alloc (Nat.le_refl _) _).alloc (by simp) _⟩
  rw [HE.out, he]; rfl
 | false =>
  have HE := lh hxw
  clear hxw
  go_enter Tryz.func104, Tryz.ntmps104
  go_wp2_with fail
  have X : Blk ((w.alloc (.cells #[.int .i64 x.to, .int .i64 x.cost.a, .int .i64 x.cost.b, .int .i64 x.cost.c, .int .i64 x.cost.d, .slice x.A x.n x.cap] 99)).alloc (.cells #[.int .i64 y.to, .int .i64 y.cost.a, .int .i64 y.cost.b, .int .i64 y.cost.c, .int .i64 y.cost.d, .slice y.A y.n y.cap] 99)) w.heap.size 99 #[.int .i64 x.to, .int .i64 x.cost.a, .int .i64 x.cost.b, .int .i64 x.cost.c, .int .i64 x.cost.d, .slice x.A x.n x.cap] := (Blk.new w _ _).alloc _
  have Y : Blk ((w.alloc (.cells #[.int .i64 x.to, .int .i64 x.cost.a, .int .i64 x.cost.b, .int .i64 x.cost.c, .int .i64 x.cost.d, .slice x.A x.n x.cap] 99)).alloc (.cells #[.int .i64 y.to, .int .i64 y.cost.a, .int .i64 y.cost.b, .int .i64 y.cost.c, .int .i64 y.cost.d, .slice y.A y.n y.cap] 99)) (w.heap.size + 1) 99 #[.int .i64 y.to, .int .i64 y.cost.a, .int .i64 y.cost.b, .int .i64 y.cost.c, .int .i64 y.cost.d, .slice y.A y.n y.cap] := by
   have h := Blk.new (w.alloc (.cells #[.int .i64 x.to, .int .i64 x.cost.a, .int .i64 x.cost.b, .int .i64 x.cost.c, .int .i64 x.cost.d, .slice x.A x.n x.cap] 99)) 99 #[.int .i64 y.to, .int .i64 y.cost.a, .int .i64 y.cost.b, .int .i64 y.cost.c, .int .i64 y.cost.d, .slice y.A y.n y.cap]
   rwa [World.size_alloc] at h
  go_quiet (refine Calls.quiet_of_same (compare_int _ 4 4 x.cost.list _ 4 4 y.cost.list _ (cost_at (Blk.drewN X _)) (cost_at (Blk.drewN Y _)) (by decide) (by decide)))
  go_wp2_with fail
  go_ret
  refine ⟨ret_int ?_, below_drewN (((Below.refl _ _).alloc (Nat.le_refl _) _).alloc (by simp) _) _⟩
  rw [HE.out, he]; rfl
end
section
inductive SW (t : Town) (dk : Bool) (p : Price) : Int → Int → Cost → List Int → List Int → Prop
 | nil (v : Int) : SW t dk p v v zeroC [] [v]
 | cons {u m v : Int} {x : Link} {c d : Cost} {l vs : List Int} (hx : x ∈ t.links) (hl : leads dk p x u = some (m, c)) (h : SW t dk p m v d l vs) (hu : u ∉ vs) : SW t dk p u v (addC c d) (x.id :: l) (u :: vs)
theorem nodup_le : ∀ {a b : List Int}, a.Nodup → (∀ x ∈ a, x ∈ b) → a.length ≤ b.length
 | [], _, _, _ => by simp
 | x :: a, b, h, hs => by
  rw [List.nodup_cons] at h
  have hb : x ∈ b := hs x (by simp)
  have := nodup_le (a := a) (b := b.erase x) h.2 (fun y hy => (List.mem_erase_of_ne (fun e => h.1 (by rw [← e]; exact hy))).2 (hs y (by simp [hy])))
  rw [List.length_erase_of_mem hb] at this
  have hp : 0 < b.length := List.length_pos_of_mem hb
  simp; omega
section
variable {t : Town} {dk : Bool} {p : Price} {u v m : Int} {c d : Cost} {l k vs : List Int} {x : Link}
theorem SW.walk (h : SW t dk p u v c l vs) : Walk t dk p u v c l := by
 induction h with
 | nil v => exact .nil v
 | cons hx hl _ _ ih => exact .cons hx hl ih
theorem SW.facts (h : SW t dk p u v c l vs) (ht : Fine t) : vs.Nodup ∧ vs.length = l.length + 1 ∧ (l = [] ∨ ∀ w ∈ vs, w ∈ t.places) ∧ (l = [] → vs = [v] ∧ u = v) := by
 induction h with
 | nil v => simp
 | @cons u m v x c d l vs hx hl h hu ih =>
  obtain ⟨i1, i2, i3, i4⟩ := ih
  have he := leads_ends hx ht hl
  refine ⟨List.nodup_cons.2 ⟨hu, i1⟩, by simp [i2], .inr fun w hw => ?_, by simp⟩
  rcases List.mem_cons.1 hw with rfl | hw
  ·exact he.1
  ·rcases i3 with rfl | i3
   ·obtain ⟨rfl, rfl⟩ := i4 rfl
    simp at hw; subst hw; exact he.2
   ·exact i3 w hw
theorem SW.short (h : SW t dk p u v c l vs) (ht : Fine t) : l = [] ∨ l.length < t.places.length := by
 obtain ⟨i1, i2, i3, _⟩ := h.facts ht
 rcases i3 with h3 | h3
 ·exact .inl h3
 ·have := nodup_le i1 h3
  exact .inr (by omega)
theorem grow_cons (ht : Fine t) (hp : Fair p) (hx : x ∈ t.links) (hl : leads dk p x u = some (m, c)) (d : Cost) (l : List Int) : cmpL (key d l) (key (addC c d) (x.id :: l)) < 0 := by
 have := leads_cost hx ht hp hl
 rw [addC_comm]
 exact key_grow _ _ _ _ (by omega) (by omega) (by omega)
theorem SW.suffix (h : SW t dk p u v c l vs) (ht : Fine t) (hp : Fair p) {w : Int} (hw : w ∈ vs) : ∃ c' l' vs', SW t dk p w v c' l' vs' ∧ cmpL (key c' l') (key c l) ≤ 0 := by
 induction h with
 | nil v => simp at hw; subst hw; exact ⟨_, _, _, .nil w, by rw [cmpL_refl]; omega⟩
 | @cons u m v x c d l vs hx hl h hu ih =>
  rcases List.mem_cons.1 hw with rfl | hw
  ·exact ⟨_, _, _, .cons hx hl h hu, by rw [cmpL_refl]; omega⟩
  ·obtain ⟨c', l', vs', h1, h2⟩ := ih hw
   have := cmpL_le_lt h2 (grow_cons ht hp hx hl d l)
   exact ⟨c', l', vs', h1, by omega⟩
theorem Walk.simple (h : Walk t dk p u v c l) (ht : Fine t) (hp : Fair p) : ∃ c' l' vs', SW t dk p u v c' l' vs' ∧ cmpL (key c' l') (key c l) ≤ 0 := by
 induction h with
 | nil v => exact ⟨_, _, _, .nil v, by rw [cmpL_refl]; omega⟩
 | @cons u m v x c d l hx hl h ih =>
  obtain ⟨c', l', vs', h1, h2⟩ := ih
  by_cases hu : u ∈ vs'
  ·obtain ⟨c2, l2, vs2, h3, h4⟩ := h1.suffix ht hp hu
   have := cmpL_le_lt (cmpL_trans h4 h2) (grow_cons ht hp hx hl d l)
   exact ⟨c2, l2, vs2, h3, by omega⟩
  ·exact ⟨_, _, _, .cons hx hl h1 hu, by rw [key_cons]; exact h2⟩
theorem Walk.short (h : Walk t dk p u v c l) (ht : Fine t) (hp : Fair p) : ∃ c' l', Walk t dk p u v c' l' ∧ cmpL (key c' l') (key c l) ≤ 0 ∧ (l' = [] ∨ l'.length < t.places.length) := by
 obtain ⟨c', l', vs', h1, h2⟩ := h.simple ht hp
 exact ⟨c', l', h1.walk, h2, h1.short ht⟩
theorem First.short (h : First t dk p u v (some (c, l))) (ht : Fine t) (hp : Fair p) : l.length ≤ 8 := by
 obtain ⟨c', l', h1, h2, h3⟩ := h.1.short ht hp
 have := cmpL_antisymm (h.2 _ _ h1) h2
 obtain ⟨rfl, rfl⟩ := key_inj this
 have := ht.size
 rcases h3 with rfl | h3
 ·simp
 ·omega
end
def paths (t : Town) (dk : Bool) (p : Price) : Nat → Int → List (Int × Cost × List Int)
 | 0, u => [(u, zeroC, [])]
 | k + 1, u => (u, zeroC, []) :: t.links.flatMap fun x => match leads dk p x u with
  | none => []
  | some (m, c) => (paths t dk p k m).map fun r => (r.1, addC c r.2.1, x.id :: r.2.2)
def minK : List (Cost × List Int) → Option (Cost × List Int)
 | [] => none
 | r :: rs => match minK rs with
  | none => some r
  | some s => if cmpL (key r.1 r.2) (key s.1 s.2) ≤ 0 then some r else some s
def best (t : Town) (dk : Bool) (p : Price) (u v : Int) : Option (Cost × List Int) :=
 minK (((paths t dk p t.places.length u).filter fun r => decide (r.1 = v)).map fun r => r.2)
section
variable {t : Town} {dk : Bool} {p : Price} {u v m : Int} {c d : Cost} {l k vs : List Int} {x : Link}
theorem mem_paths (n : Nat) : ∀ {u v : Int} {c : Cost} {l : List Int}, (v, c, l) ∈ paths t dk p n u ↔ Walk t dk p u v c l ∧ l.length ≤ n := by
 induction n with
 | zero =>
  intro u v c l
  simp only [paths, List.mem_singleton, Prod.mk.injEq]
  constructor
  ·rintro ⟨rfl, rfl, rfl⟩; exact ⟨.nil _, by simp⟩
  ·rintro ⟨h, hl⟩
   cases h with
   | nil v => exact ⟨rfl, rfl, rfl⟩
   | cons => simp at hl
 | succ n ih =>
  intro u v c l
  simp only [paths, List.mem_cons, Prod.mk.injEq, List.mem_flatMap]
  constructor
  ·rintro (⟨rfl, rfl, rfl⟩ | ⟨x, hx, h⟩)
   ·exact ⟨.nil _, by simp⟩
   ·cases hl : leads dk p x u with
    | none => rw [hl] at h; simp at h
    | some r =>
     obtain ⟨m, cx⟩ := r
     rw [hl] at h
     simp only [List.mem_map, Prod.mk.injEq] at h
     obtain ⟨⟨v', c', l'⟩, h1, rfl, rfl, rfl⟩ := h
     have := ih.1 h1
     exact ⟨.cons hx hl this.1, by simp; exact this.2⟩
  ·rintro ⟨h, hl⟩
   cases h with
   | nil v => exact .inl ⟨rfl, rfl, rfl⟩
   | @cons _ m _ x cx d l hx hlead hw =>
    refine .inr ⟨x, hx, ?_⟩
    rw [hlead]
    simp only [List.mem_map, Prod.mk.injEq]
    exact ⟨(v, d, l), ih.2 ⟨hw, by simpa using hl⟩, rfl, rfl, rfl⟩
theorem minK_none {rs : List (Cost × List Int)} : minK rs = none ↔ rs = [] := by
 cases rs with
 | nil => simp [minK]
 | cons r rs =>
  simp only [minK]
  cases minK rs with
  | none => simp
  | some s => simp only; split <;> simp
theorem minK_some : ∀ {rs : List (Cost × List Int)} {r : Cost × List Int}, minK rs = some r → r ∈ rs ∧ ∀ s ∈ rs, cmpL (key r.1 r.2) (key s.1 s.2) ≤ 0
 | [], r, h => by simp [minK] at h
 | q :: rs, r, h => by
  simp only [minK] at h
  cases hm : minK rs with
  | none =>
   rw [hm] at h
   cases h
   rw [minK_none.1 hm]
   exact ⟨by simp, fun s hs => by simp at hs; subst hs; rw [cmpL_refl]; omega⟩
  | some s =>
   have ⟨i1, i2⟩ := minK_some hm
   rw [hm] at h
   simp only at h
   split at h
   ·rename_i hle
    cases h
    refine ⟨by simp, fun y hy => ?_⟩
    rcases List.mem_cons.1 hy with rfl | hy
    ·rw [cmpL_refl]; omega
    ·exact cmpL_trans hle (i2 y hy)
   ·rename_i hle
    cases h
    refine ⟨by simp [i1], fun y hy => ?_⟩
    rcases List.mem_cons.1 hy with rfl | hy
    ·rcases cmpL_total (key y.1 y.2) (key r.1 r.2) with h1 | h1
     ·exact absurd h1 hle
     ·exact h1
    ·exact i2 y hy
theorem best_first (ht : Fine t) (hp : Fair p) (dk : Bool) (u v : Int) : First t dk p u v (best t dk p u v) := by
 have hm : ∀ c l, (c, l) ∈ ((paths t dk p t.places.length u).filter fun r => decide (r.1 = v)).map (fun r => r.2) ↔ Walk t dk p u v c l ∧ l.length ≤ t.places.length := by
  intro c l
  rw [← mem_paths]
  simp only [List.mem_map, List.mem_filter, decide_eq_true_eq]
  constructor
  ·rintro ⟨⟨v', r⟩, ⟨h1, h2⟩, h3⟩
   simp only at h2 h3
   subst h2 h3
   exact h1
  ·intro h
   exact ⟨(v, c, l), ⟨h, rfl⟩, rfl⟩
 have hs : ∀ {c l}, Walk t dk p u v c l → ∃ c' l', (Walk t dk p u v c' l' ∧ l'.length ≤ t.places.length) ∧ cmpL (key c' l') (key c l) ≤ 0 := by
  intro c l h
  obtain ⟨c', l', h1, h2, h3⟩ := h.short ht hp
  refine ⟨c', l', ⟨h1, ?_⟩, h2⟩
  rcases h3 with rfl | h3
  ·simp
  ·omega
 unfold best
 cases hb : minK (((paths t dk p t.places.length u).filter fun r => decide (r.1 = v)).map fun r => r.2) with
 | none =>
  rw [minK_none] at hb
  intro c l h
  obtain ⟨c', l', h1, _⟩ := hs h
  have := (hm c' l').2 h1
  rw [hb] at this
  simp at this
 | some r =>
  obtain ⟨c, l⟩ := r
  obtain ⟨h1, h2⟩ := minK_some hb
  refine ⟨((hm c l).1 h1).1, fun c' l' hw => ?_⟩
  obtain ⟨c2, l2, h3, h4⟩ := hs hw
  exact cmpL_trans (h2 _ ((hm c2 l2).2 h3)) h4
theorem first_iff (ht : Fine t) (hp : Fair p) {r : Option (Cost × List Int)} : First t dk p u v r ↔ r = best t dk p u v :=
 ⟨fun h => h.unique (best_first ht hp dk u v), fun h => by rw [h]; exact best_first ht hp dk u v⟩
end
def leE (E : List (Option Cost)) (i : Nat) (c : Cost) : Prop := ∃ e, E[i]? = some (some e) ∧ cmpL e.list c.list ≤ 0
structure BSt (t : Town) (dk : Bool) (p : Price) (to : Int) (k i j M : Nat) (E : List (Option Cost)) : Prop where
 len : E.length = t.places.length
 sound : ∀ (i : Nat) v c, t.places[i]? = some v → E[i]? = some (some c) → ∃ l, Walk t dk p v to c l ∧ l.length ≤ M
 home : ∀ i : Nat, t.places[i]? = some to → leE E i zeroC
 opt : ∀ (i : Nat) v c l, t.places[i]? = some v → Walk t dk p v to c l → l.length ≤ k → leE E i c
 done : ∀ i' : Nat, i' < i → ∀ v c l, t.places[i']? = some v → Walk t dk p v to c l → l.length ≤ k + 1 → leE E i' c
 now : ∀ v, t.places[i]? = some v → ∀ x ∈ t.links.take j, ∀ n cx, leads dk p x v = some (n, cx) → ∀ c l, Walk t dk p n to c l → l.length ≤ k → leE E i (addC cx c)
def Stable (t : Town) (dk : Bool) (p : Price) (E : List (Option Cost)) (i j : Nat) : Prop :=
 ∀ (i' : Nat) v, t.places[i']? = some v → ∀ (j' : Nat) x, t.links[j']? = some x → (i' < i ∨ (i' = i ∧ j' < j)) → ∀ n cx, leads dk p x v = some (n, cx) → ∀ (i2 : Nat) d, t.places[i2]? = some n → E[i2]? = some (some d) → leE E i' (addC cx d)
def Costs (t : Town) (dk : Bool) (p : Price) (to : Int) (E : List (Option Cost)) : Prop :=
 E.length = t.places.length ∧ ∀ (i : Nat) v, t.places[i]? = some v → ∀ r, E[i]? = some r → match r with
  | none => ∀ c l, ¬ Walk t dk p v to c l
  | some c => (∃ l, Walk t dk p v to c l) ∧ ∀ c' l', Walk t dk p v to c' l' → cmpL c.list c'.list ≤ 0
theorem leE_set {E : List (Option Cost)} {i i' : Nat} {c d : Cost} (h : leE E i' c) (hd : ∀ e, E[i]? = some (some e) → cmpL d.list e.list ≤ 0) (hi : i < E.length) : leE (E.set i (some d)) i' c := by
 obtain ⟨e, h1, h2⟩ := h
 by_cases hii : i = i'
 ·subst hii
  exact ⟨d, by rw [List.getElem?_set_self hi], cmpL_trans (hd e h1) h2⟩
 ·exact ⟨e, by rw [List.getElem?_set_ne hii]; exact h1, h2⟩
theorem leE_of_same {E : List (Option Cost)} {i : Nat} {c d : Cost} (h : leE E i c) (hd : cmpL c.list d.list ≤ 0) : leE E i d := by
 obtain ⟨e, h1, h2⟩ := h
 exact ⟨e, h1, cmpL_trans h2 hd⟩
section
variable {t : Town} {dk : Bool} {p : Price} {to v n : Int} {k i j M : Nat} {E : List (Option Cost)} {x : Link} {cx : Cost}
theorem BSt.more (h : BSt t dk p to k i j M E) (hM : M ≤ M + 1) : BSt t dk p to k i j (M + 1) E :=
 ⟨h.len, fun i v c h1 h2 => by obtain ⟨l, h3, h4⟩ := h.sound i v c h1 h2; exact ⟨l, h3, by omega⟩, h.home, h.opt, h.done, h.now⟩
theorem BSt.skip (h : BSt t dk p to k i j M E) (hx : t.links[j]? = some x) (hv : t.places[i]? = some v)
  (hno : ∀ n cx, leads dk p x v = some (n, cx) → ∀ (i2 : Nat) d, t.places[i2]? = some n → E[i2]? = some (some d) → leE E i (addC cx d)) (ht : Fine t) : BSt t dk p to k i (j + 1) M E := by
 refine ⟨h.len, h.sound, h.home, h.opt, h.done, ?_⟩
 intro v' hv' y hy n cx hl c l hw hlen
 rw [hv] at hv'
 cases hv'
 obtain ⟨hj, rfl⟩ := List.getElem?_eq_some_iff.1 hx
 rw [List.take_succ_eq_append_getElem hj, List.mem_append] at hy
 rcases hy with hy | hy
 ·exact h.now v hv y hy n cx hl c l hw hlen
 ·simp at hy
  subst hy
  have hn := (leads_ends (List.getElem_mem hj) ht hl).2
  obtain ⟨i2, h2⟩ := List.getElem?_of_mem hn
  obtain ⟨d, h3, h4⟩ := h.opt i2 n c l h2 hw hlen
  exact leE_of_same (hno n cx hl i2 d h2 h3) (by rw [cmpC_add']; exact h4)
theorem BSt.take (h : BSt t dk p to k i j M E) (hx : t.links[j]? = some x) (hv : t.places[i]? = some v) (hl : leads dk p x v = some (n, cx)) {i2 : Nat} {d : Cost} (h2 : t.places[i2]? = some n) (h3 : E[i2]? = some (some d))
  (hbe : ∀ e, E[i]? = some (some e) → cmpL (addC cx d).list e.list ≤ 0) (hnd : t.places.Nodup) : BSt t dk p to k i (j + 1) (M + 1) (E.set i (some (addC cx d))) := by
 have hi : i < E.length := by
  rw [h.len]
  exact (List.getElem?_eq_some_iff.1 hv).1
 have up : ∀ {i' c}, leE E i' c → leE (E.set i (some (addC cx d))) i' c := fun h1 => leE_set h1 hbe hi
 refine ⟨by simpa using h.len, ?_, fun i' h1 => up (h.home i' h1), fun i' v c l h1 h4 h5 => up (h.opt i' v c l h1 h4 h5), fun i' hi' v c l h1 h4 h5 => up (h.done i' hi' v c l h1 h4 h5), ?_⟩
 ·intro i' v' c h1 h4
  by_cases hii : i = i'
  ·subst hii
   rw [List.getElem?_set_self hi] at h4
   cases h4
   rw [hv] at h1
   cases h1
   obtain ⟨l, h5, h6⟩ := h.sound i2 n d h2 h3
   exact ⟨x.id :: l, .cons (List.mem_of_getElem? hx) hl h5, by simp; exact h6⟩
  ·rw [List.getElem?_set_ne hii] at h4
   obtain ⟨l, h5, h6⟩ := h.sound i' v' c h1 h4
   exact ⟨l, h5, by omega⟩
 ·intro v' hv' y hy n' cx' hl' c l hw hlen
  rw [hv] at hv'
  cases hv'
  obtain ⟨hj, rfl⟩ := List.getElem?_eq_some_iff.1 hx
  rw [List.take_succ_eq_append_getElem hj, List.mem_append] at hy
  rcases hy with hy | hy
  ·exact up (h.now v hv y hy n' cx' hl' c l hw hlen)
  ·simp at hy
   subst hy
   rw [hl] at hl'
   cases hl'
   refine ⟨addC cx d, by rw [List.getElem?_set_self hi], ?_⟩
   rw [cmpC_add']
   obtain ⟨e, h5, h6⟩ := h.opt i2 n c l h2 hw hlen
   rw [h3] at h5
   cases h5
   exact h6
theorem BSt.next (h : BSt t dk p to k i j M E) (hj : t.links.length ≤ j) : BSt t dk p to k (i + 1) 0 M E := by
 refine ⟨h.len, h.sound, h.home, h.opt, ?_, fun _ _ x hx => by simp at hx⟩
 intro i' hi' v c l h1 hw hlen
 by_cases e : i' = i
 ·subst e
  cases hw with
  | nil v => exact h.home i' h1
  | @cons _ m _ x cx d l hx hl hw' =>
   exact h.now v h1 x (by rw [List.take_of_length_le hj]; exact hx) m cx hl d l hw' (by simpa using hlen)
 ·exact h.done i' (by omega) v c l h1 hw hlen
theorem BSt.round (h : BSt t dk p to k i j M E) (hi : t.places.length ≤ i) : BSt t dk p to (k + 1) 0 0 M E := by
 refine ⟨h.len, h.sound, h.home, ?_, fun _ h1 => absurd h1 (by omega), fun _ _ x hx => by simp at hx⟩
 intro i' v c l h1 hw hlen
 exact h.done i' (by have := (List.getElem?_eq_some_iff.1 h1).1; omega) v c l h1 hw hlen
theorem Stable.keep (h : Stable t dk p E i j) (hj : t.links.length ≤ j) : Stable t dk p E (i + 1) 0 := by
 intro i' v hv j' x hx hor
 exact h i' v hv j' x hx (by
  have := (List.getElem?_eq_some_iff.1 hx).1
  omega)
theorem Stable.step (h : Stable t dk p E i j) (hx : t.links[j]? = some x) (hv : t.places[i]? = some v)
  (hno : ∀ n cx, leads dk p x v = some (n, cx) → ∀ (i2 : Nat) d, t.places[i2]? = some n → E[i2]? = some (some d) → leE E i (addC cx d)) : Stable t dk p E i (j + 1) := by
 intro i' v' hv' j' y hy hor n cx hl
 by_cases e : i' = i ∧ j' = j
 ·obtain ⟨rfl, rfl⟩ := e
  rw [hv] at hv'
  cases hv'
  rw [hx] at hy
  cases hy
  exact hno n cx hl
 ·exact h i' v' hv' j' y hy (by omega) n cx hl
theorem BSt.costs (h : BSt t dk p to k i j M E) (hs : Stable t dk p E t.places.length 0) (ht : Fine t) : Costs t dk p to E := by
 have main : ∀ {v c l}, Walk t dk p v to c l → ∀ i' : Nat, t.places[i']? = some v → leE E i' c := by
  intro v c l hw
  have gen : ∀ {v w c l}, Walk t dk p v w c l → w = to → ∀ i' : Nat, t.places[i']? = some v → leE E i' c := by
   intro v w c l hw
   induction hw with
   | nil v => intro e i' h1; subst e; exact h.home i' h1
   | @cons u m v x cx d l hx hl _ ih =>
    intro e i' h1
    obtain ⟨i2, h2⟩ := List.getElem?_of_mem (leads_ends hx ht hl).2
    obtain ⟨e', h3, h4⟩ := ih e i2 h2
    obtain ⟨j', hj'⟩ := List.getElem?_of_mem hx
    exact leE_of_same (hs i' u h1 j' x hj' (.inl (List.getElem?_eq_some_iff.1 h1).1) m cx hl i2 e' h2 h3) (by rw [cmpC_add']; exact h4)
  exact gen hw rfl
 refine ⟨h.len, fun i' v hv r hr => ?_⟩
 cases r with
 | none =>
  intro c l hw
  obtain ⟨e, h1, _⟩ := main hw i' hv
  rw [hr] at h1
  cases h1
 | some c =>
  obtain ⟨l, hl, _⟩ := h.sound i' v c hv hr
  refine ⟨⟨l, hl⟩, fun c' l' hw => ?_⟩
  obtain ⟨e, h1, h2⟩ := main hw i' hv
  rw [hr] at h1
  cases h1
  exact h2
end
end
section
open Go.RowKit
def priceOf (p : Price) (x : Link) (climbed : Bool) : Int := if climbed then x.paces * p.pace + x.steps * (p.up + p.step) else x.paces * p.pace + x.steps * p.step
structure Fit (x : Link) : Prop where
 steps : 0 ≤ x.steps ∧ x.steps ≤ 500
 paces : 1 ≤ x.paces ∧ x.paces ≤ 2000
structure PriceAt (w : World) (p : Price) (F : FuncId) (C : Array Value) : Prop where
 enters : ∀ args W, (callFunc F args).run Tryz.prog W = .ok (.enter F args) W
 calls : ∀ x cl W, Below w.heap.size w W → Fit x → Calls Tryz.prog F (#[.agg #[.int .i64 x.id, .int .i64 x.fr, .int .i64 x.to, .int .i64 x.steps, .int .i64 x.paces], .bool cl] ++ C) W fun e w' => e = .returned (.int .i64 (priceOf p x cl)) ∧ Below W.heap.size W w'
theorem PriceAt.below {w w' : World} {p : Price} {F : FuncId} {C : Array Value} (h : PriceAt w p F C) (hb : Below w.heap.size w w') : PriceAt w' p F C :=
 ⟨h.enters, fun x cl W hW hx => h.calls x cl W (hb.trans (hW.mono hb.size)) hx⟩
@[reducible] def linkV (x : Link) : Value := .agg #[.int .i64 x.id, .int .i64 x.fr, .int .i64 x.to, .int .i64 x.steps, .int .i64 x.paces]
@[reducible] def chartV (A : Option Addr) (n c : Nat) (A' : Option Addr) (m d : Nat) (dk : Bool) (F : FuncId) (C : Array Value) : Value := .agg #[.slice A n c, .slice A' m d, .bool dk, .func (.func F) #[] C]
@[reducible] def costV (c : Cost) : Value := .agg #[.int .i64 c.a, .int .i64 c.b, .int .i64 c.c, .int .i64 c.d]
theorem far4 {w : World} {g h : Nat} {t : TypeId} {cs : Array Value} (b : Blk w g t cs) (hp : g ≠ h) (u0 u1 u2 u3 : Value) : Blk ((((w.setCell ⟨h, 0, none⟩ u0).setCell ⟨h, 1, none⟩ u1).setCell ⟨h, 2, none⟩ u2).setCell ⟨h, 3, none⟩ u3) g t cs :=
 (((b.far (p := ⟨h, 0, none⟩) hp u0).far (p := ⟨h, 1, none⟩) hp u1).far (p := ⟨h, 2, none⟩) hp u2).far (p := ⟨h, 3, none⟩) hp u3
def costOf (p : Price) (x : Link) (cl : Bool) : Cost := ⟨priceOf p x cl, if cl then x.steps else 0, x.paces, 1⟩
set_option maxRecDepth 100000 in
set_option maxHeartbeats 4000000 in
theorem cost_any (A : Option Addr) (n c : Nat) (A' : Option Addr) (m d : Nat) (dk : Bool) (F : FuncId) (C : Array Value) (p : Price) (x : Link) (cl : Bool) (w : World) (hp : PriceAt w p F C) (hx : Fit x) :
  Calls Tryz.prog 130 #[.agg #[.slice A n c, .slice A' m d, .bool dk, .func (.func F) #[] C], .agg #[.int .i64 x.id, .int .i64 x.fr, .int .i64 x.to, .int .i64 x.steps, .int .i64 x.paces], .bool cl] w fun e w' => e = .returned (costV (costOf p x cl)) ∧ Below w.heap.size w w' := by
 have hen := hp.enters
 have HP := lh hp
 have HX := lh hx
 clear hp hx
 cases cl
 all_goals
  go_enter Tryz.func130, Tryz.ntmps130
  go_wp2_with fail
  have X1 := (Blk.new w 107 #[.slice A n c, .slice A' m d, .bool dk, .func (.func F) #[] C])
  have X2 := (X1.alloc (.cells #[.int .i64 x.id, .int .i64 x.fr, .int .i64 x.to, .int .i64 x.steps, .int .i64 x.paces] 52)).alloc (.cells #[.int .i64 0, .int .i64 0, .int .i64 0, .int .i64 0] 97)
  have Y2 := (Blk.new (w.alloc (.cells #[.slice A n c, .slice A' m d, .bool dk, .func (.func F) #[] C] 107)) 52 #[.int .i64 x.id, .int .i64 x.fr, .int .i64 x.to, .int .i64 x.steps, .int .i64 x.paces]).alloc (.cells #[.int .i64 0, .int .i64 0, .int .i64 0, .int .i64 0] 97)
  have Z2 := Blk.new ((w.alloc (.cells #[.slice A n c, .slice A' m d, .bool dk, .func (.func F) #[] C] 107)).alloc (.cells #[.int .i64 x.id, .int .i64 x.fr, .int .i64 x.to, .int .i64 x.steps, .int .i64 x.paces] 52)) 97 #[.int .i64 0, .int .i64 0, .int .i64 0, .int .i64 0]
  have B2 : Below w.heap.size w (((w.alloc (.cells #[.slice A n c, .slice A' m d, .bool dk, .func (.func F) #[] C] 107)).alloc (.cells #[.int .i64 x.id, .int .i64 x.fr, .int .i64 x.to, .int .i64 x.steps, .int .i64 x.paces] 52)).alloc (.cells #[.int .i64 0, .int .i64 0, .int .i64 0, .int .i64 0] 97)) := (((Below.refl _ _).alloc (Nat.le_refl _) _).alloc (by simp) _).alloc (by simp; omega) _
  rw [World.size_alloc] at Y2
  rw [World.size_alloc, World.size_alloc] at Z2
  clear X1
  generalize (((w.alloc (.cells #[.slice A n c, .slice A' m d, .bool dk, .func (.func F) #[] C] 107)).alloc (.cells #[.int .i64 x.id, .int .i64 x.fr, .int .i64 x.to, .int .i64 x.steps, .int .i64 x.paces] 52)).alloc (.cells #[.int .i64 0, .int .i64 0, .int .i64 0, .int .i64 0] 97)) = w0 at *
  have hz := Z2.lt
  have K0 : w0.drew.cell? ⟨w.heap.size, 3, none⟩ = some (.func (.func F) #[] C) ∧ w0.drew.cell? ⟨w.heap.size + 1, 0, none⟩ = some (.int .i64 x.id) ∧ w0.drew.cell? ⟨w.heap.size + 1, 1, none⟩ = some (.int .i64 x.fr) ∧ w0.drew.cell? ⟨w.heap.size + 1, 2, none⟩ = some (.int .i64 x.to) ∧ w0.drew.cell? ⟨w.heap.size + 1, 3, none⟩ = some (.int .i64 x.steps) ∧ w0.drew.cell? ⟨w.heap.size + 1, 4, none⟩ = some (.int .i64 x.paces) := ⟨X2.cell 3, Y2.cell 0, Y2.cell 1, Y2.cell 2, Y2.cell 3, Y2.cell 4⟩
  go_region_held3 (fun w' => w'.cell? ⟨w.heap.size, 3, none⟩ = some (.func (.func F) #[] C) ∧ w'.cell? ⟨w.heap.size + 1, 0, none⟩ = some (.int .i64 x.id) ∧ w'.cell? ⟨w.heap.size + 1, 1, none⟩ = some (.int .i64 x.fr) ∧ w'.cell? ⟨w.heap.size + 1, 2, none⟩ = some (.int .i64 x.to) ∧ w'.cell? ⟨w.heap.size + 1, 3, none⟩ = some (.int .i64 x.steps) ∧ w'.cell? ⟨w.heap.size + 1, 4, none⟩ = some (.int .i64 x.paces))
   (first | with_reducible assumption | exact ⟨(far4 X3 (by omega) _ _ _ _).cell 3, (far4 Y3 (by omega) _ _ _ _).cell 0, (far4 Y3 (by omega) _ _ _ _).cell 1, (far4 Y3 (by omega) _ _ _ _).cell 2, (far4 Y3 (by omega) _ _ _ _).cell 3, (far4 Y3 (by omega) _ _ _ _).cell 4⟩)
   (first | (refine (HP.out.calls x _ _ (below_drewN B2 1) HX.out).mono ?_; rintro e w1 ⟨rfl, hb⟩; have X3 := (Blk.drewN X2 1).below hb (by show w.heap.size < w0.heap.size; omega); have Y3 := (Blk.drewN Y2 1).below hb (by show w.heap.size + 1 < w0.heap.size; omega); have Z3 := (Blk.drewN Z2 1).below hb hz; have z0 := Z3.cell 0; have z1 := Z3.cell 1; have z2 := Z3.cell 2; have z3 := Z3.cell 3; have y0 := Z3.frozen 0; have y1 := Z3.frozen 1; have y2 := Z3.frozen 2; have y3 := Z3.frozen 3; have K1 : w1.cell? ⟨w.heap.size, 3, none⟩ = some (.func (.func F) #[] C) ∧ w1.cell? ⟨w.heap.size + 1, 0, none⟩ = some (.int .i64 x.id) ∧ w1.cell? ⟨w.heap.size + 1, 1, none⟩ = some (.int .i64 x.fr) ∧ w1.cell? ⟨w.heap.size + 1, 2, none⟩ = some (.int .i64 x.to) ∧ w1.cell? ⟨w.heap.size + 1, 3, none⟩ = some (.int .i64 x.steps) ∧ w1.cell? ⟨w.heap.size + 1, 4, none⟩ = some (.int .i64 x.paces) := ⟨X3.cell 3, Y3.cell 0, Y3.cell 1, Y3.cell 2, Y3.cell 3, Y3.cell 4⟩))
  go_wp2_with fail
  exact bodyPost_ret (v := costV (costOf p x _)) (by simp [results, Tryz.results130, go_sem, costOf, z0, z1, z2, z3]) rfl ⟨rfl, ((((((below_drewN B2 1).trans (hb.mono (by show w.heap.size ≤ w0.heap.size; omega))).setCell (by simp; omega) _).setCell (by simp; omega) _).setCell (by simp; omega) _).setCell (by simp; omega) _)⟩
end
end Go.Proofs.YtahkjagjcogeiaaGreatDoor
