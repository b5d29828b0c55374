/- Part 4 of the texts of this claim, joined. -/
import Derived.Test.YthofngceiecniaaMxW3
set_option linter.unusedVariables false
/- The law of a drawn region by a plan: quiet operations float; of those that do something, whichever of some comes next; stores last. -/
namespace Go.Proofs.Ythofngceiecniaa.Tr
open Go.RowKit Gr
set_option linter.unusedSectionVars false
def Up (A B : World) : Prop := Below A.heap.size A B
instance up_grows : Grows Up where
 refl := fun W => Below.refl _ W
 trans := fun {A B C} (h : Below A.heap.size A B) (k : Below B.heap.size B C) => (show Below A.heap.size A C from h.trans (k.mono h.size))
 below := fun h => h
 size := fun {A B} (h : Below A.heap.size A B) => h.size
abbrev Plan := List (List Nat × List Bool × List Nat)
def ins (x : Nat) : List Nat → List Nat
 | [] => [x]
 | y :: r => if x < y then x :: y :: r else y :: ins x r
def rowAt (tab : Plan) (p : List Nat) : Option (List Bool × List Nat) := (tab.find? fun r => r.1 == p).map (·.2)
def pathB (l : List Oper) (es : List Nat) (tab : Plan) : Nat → List Nat → List Nat → Bool
 | 0, _, _ => false
 | k + 1, p, ys => match rowAt tab p with
  | none => false
  | some (m, kids) =>
   decide (m.length ≤ l.length) && depsB l ys (idxs 0 m) && ((idxs 0 m).all fun i => decide (i < l.length) && !es.contains i && !ys.contains i) && decide (idxs 0 m).Nodup &&
   (kids.all fun x => decide (x < l.length) && !es.contains x && !(ys ++ idxs 0 m).contains x && readsB l x (ys ++ idxs 0 m) && !((l[x]?).map lateB).getD true && pathB l es tab k (ins x p) (ys ++ idxs 0 m ++ [x])) &&
   (!kids.isEmpty || (List.range l.length).all fun i => (ys ++ idxs 0 m).contains i || es.contains i) &&
   ((List.range l.length).all fun i => (ys ++ idxs 0 m).contains i || es.contains i || kids.contains i || (List.range l.length).any fun k' => !(ys ++ idxs 0 m).contains k' && afterB l i k')
def treeB (l : List Oper) (es : List Nat) : Bool :=
 upS es && backB l.toArray && Region.noSelect l.toArray && noDeferB l && (es.all fun i => decide (i < l.length)) &&
 ((List.range l.length).all fun i => es.contains i || ((dstAt l i).isSome && ((List.range l.length).all fun i' => i == i' || dstAt l i != dstAt l i'))) &&
 (es.all fun e => readsB l e (List.range l.length)) && (es.all fun e => es.all fun e' => decide (e ≤ e') || afterB l e e') &&
 ((List.range l.length).all fun i => es.contains i || ((l[i]?).map lateB).getD false || es.all fun e => afterB l e i) && (es.all fun e => (dstAt l e).isNone)
structure TreeOk (l : List Oper) (es : List Nat) : Prop where
 upE : es.Pairwise (· < ·)
 back : backB l.toArray = true
 nosel : Region.noSelect l.toArray = true
 nodef : noDeferB l = true
 e : ∀ i ∈ es, i < l.length
 own : ∀ i, i < l.length → i ∉ es → ∃ d, dstAt l i = some d ∧ ∀ i', i' < l.length → dstAt l i' = some d → i' = i
 depsE : ∀ i ∈ es, ∀ o, l[i]? = some o → ∀ t ∈ o.looksAt l.toArray, ∀ i', i' < l.length → dstAt l i' = some t → afterB l i i' = true
 chain : ∀ e ∈ es, ∀ e' ∈ es, e' < e → afterB l e e' = true
 late : ∀ i, i < l.length → i ∉ es → ∀ o, l[i]? = some o → lateB o = true ∨ ∀ e ∈ es, afterB l e i = true
 edst : ∀ e ∈ es, dstAt l e = none
theorem treeOk {l : List Oper} {es : List Nat} (h : treeB l es = true) : TreeOk l es := by
 unfold treeB at h
 simp only [Bool.and_eq_true] at h
 obtain ⟨⟨⟨⟨⟨⟨⟨⟨⟨h1, h2⟩, h3⟩, h4⟩, h5⟩, h6⟩, h7⟩, h8⟩, h9⟩, h10⟩ := h
 refine ⟨upS_pair h1, h2, h3, h4, fun i hi => of_decide_eq_true (List.all_eq_true.1 h5 i hi), fun i hi hne => ?_, fun i hi o ho t ht i' hi' hd => (readsB_spec (List.all_eq_true.1 h7 i hi) o ho t ht i' hi' hd).1, fun e he e' he' hlt => ?_, fun i hi hne o ho => ?_, fun e he => by simpa using List.all_eq_true.1 h10 e he⟩
 ·have h := List.all_eq_true.1 h6 i (List.mem_range.2 hi)
  simp only [Bool.or_eq_true, List.contains_eq_mem, decide_eq_true_eq] at h
  rcases h with h | h
  ·exact absurd h hne
  ·simp only [Bool.and_eq_true] at h
   obtain ⟨d, hd⟩ := Option.isSome_iff_exists.1 h.1
   refine ⟨d, hd, fun i' hi' hd' => ?_⟩
   have h' := List.all_eq_true.1 h.2 i' (List.mem_range.2 hi')
   simp only [Bool.or_eq_true, beq_iff_eq, bne_iff_ne] at h'
   rcases h' with h' | h'
   ·exact h'.symm
   ·exact absurd (hd.trans hd'.symm) h'
 ·have := List.all_eq_true.1 (List.all_eq_true.1 h8 e he) e' he'
  simp only [Bool.or_eq_true, decide_eq_true_eq] at this
  exact this.resolve_left (by omega)
 ·have := List.all_eq_true.1 h9 i (List.mem_range.2 hi)
  rw [ho] at this
  simp only [Option.map_some, Option.getD_some, Bool.or_eq_true, List.contains_eq_mem, decide_eq_true_eq] at this
  rcases this with (h | h) | h
  ·exact absurd h hne
  ·exact .inl h
  ·exact .inr fun e he => List.all_eq_true.1 h e he
structure PathOk (l : List Oper) (es ys : List Nat) : Prop where
 nodup : ys.Nodup
 x : ∀ i ∈ ys, i < l.length ∧ i ∉ es
 deps : ∀ pre i post, ys = pre ++ i :: post → ∀ o, l[i]? = some o → ∀ t ∈ o.looksAt l.toArray, ∀ i', i' < l.length → dstAt l i' = some t → afterB l i i' = true ∧ i' ∈ pre
theorem PathOk.nil {l : List Oper} {es : List Nat} : PathOk l es [] := ⟨List.nodup_nil, (fun i h => by cases h), fun pre i post e => by simp at e⟩
theorem PathOk.snoc {l : List Oper} {es ys : List Nat} (h : PathOk l es ys) {x : Nat} (h1 : x < l.length) (h2 : x ∉ es) (h3 : x ∉ ys) (h4 : readsB l x ys = true) : PathOk l es (ys ++ [x]) := by
 refine ⟨?_, fun i hi => ?_, fun pre i post e => ?_⟩
 ·rw [List.nodup_append]
  exact ⟨h.nodup, by simp, fun a ha b hb e => h3 (by rw [List.mem_singleton.1 hb] at e; rw [← e]; exact ha)⟩
 ·rcases List.mem_append.1 hi with hi | hi
  ·exact h.x i hi
  ·rw [List.mem_singleton.1 hi]; exact ⟨h1, h2⟩
 ·rcases List.append_eq_append_iff.1 e.symm with ⟨a', e1, e2⟩ | ⟨c', e1, e2⟩
  ·cases a' with
   | nil =>
    simp at e2
    obtain ⟨rfl, rfl⟩ := e2
    simp at e1
    subst e1
    exact readsB_spec h4
   | cons q a' =>
    simp at e2
    obtain ⟨rfl, rfl⟩ := e2
    exact h.deps pre i a' e1
  ·cases c' with
   | nil =>
    simp at e1 e2
    obtain ⟨rfl, rfl⟩ := e2
    subst e1
    exact readsB_spec h4
   | cons q c' => simp at e2
theorem PathOk.more {l : List Oper} {es : List Nat} : ∀ {qs ys : List Nat}, PathOk l es ys → depsB l ys qs = true → (∀ i ∈ qs, i < l.length ∧ i ∉ es ∧ i ∉ ys) → qs.Nodup → PathOk l es (ys ++ qs)
 | [], ys, h, _, _, _ => by simpa using h
 | x :: qs, ys, h, hd, hx, hn => by
  simp only [depsB, Bool.and_eq_true] at hd
  rw [List.nodup_cons] at hn
  have h1 := h.snoc (hx x (by simp)).1 (hx x (by simp)).2.1 (hx x (by simp)).2.2 hd.1
  have h2 := PathOk.more (qs := qs) h1 hd.2 (fun i hi => ⟨(hx i (by simp [hi])).1, (hx i (by simp [hi])).2.1, fun hm => by
   rcases List.mem_append.1 hm with hm | hm
   ·exact (hx i (by simp [hi])).2.2 hm
   ·rw [List.mem_singleton.1 hm] at hi; exact hn.1 hi⟩) hn.2
  simpa using h2
structure KidsOk (l : List Oper) (es : List Nat) (tab : Plan) (k : Nat) (p ys kids : List Nat) : Prop where
 kid : ∀ x ∈ kids, x < l.length ∧ x ∉ es ∧ x ∉ ys ∧ readsB l x ys = true ∧ (∀ o, l[x]? = some o → lateB o = false) ∧ pathB l es tab k (ins x p) (ys ++ [x]) = true
 all : kids = [] → ∀ i, i < l.length → i ∈ ys ∨ i ∈ es
 wait : ∀ i, i < l.length → i ∉ ys → i ∉ es → i ∉ kids → ∃ k', k' ∉ ys ∧ afterB l i k' = true
theorem pathOk {l : List Oper} {es : List Nat} {tab : Plan} {k : Nat} {p ys : List Nat} (h : pathB l es tab (k + 1) p ys = true) (ho : PathOk l es ys) : ∃ m kids, rowAt tab p = some (m, kids) ∧ m.length ≤ l.length ∧ PathOk l es (ys ++ idxs 0 m) ∧ KidsOk l es tab k p (ys ++ idxs 0 m) kids := by
 unfold pathB at h
 cases hr : rowAt tab p with
 | none => rw [hr] at h; simp at h
 | some q =>
  obtain ⟨m, kids⟩ := q
  rw [hr] at h
  simp only [Bool.and_eq_true, decide_eq_true_eq] at h
  obtain ⟨⟨⟨⟨⟨⟨h1, h2⟩, h3⟩, h4⟩, h5⟩, h6⟩, h7⟩ := h
  refine ⟨m, kids, rfl, h1, ho.more h2 (fun i hi => ?_) h4, ⟨fun x hx => ?_, fun e i hi => ?_, fun i hi hy he hk => ?_⟩⟩
  ·have := List.all_eq_true.1 h3 i hi
   simp only [Bool.and_eq_true, decide_eq_true_eq, Bool.not_eq_true', List.contains_eq_mem, decide_eq_false_iff_not] at this
   exact ⟨this.1.1, this.1.2, this.2⟩
  ·have := List.all_eq_true.1 h5 x hx
   simp only [Bool.and_eq_true, decide_eq_true_eq, Bool.not_eq_true', List.contains_eq_mem, decide_eq_false_iff_not] at this
   obtain ⟨⟨⟨⟨⟨a1, a2⟩, a3⟩, a4⟩, a5⟩, a6⟩ := this
   exact ⟨a1, a2, a3, a4, fun o ho => by rw [ho] at a5; simpa using a5, a6⟩
  ·subst e
   simp only [List.isEmpty_nil, Bool.not_true, Bool.false_or] at h6
   have := List.all_eq_true.1 h6 i (List.mem_range.2 hi)
   simpa using this
  ·have := List.all_eq_true.1 h7 i (List.mem_range.2 hi)
   simp only [Bool.or_eq_true, List.contains_eq_mem, decide_eq_true_eq] at this
   rcases this with ((h | h) | h) | h
   ·exact absurd h hy
   ·exact absurd h he
   ·exact absurd h hk
   ·obtain ⟨k', _, hk'⟩ := List.any_eq_true.1 h
    simp only [Bool.and_eq_true, Bool.not_eq_true'] at hk'
    exact ⟨k', by simpa using hk'.1, hk'.2⟩
section
variable {G : World → World → Prop} [Grows G] {F : Fence} {n : Nat} {P : Program} {l : List Oper}
def wpTree (G : World → World → Prop) (F : Fence) (n : Nat) (P : Program) (l : List Oper) (tail : World → Act → Prop) (tab : Plan) : Nat → List Nat → World → Act → Prop
 | 0, _, _, _ => False
 | k + 1, p, V, a => ∃ m kids, rowAt tab p = some (m, kids) ∧ ∃ A, Gr.Quietly G F n P l V (pickB l m) a A ∧ (kids = [] → tail V A) ∧ ∀ x ∈ kids, ∃ o, l[x]? = some o ∧ ∀ W, Below V.heap.size V W →
     wpListIn F n P l.toArray (Exit.then (fun a' W' => a'.defers = A.defers ∧ G W W' ∧ wpTree G F n P l tail tab k (ins x p) W' a') (fun _ _ _ => False)) [o] A W
theorem wpTree_end {tail : World → Act → Prop} {tab : Plan} {k : Nat} {p : List Nat} {V : World} {a A : Act} {m : List Bool} (hr : rowAt tab p = some (m, [])) (hq : Gr.Quietly G F n P l V (pickB l m) a A) (h : tail V A) : wpTree G F n P l tail tab (k + 1) p V a := ⟨m, [], hr, A, hq, fun _ => h, fun x hx => by cases hx⟩
theorem wpTree_one {tail : World → Act → Prop} {tab : Plan} {k x : Nat} {p : List Nat} {V : World} {a A : Act} {m : List Bool} {o : Oper} (hr : rowAt tab p = some (m, [x])) (ho : l[x]? = some o) (hq : Gr.Quietly G F n P l V (pickB l m) a A)
  (h : ∀ W, Below V.heap.size V W → wpListIn F n P l.toArray (Exit.then (fun a' W' => a'.defers = A.defers ∧ G W W' ∧ wpTree G F n P l tail tab k (ins x p) W' a') (fun _ _ _ => False)) [o] A W) : wpTree G F n P l tail tab (k + 1) p V a :=
 ⟨m, [x], hr, A, hq, (fun e => by cases e), fun y hy => by obtain rfl := List.mem_singleton.1 hy; exact ⟨o, ho, h⟩⟩
theorem wpTree_two {tail : World → Act → Prop} {tab : Plan} {k x y : Nat} {p : List Nat} {V : World} {a A : Act} {m : List Bool} {o o' : Oper} (hr : rowAt tab p = some (m, [x, y])) (ho : l[x]? = some o) (ho' : l[y]? = some o') (hq : Gr.Quietly G F n P l V (pickB l m) a A)
  (h : ∀ W, Below V.heap.size V W → wpListIn F n P l.toArray (Exit.then (fun a' W' => a'.defers = A.defers ∧ G W W' ∧ wpTree G F n P l tail tab k (ins x p) W' a') (fun _ _ _ => False)) [o] A W)
  (h' : ∀ W, Below V.heap.size V W → wpListIn F n P l.toArray (Exit.then (fun a' W' => a'.defers = A.defers ∧ G W W' ∧ wpTree G F n P l tail tab k (ins y p) W' a') (fun _ _ _ => False)) [o'] A W) : wpTree G F n P l tail tab (k + 1) p V a :=
 ⟨m, [x, y], hr, A, hq, (fun e => by cases e), fun z hz => by
  rcases List.mem_cons.1 hz with rfl | hz
  ·exact ⟨o, ho, h⟩
  ·obtain rfl := List.mem_singleton.1 hz; exact ⟨o', ho', h'⟩⟩
def NextT (G : World → World → Prop) (F : Fence) (n : Nat) (P : Program) (l : List Oper) (tail : World → Act → Prop) (tab : Plan) (k : Nat) (p kids : List Nat) (V : World) (A : Act) : Prop :=
 (kids = [] → tail V A) ∧ ∀ x ∈ kids, ∃ o, l[x]? = some o ∧ ∀ W, Below V.heap.size V W →
   wpListIn F n P l.toArray (Exit.then (fun a' W' => a'.defers = A.defers ∧ G W W' ∧ wpTree G F n P l tail tab k (ins x p) W' a') (fun _ _ _ => False)) [o] A W
def AvT (G : World → World → Prop) (F : Fence) (n : Nat) (P : Program) (l : List Oper) (a0 : Act) (ys : List Nat) (V : World) (A : Act) (i : Nat) : Prop :=
 ∀ o, l[i]? = some o → ∃ pre post, ys = pre ++ i :: post ∧ ∀ C, Gr.Good G V C → ∃ LF, Mixed l (· ∈ pre) A a0 LF ∧ YieldsQuiet F n P l.toArray C o (valOf l A i) LF
section
variable {es : List Nat} {a0 : Act} {tail : World → Act → Prop} {tab : Plan}
theorem enter_core (ok : TreeOk l es) (hs : slotsM l a0.tmps.size = true) {ys qs : List Nat} {V : World} {A1 A : Act} (hp : PathOk l es (ys ++ qs)) (hA1 : Mixed l (· ∈ ys) A1 a0 A1) (hq : Gr.Quietly G F n P l V (pick l qs) A1 A) :
  Mixed l (· ∈ ys ++ qs) A a0 A ∧ (∀ i ∈ ys, ∀ t, dstAt l i = some t → A1.tmps.getD t undef = A.tmps.getD t undef) ∧ ∀ i ∈ qs, AvT G F n P l a0 (ys ++ qs) V A i := by
 have hslot : ∀ i, i < l.length → ∀ d, dstAt l i = some d → d < a0.tmps.size := fun i hi d hd => by
  have := List.all_eq_true.1 hs i (List.mem_range.2 hi)
  rw [hd] at this
  simpa using this
 have hnd := hp.nodup
 rw [List.nodup_append] at hnd
 obtain ⟨_, hnq, hdis⟩ := hnd
 have hcond : ∀ i ∈ qs, i < l.length ∧ ∃ d, dstAt l i = some d ∧ d < A1.tmps.size ∧ ∀ i' ∈ qs, dstAt l i' = some d → i' = i := fun i hi => by
  obtain ⟨h1, h3⟩ := hp.x i (by simp [hi])
  obtain ⟨d, h4, h5⟩ := ok.own i h1 h3
  exact ⟨h1, d, h4, by rw [hA1.size]; exact hslot i h1 d h4, fun i' hi' hd' => h5 i' (hp.x i' (by simp [hi'])).1 hd'⟩
 have S := fun (C : World → Prop) (hC : Gr.Good G V C) => quiet_seq (F := F) (n := n) (P := P) (l := l) (C := C) (A := A) qs A1 hcond hnq (hq.cls hC)
 obtain ⟨M, _⟩ := S _ (Gr.Good.above V)
 have same : ∀ i ∈ ys, ∀ t, dstAt l i = some t → A1.tmps.getD t undef = A.tmps.getD t undef := fun i hi t ht => by
  refine (M.out t fun i' hi' hd' => ?_).symm
  obtain ⟨h1, h3⟩ := hp.x i (by simp [hi])
  obtain ⟨d, h4, h5⟩ := ok.own i h1 h3
  rw [ht] at h4
  cases h4
  have := h5 i' (hp.x i' (by simp [hi'])).1 hd'
  subst this
  exact hdis i' hi i' hi' rfl
 have B := hA1.change same
 refine ⟨(M.trans B).congr (fun i => by simp [or_comm]), same, fun i hi o ho => ?_⟩
 obtain ⟨pre, post, e⟩ := List.append_of_mem hi
 refine ⟨ys ++ pre, post, by rw [e]; simp, fun C hC => ?_⟩
 obtain ⟨LF, h1, h2⟩ := (S C hC).2 pre i post e o ho
 exact ⟨LF, (h1.trans B).congr (fun k => by simp [or_comm]), h2⟩
theorem tree_enter (ok : TreeOk l es) (hs : slotsM l a0.tmps.size = true) {k : Nat} {p ys : List Nat} {V : World} {A1 : Act} (h : wpTree G F n P l tail tab k p V A1) (hB : pathB l es tab k p ys = true) (hp : PathOk l es ys) (hA1 : Mixed l (· ∈ ys) A1 a0 A1) :
  ∃ k' qs kids A, PathOk l es (ys ++ qs) ∧ KidsOk l es tab k' p (ys ++ qs) kids ∧ Mixed l (· ∈ ys ++ qs) A a0 A ∧ (∀ i ∈ ys, ∀ t, dstAt l i = some t → A1.tmps.getD t undef = A.tmps.getD t undef) ∧ (∀ i ∈ qs, AvT G F n P l a0 (ys ++ qs) V A i) ∧ NextT G F n P l tail tab k' p kids V A := by
 cases k with
 | zero => exact h.elim
 | succ k =>
  obtain ⟨m, kids, hr, A, hq, h1, h2⟩ := h
  obtain ⟨m', kids', hr', hm, hp', hk⟩ := pathOk hB hp
  rw [hr] at hr'
  cases hr'
  rw [pickB_all l m hm] at hq
  obtain ⟨a1, a2, a3⟩ := enter_core ok hs hp' hA1 hq
  exact ⟨k, idxs 0 m, kids, A, hp', hk, a1, a2, a3, h1, h2⟩
end
theorem wpIn_region_tree {Q : Exit → Act → World → Prop} {id : Nat} {a0 : Act} {w V0 : World} (tab : Plan) (fuel : Nat) (em : List Bool)
  (hm : P.follows .mixedOrders = true) (hB : (treeB l (idxs 0 em) && pathB l (idxs 0 em) tab fuel [] [] && decide (em.length ≤ l.length)) = true)
  (hs : slotsM l a0.tmps.size = true) (hV : Below V0.heap.size V0 w.drew)
  (h : wpTree G F n P l (fun V A => ∀ W, Below V.heap.size V W → wpT F n P l.toArray (Q .normal) (pickB l em) A W) tab fuel [] V0 a0) : (Code.region id l.toArray true).wpIn F n P Q a0 w := by
 simp only [Bool.and_eq_true, decide_eq_true_eq] at hB
 obtain ⟨⟨hB, hpb⟩, hem⟩ := hB
 have ok := treeOk hB
 obtain ⟨es, hes⟩ : ∃ es, idxs 0 em = es := ⟨_, rfl⟩
 rw [hes] at ok hpb
 have hpe : pickB l em = pick l es := by rw [← hes]; exact pickB_all l em hem
 have hnd : noDefer l.toArray := noDefer_of ok.nodef
 have hslot : ∀ i, i < l.length → ∀ d, dstAt l i = some d → d < a0.tmps.size := fun i hi d hd => by
  have := List.all_eq_true.1 hs i (List.mem_range.2 hi)
  rw [hd] at this
  simpa using this
 let tail : World → Act → Prop := fun V A => ∀ W, Below V.heap.size V W → wpT F n P l.toArray (Q .normal) (pickB l em) A W
 let StA : Array Bool → Act → World → Prop := fun listed a W => listed.size = l.length ∧ (∀ e ∈ es, listed.getD e false = false) ∧ ∃ (k : Nat) (p ys kids : List Nat) (A : Act) (V : World), PathOk l es ys ∧ KidsOk l es tab k p ys kids ∧ (∀ i, i < l.length → i ∉ ys → listed.getD i false = false) ∧ Mixed l (· ∈ ys) A a0 A ∧
  Mixed l (fun i => i ∈ ys ∧ listed.getD i false = true) A a0 a ∧ (∀ i ∈ ys, listed.getD i false = false → AvT G F n P l a0 ys V A i) ∧ Below V.heap.size V W ∧ NextT G F n P l tail tab k p kids V A
 let Miss : Array Bool → Tmp → Prop := fun listed t => ∃ i, i < l.length ∧ i ∉ es ∧ listed.getD i false = false ∧ dstAt l i = some t
 let StB : Array Bool → Act → World → Prop := fun listed a W => listed.size = l.length ∧ ∃ (A Ac : Act) (m : Nat) (ys : List Nat), PathOk l es ys ∧ (∀ i, i < l.length → i ∈ ys ∨ i ∈ es) ∧ m ≤ es.length ∧ (∀ e ∈ es.take m, listed.getD e false = true) ∧ (∀ e ∈ es.drop m, listed.getD e false = false) ∧ Rel (Miss listed) a Ac ∧ Ac.tmps.size = a0.tmps.size ∧
  (∀ i ∈ ys, ∀ t, dstAt l i = some t → Ac.tmps.getD t undef = A.tmps.getD t undef) ∧ (∀ t, (∀ i, i < l.length → dstAt l i ≠ some t) → Ac.tmps.getD t undef = a0.tmps.getD t undef) ∧
  (∀ i ∈ ys, listed.getD i false = false → ∀ o, l[i]? = some o → ∃ pre post LF, ys = pre ++ i :: post ∧ Mixed l (· ∈ pre) A a0 LF ∧ YieldsAll F P l.toArray o (valOf l A i) LF) ∧ wpT F n P l.toArray (Q .normal) (pick l (es.drop m)) Ac W
 have setD : ∀ (listed : Array Bool) (i i' : Nat), listed.size = l.length → i < l.length → (listed.setIfInBounds i true).getD i' false = done (fun i => listed.getD i false) i i' := fun listed i i' hsz hi => by
  unfold done
  by_cases e : i' = i
  ·subst e
   rw [if_pos rfl, Array.getD_eq_getD_getElem?, Array.getElem?_setIfInBounds]
   have : i' < listed.size := by omega
   simp [this]
  ·rw [if_neg e, getD_set_ne false (Ne.symm e)]
 have mixS : ∀ (listed : Array Bool) (i : Nat) (ys : List Nat), listed.size = l.length → i < l.length → i ∈ ys → ∀ k, ((k ∈ ys ∧ listed.getD k false = true) ∨ k = i) ↔ (k ∈ ys ∧ (listed.setIfInBounds i true).getD k false = true) := fun listed i ys hsz hi hix k => by
  rw [setD listed i k hsz hi]
  unfold done
  by_cases e : k = i
  ·subst e; simp [hix]
  ·simp [e]
 -- what an operation reads
 have agreeA : ∀ {listed : Array Bool} {A LF a1 : Act} {ys pre post : List Nat} {i : Nat} {o : Oper}, PathOk l es ys → l[i]? = some o → ys = pre ++ i :: post → (∀ i', afterB l i i' = true → listed.getD i' false = true) →
   Mixed l (· ∈ pre) A a0 LF → Mixed l (fun i => i ∈ ys ∧ listed.getD i false = true) A a0 a1 → ∀ t ∈ o.looksAt l.toArray, LF.tmps.getD t undef = a1.tmps.getD t undef := by
  intro listed A LF a1 ys pre post i o hp hol hx hwait hLF hM t ht
  by_cases hex : ∃ i', i' < l.length ∧ dstAt l i' = some t
  ·obtain ⟨i', hi', hd⟩ := hex
   obtain ⟨h1, h2⟩ := hp.deps pre i post hx o hol t ht i' hi' hd
   have hix : i' ∈ ys := by rw [hx]; simp [h2]
   rw [hLF.in_ i' h2 t hd, hM.in_ i' ⟨hix, hwait i' h1⟩ t hd]
  ·have hno : ∀ i', i' < l.length → dstAt l i' ≠ some t := fun i' hi' hd => hex ⟨i', hi', hd⟩
   rw [hLF.out t (fun i' hi' => hno i' (hp.x i' (by rw [hx]; simp [hi'])).1), hM.out t (fun i' hi' => hno i' (hp.x i' hi'.1).1)]
 have toB : ∀ listed a W, StA listed a W → (∀ i, i < l.length → i ∉ es → listed.getD i false = false → ∀ o, l[i]? = some o → lateB o = true) → StB listed a W := by
  rintro listed a W ⟨hsz, hesl, k, p, ys, kids, A, V, hp, hk, hlater, hA, hM, hav, hc, hnext⟩ hfl
  have hnil : kids = [] := by
   cases hkk : kids with
   | nil => rfl
   | cons x r =>
    obtain ⟨h1, h2, h3, _, h4, _⟩ := hk.kid x (by rw [hkk]; simp)
    have ho : l[x]? = some l[x] := List.getElem?_eq_getElem h1
    have := hfl x h1 h2 (hlater x h1 h3) _ ho
    rw [h4 _ ho] at this
    cases this
  have hall := hk.all hnil
  have hw := hnext.1 hnil W hc
  rw [hpe] at hw
  refine ⟨hsz, A, A, 0, ys, hp, hall, Nat.zero_le _, (fun e he => by simp at he), (fun e he => hesl e (by simpa using he)), ⟨?_, ?_, fun t ht' => ?_⟩, hA.size, fun i hi t hd => rfl, fun t hno => hA.out t fun i hi => hno i (hp.x i hi).1, fun i hi hf o ho => ?_, by simpa using hw⟩
  ·rw [hM.defers, hA.defers]
  ·rw [hM.size, hA.size]
  ·by_cases hex : ∃ i ∈ ys, dstAt l i = some t
   ·obtain ⟨i, hi, hd⟩ := hex
    have hl : listed.getD i false = true := by
     cases hc' : listed.getD i false with
     | true => rfl
     | false => exact absurd ⟨i, (hp.x i hi).1, (hp.x i hi).2, hc', hd⟩ ht'
    exact hM.in_ i ⟨hi, hl⟩ t hd
   ·rw [hM.out t (fun i hi hd => hex ⟨i, hi.1, hd⟩), hA.out t (fun i hi hd => hex ⟨i, hi, hd⟩)]
  ·obtain ⟨pre, post, e1, e3⟩ := hav i hi hf o ho
   obtain ⟨LF, h3, h4⟩ := e3 _ (Gr.Good.above V)
   exact ⟨pre, post, LF, e1, h3, late_yields (hfl i (hp.x i hi).1 (hp.x i hi).2 hf o ho) ⟨V, Grows.refl _⟩ h4⟩
 let St : Array Bool → Act → World → Prop := fun listed a W => StA listed a W ∨ StB listed a W
 have stepB : ∀ listed a W i o, l[i]? = some o → listed.getD i true = false → (∀ i', afterB l i i' = true → listed.getD i' false = true) → StB listed a W → wpListIn F n P l.toArray (Exit.then (St (listed.setIfInBounds i true)) Q) [o] a W := by
  rintro listed a W i o hol hu hwait ⟨hsz, A, Ac, m, ys, hp, hall, hm', ht, hdp, hR, hAcs, hAcx, hAco, hfl, hwp⟩
  have hi : i < l.length := (List.getElem?_eq_some_iff.1 hol).1
  have hfalse : listed.getD i false = false := getD_both hu
  have hsel : ∀ cs b, o.op ≠ .select cs b := fun cs b => Region.noSelect_spec ok.nosel i o cs b (by simpa using hol)
  by_cases hie : i ∈ es
  ·have hmem : i ∈ es.drop m := by
    rcases (List.mem_append.1 (by rw [List.take_append_drop]; exact hie : i ∈ es.take m ++ es.drop m)) with h | h
    ·rw [ht i h] at hfalse; cases hfalse
    ·exact h
   have hml : m < es.length := by
    rcases Nat.lt_or_ge m es.length with h | h
    ·exact h
    ·rw [List.drop_of_length_le h] at hmem; cases hmem
   have hdrop : es.drop m = es[m] :: es.drop (m + 1) := List.drop_eq_getElem_cons hml
   have hie' : i = es[m] := by
    rw [hdrop] at hmem
    rcases List.mem_cons.1 hmem with h | h
    ·exact h
    ·exfalso
     have hlt : es[m] < i := by
      have hp := ok.upE.sublist (List.drop_sublist m es)
      rw [hdrop, List.pairwise_cons] at hp
      exact hp.1 i h
     have h1 := hwait _ (ok.chain i hie es[m] (List.getElem_mem _) hlt)
     rw [hdp es[m] (by rw [hdrop]; exact List.mem_cons_self)] at h1
     cases h1
   rw [hdrop, ← hie', pick_cons hol] at hwp
   have hdn : o.dst = none := by
    have := ok.edst i hie
    unfold dstAt at this
    rw [hol] at this
    exact this
   refine wpListIn_rel hsel (hnd i o (by simpa using hol)) hdn hR (fun t ht' => ?_) hwp ?_
   ·rintro ⟨i2, h5, _, h6, h7⟩
    rw [hwait _ (ok.depsE i hie o hol t ht' i2 h5 h7)] at h6
    cases h6
   ·rintro A' a' W' eA ea ed hwp'
    refine .inr ⟨by simpa using hsz, A, A', m + 1, ys, hp, hall, hml, fun e he => ?_, fun e he => ?_, ?_, by rw [eA]; exact hAcs, by rw [eA]; exact hAcx, by rw [eA]; exact hAco, fun i' hi' hf => ?_, hwp'⟩
    ·rw [setD _ _ _ hsz hi]; unfold done; split
     ·rfl
     ·rename_i hne
      rw [List.take_succ_eq_append_getElem hml] at he
      rcases List.mem_append.1 he with h | h
      ·exact ht e h
      ·exact absurd ((List.mem_singleton.1 h).trans hie'.symm) hne
    ·rw [setD _ _ _ hsz hi]; unfold done
     have hne : e ≠ i := fun e' => by
      have hp := ok.upE.sublist (List.drop_sublist m es)
      rw [hdrop, List.pairwise_cons] at hp
      have := hp.1 e he
      omega
     rw [if_neg hne]
     exact hdp e (by rw [hdrop]; exact List.mem_cons_of_mem _ he)
    ·refine ⟨ed, by rw [ea, eA]; exact hR.size, fun t ht' => ?_⟩
     rw [ea, eA]
     refine hR.same t fun ⟨i2, h5, h5', h6, h7⟩ => ht' ⟨i2, h5, h5', ?_, h7⟩
     rw [setD _ _ _ hsz hi]; unfold done
     rw [if_neg (fun e' => by subst e'; exact h5' hie)]
     exact h6
    ·rw [setD _ _ _ hsz hi] at hf
     unfold done at hf
     split at hf
     ·cases hf
     ·exact hfl i' hi' hf
  ·have hix : i ∈ ys := (hall i hi).resolve_right hie
   obtain ⟨pre, post, LF, hx, hLF, hy⟩ := hfl i hix hfalse o hol
   have hag : ∀ t ∈ o.looksAt l.toArray, LF.tmps.getD t undef = a.tmps.getD t undef := fun t ht' => by
    by_cases hex : ∃ i', i' < l.length ∧ dstAt l i' = some t
    ·obtain ⟨i', hi', hd⟩ := hex
     obtain ⟨h1, h2⟩ := hp.deps pre i post hx o hol t ht' i' hi' hd
     have hix' : i' ∈ ys := by rw [hx]; simp [h2]
     rw [hLF.in_ i' h2 t hd, hR.same t (fun ⟨i2, h5, h5', h6, h7⟩ => by
      obtain ⟨d, h8, h9⟩ := ok.own i' hi' (hp.x i' hix').2
      rw [hd] at h8
      cases h8
      have := h9 i2 h5 h7
      subst this
      rw [hwait _ h1] at h6
      cases h6), hAcx i' hix' t hd]
    ·have hno : ∀ i', i' < l.length → dstAt l i' ≠ some t := fun i' hi' hd => hex ⟨i', hi', hd⟩
     rw [hLF.out t (fun i' hi' => hno i' (hp.x i' (by rw [hx]; simp [hi'])).1), hR.same t (fun ⟨i2, h5, _, _, h7⟩ => hno i2 h5 h7), hAco t hno]
   have hya := hy.agree hsel (hLF.size.trans (hAcs.symm.trans hR.size.symm)) hag
   obtain ⟨d, hdi, huniq⟩ := ok.own i hi hie
   have hdo : o.dst = some d := by unfold dstAt at hdi; rw [hol] at hdi; exact hdi
   have hnext : St (listed.setIfInBounds i true) (a.put o.dst (valOf l A i)) W := by
    refine .inr ⟨by simpa using hsz, A, Ac, m, ys, hp, hall, hm', fun e he => ?_, fun e he => ?_, ?_, hAcs, hAcx, hAco, fun i' hi' hf => ?_, hwp⟩
    ·rw [setD _ _ _ hsz hi]; unfold done; split
     ·rfl
     ·exact ht e he
    ·rw [setD _ _ _ hsz hi]; unfold done; rw [if_neg (fun e' => by subst e'; exact hie (List.mem_of_mem_drop he))]; exact hdp e he
    ·rw [hdo]
     refine ⟨hR.defers, by rw [← hR.size]; simp [Act.put], fun t ht' => ?_⟩
     by_cases e : t = d
     ·subst e
      rw [show (a.put (some t) (valOf l A i)).tmps = a.tmps.setIfInBounds t (valOf l A i) from rfl, getD_set_same _ _ _ (by rw [hR.size, hAcs]; exact hslot i hi t hdi), hAcx i hix t hdi]
      unfold valOf; rw [hdi]; rfl
     ·rw [show (a.put (some d) (valOf l A i)).tmps = a.tmps.setIfInBounds d (valOf l A i) from rfl, getD_set_other _ _ (Ne.symm e)]
      refine hR.same t fun ⟨i2, h5, h5', h6, h7⟩ => ht' ⟨i2, h5, h5', ?_, h7⟩
      rw [setD _ _ _ hsz hi]; unfold done
      rw [if_neg (fun e' => by subst e'; rw [hdi] at h7; exact e (Option.some.inj h7).symm)]
      exact h6
    ·rw [setD _ _ _ hsz hi] at hf
     unfold done at hf
     split at hf
     ·cases hf
     ·exact hfl i' hi' hf
   simp only [wpListIn]
   rcases hya.2 with ⟨hw, hv⟩ | ⟨hw, hv⟩
   ·rw [if_pos hw]
    unfold Oper.wpIn
    refine ⟨hya.1 W, ?_⟩
    rw [Oper.semAt_eq _ _ _ (hnd i o (by simpa using hol)), hv W]
    exact hnext
   ·rw [if_neg (by rw [hw]; simp)]
    refine ⟨hya.1 W, ?_⟩
    rw [hv] at hnext
    exact hnext
 refine wpIn_region_inv hm St ?_ ?_ ?_ ?_
 ·rintro listed a W (⟨h, _⟩ | ⟨h, _⟩) <;> simpa using h
 ·obtain ⟨k', qs, kids, A, hp, hk, hA, _, hav, hnext⟩ := tree_enter (G := G) (F := F) (n := n) (P := P) (tail := tail) (a0 := a0) ok hs h hpb PathOk.nil (Mixed.nil (by simp))
  have hrep : ∀ i, (Array.replicate l.toArray.size false).getD i false = false := fun i => getD_replicate_false _ _
  exact .inl ⟨by simp, fun e _ => hrep e, k', [], qs, kids, A, V0, by simpa using hp, by simpa using hk, fun i _ _ => hrep i, by simpa using hA, Mixed.nil (fun i hi => by rw [hrep i] at hi; cases hi.2), fun i hi _ => by simpa using hav i hi, hV, hnext⟩
 ·rintro listed a W i o ho hu hd hst
  have hol : l[i]? = some o := by simpa using ho
  have hi : i < l.length := (List.getElem?_eq_some_iff.1 hol).1
  have hwait : ∀ i', afterB l i i' = true → listed.getD i' false = true := fun i' h => by
   unfold afterB at h
   rw [hol] at h
   obtain ⟨e, he, h2⟩ := List.any_eq_true.1 h
   simp only [Bool.and_eq_true, beq_iff_eq] at h2
   rw [← h2.1]
   exact hd e (by simpa using he) h2.2
  rcases hst with hA0 | hBB
  ·obtain ⟨hsz, hesl, k, p, ys, kids, A, V, hp, hk, hlater, hA, hM, hav, hc, hnext⟩ := hA0
   have hfalse : listed.getD i false = false := getD_both hu
   have hsel : ∀ cs b, o.op ≠ .select cs b := fun cs b => Region.noSelect_spec ok.nosel i o cs b ho
   by_cases hie : i ∈ es
   ·refine stepB listed _ W i o hol hu hwait (toB listed _ W ⟨hsz, hesl, k, p, ys, kids, A, V, hp, hk, hlater, hA, hM, hav, hc, hnext⟩ fun i' hi' hne' hf o' ho' => ?_)
    rcases ok.late i' hi' hne' o' ho' with h | h
    ·exact h
    ·rw [hwait i' (h i hie)] at hf
     cases hf
   ·obtain ⟨d, hdi, hun⟩ := ok.own i hi hie
    have hdo : o.dst = some d := by unfold dstAt at hdi; rw [hol] at hdi; exact hdi
    have e1 : ∀ e ∈ es, (listed.setIfInBounds i true).getD e false = false := fun e he => by
     rw [setD _ _ _ hsz hi]; unfold done
     rw [if_neg (fun e' => by subst e'; exact hie he)]
     exact hesl e he
    by_cases hy : i ∈ ys
    ·-- quiet
     obtain ⟨pre, post, hp1, hp3⟩ := hav i hy hfalse o hol
     obtain ⟨LF, hLF, hyq⟩ := hp3 (fun W => Below V.heap.size V W) ⟨⟨W, hc⟩, fun _ h => Grows.below h, fun W W' h k => h.trans (k.mono h.size)⟩
     have hag := agreeA hp hol hp1 hwait hLF hM
     have hya := yields_agree hsel (hLF.size.trans hM.size.symm) hag hyq
     have hval : valOf l A i = A.tmps.getD d undef := by unfold valOf; rw [hdi]; rfl
     have hnx : ∀ W', Below V.heap.size V W' → St (listed.setIfInBounds i true) (a.put o.dst (valOf l A i)) W' := fun W' hW' => by
      refine .inl ⟨by simpa using hsz, e1, k, p, ys, kids, A, V, hp, hk, fun q hq hqy => ?_, hA, by rw [hdo, hval]; exact (hM.step hdi (fun i' hi' hd' => hun i' (hp.x i' hi'.1).1 hd') (hslot i hi d hdi)).congr (mixS listed i ys hsz hi hy), fun q hq hf => ?_, hW', hnext⟩
      ·rw [setD _ _ _ hsz hi]; unfold done
       rw [if_neg (fun e' => by subst e'; exact hqy hy)]
       exact hlater q hq hqy
      ·rw [setD _ _ _ hsz hi] at hf
       unfold done at hf
       split at hf
       ·cases hf
       ·exact hav q hq hf
     simp only [wpListIn]
     rcases hya.2 with ⟨hw, hv⟩ | ⟨hw, hv⟩
     ·rw [if_pos hw]
      exact wpIn_of_quiet' (K := fun a' => a' = a.put o.dst (valOf l A i)) (hnd i o ho) hc (fun a' W' hW' ha' => by subst ha'; exact hnx W' hW') hya.1 ⟨_, hv, rfl⟩
     ·rw [if_neg (by rw [hw]; simp)]
      refine ⟨hya.1 W hc, ?_⟩
      have := hnx W hc
      rw [hv] at this
      exact this
    ·-- the next one
     have hik : i ∈ kids := by
      refine Classical.byContradiction fun hno => ?_
      obtain ⟨k', h1, h2⟩ := hk.wait i hi hy hie hno
      have h3 := hwait k' h2
      rcases Nat.lt_or_ge k' l.length with h4 | h4
      ·rw [hlater k' h4 h1] at h3; cases h3
      ·rw [Array.getD_eq_getD_getElem?, Array.getElem?_eq_none (by omega)] at h3; cases h3
     obtain ⟨_, _, _, hrd, hlt, hpb'⟩ := hk.kid i hik
     obtain ⟨ox, hox, hwx⟩ := hnext.2 i hik
     obtain rfl : ox = o := Option.some.inj (hox.symm.trans hol)
     have hp' : PathOk l es (ys ++ [i]) := hp.snoc hi hie hy hrd
     have hM' : Mixed l (fun q => q ∈ ys ++ [i] ∧ listed.getD q false = true) A a0 a := hM.congr (fun q => by
      constructor
      ·rintro ⟨h1, h2⟩; exact ⟨by simp [h1], h2⟩
      ·rintro ⟨h1, h2⟩
       rcases List.mem_append.1 h1 with h1 | h1
       ·exact ⟨h1, h2⟩
       ·rw [List.mem_singleton.1 h1, hfalse] at h2; cases h2)
     have hag := agreeA hp' hol (show ys ++ [i] = ys ++ i :: [] from rfl) hwait hA hM'
     refine wpListIn_relD hsel (hnd i ox ho) (by rw [hM.size, hA.size]) hag (hwx W hc) ?_
     rintro A' a' W' v eA ea ed ⟨hdf, hbW, hfl⟩
     have eA' : A' = A.put (some d) v := by
      obtain ⟨t1, d1⟩ := A'
      rw [hdo] at eA
      simp only at eA hdf
      subst eA hdf
      rfl
     have ea' : a' = a.put (some d) v := by
      obtain ⟨t1, d1⟩ := a'
      rw [hdo] at ea
      have h5 := ed hdf
      simp only at ea h5
      subst ea h5
      rfl
     rw [eA'] at hfl
     have hA1 : Mixed l (· ∈ ys ++ [i]) (A.put (some d) v) a0 (A.put (some d) v) := by
      have hpt : (A.put (some d) v).tmps = A.tmps.setIfInBounds d v := rfl
      refine ⟨hA.defers, by rw [hpt]; simpa using hA.size, fun _ _ _ _ => rfl, fun t ht => ?_⟩
      rw [hpt, getD_set_other _ _ (fun e => ht i (by simp) (by rw [hdi, e]))]
      exact hA.out t fun k hk => ht k (by simp [hk])
     obtain ⟨k2, qs, kids2, A2, hp2, hk2, hA2, hsame, hav2, hnext2⟩ := tree_enter (G := G) (F := F) (n := n) (P := P) (tail := tail) (a0 := a0) ok hs hfl hpb' hp' hA1
     have hbV : G V W' := Grows.trans (Grows.below hc) hbW
     have hdv : (A.put (some d) v).tmps.getD d undef = v := getD_set_same _ _ _ (by rw [hA.size]; exact hslot i hi d hdi)
     have hold : ∀ k ∈ ys, ∀ t, dstAt l k = some t → A.tmps.getD t undef = A2.tmps.getD t undef := fun k hk t hd => by
      rw [← hsame k (by simp [hk]) t hd]
      refine (getD_set_other _ _ (fun e => ?_)).symm
      subst e
      have := hun k (hp.x k hk).1 hd
      subst this
      exact hy hk
     have hM2 : Mixed l (fun q => q ∈ ys ++ [i] ++ qs ∧ (listed.setIfInBounds i true).getD q false = true) A2 a0 (a.put (some d) v) := by
      have h6 := (hM.change (A' := A2) (fun k hk t hd => hold k hk.1 t hd)).step hdi (fun i' hi' hd' => hun i' (hp.x i' hi'.1).1 hd') (hslot i hi d hdi)
      have h7 : A2.tmps.getD d undef = v := by rw [← hsame i (by simp) d hdi]; exact hdv
      rw [h7] at h6
      refine h6.congr (fun q => ?_)
      rw [setD listed i q hsz hi]
      unfold done
      by_cases e : q = i
      ·subst e; simp
      ·simp only [e, if_false, or_false]
       constructor
       ·rintro ⟨h8, h9⟩; exact ⟨by simp [h8], h9⟩
       ·rintro ⟨h8, h9⟩
        refine ⟨?_, h9⟩
        refine Classical.byContradiction fun hno => ?_
        have hql := (hp2.x q h8).1
        rw [hlater q hql hno] at h9
        cases h9
     refine .inl ⟨by simpa using hsz, e1, k2, ins i p, ys ++ [i] ++ qs, kids2, A2, W', hp2, hk2, fun q hq hqy => ?_, hA2, by rw [ea']; exact hM2, fun q hq hf => ?_, Below.refl _ _, hnext2⟩
     ·rw [setD _ _ _ hsz hi]; unfold done
      rw [if_neg (fun e' => by subst e'; exact hqy (by simp))]
      exact hlater q hq (fun h => hqy (by simp [h]))
     ·rw [setD _ _ _ hsz hi] at hf
      unfold done at hf
      split at hf
      ·cases hf
      ·rename_i hki
       rcases List.mem_append.1 hq with hq | hq
       ·have hq' : q ∈ ys := by
         rcases List.mem_append.1 hq with h | h
         ·exact h
         ·exact absurd (List.mem_singleton.1 h) hki
        intro o' ho'
        obtain ⟨pre, post, q1, q3⟩ := hav q hq' hf o' ho'
        refine ⟨pre, post ++ [i] ++ qs, by rw [q1]; simp, fun C hC => ?_⟩
        obtain ⟨LF, q4, q5⟩ := q3 C (hC.up hbV)
        have hkv : valOf l A q = valOf l A2 q := by
         obtain ⟨dk, g1, _⟩ := ok.own q (hp.x q hq').1 (hp.x q hq').2
         unfold valOf
         rw [g1]
         exact hold q hq' dk g1
        exact ⟨LF, q4.change (fun k2 hk2 t hd => hold k2 (by rw [q1]; simp [hk2]) t hd), by rw [← hkv]; exact q5⟩
       ·exact hav2 q hq
  ·exact stepB listed a W i o hol hu hwait hBB
 ·rintro listed a W hr hst
  have hal : ∀ i, i < l.length → listed.getD i false = true := by
   rcases hst with ⟨h, _⟩ | ⟨h, _⟩ <;> exact fun i hi => ready_nil_all ok.back (by simpa using h) hr i (by simpa using hi)
  have hBB : StB listed a W := by
   rcases hst with h | h
   ·exact toB listed a W h (fun i hi _ hf => by rw [hal i hi] at hf; cases hf)
   ·exact h
  obtain ⟨hsz, A, Ac, m, ys, hp, hall, hm', ht, hdp, hR, hAcs, hAcx, hAco, hfl, hwp⟩ := hBB
  have hnil : es.drop m = [] := by
   cases h : es.drop m with
   | nil => rfl
   | cons e r =>
    have h1 := hdp e (by rw [h]; simp)
    rw [hal e (ok.e e (List.mem_of_mem_drop (by rw [h]; simp)))] at h1
    cases h1
  rw [hnil] at hwp
  have hEq : a = Ac := by
   obtain ⟨t, d⟩ := a
   obtain ⟨t', d'⟩ := Ac
   have e1 : d = d' := hR.defers
   have s1 : t.size = t'.size := hR.size
   have e2 : t = t' := by
    apply Array.ext s1
    intro i h1 h2
    have := hR.same i (fun ⟨i2, h5, _, h6, _⟩ => by rw [hal i2 h5] at h6; cases h6)
    simpa [h1, h2] using this
   rw [e1, e2]
  subst hEq
  exact hwp
end
end Go.Proofs.Ythofngceiecniaa.Tr
namespace Go.Proofs.Ythofngceiecniaa
open Go.RowKit
def UpRow (row : Option Nat) (A C : World) : Prop := A.grownBy C row
instance uprow_grows (row : Option Nat) : Gr.Grows (UpRow row) where
 refl := fun W => grown_refl W row
 trans := fun h k => grown_trans h k
 below := fun h => grown_of_below h row
 size := fun h => h.size
end Go.Proofs.Ythofngceiecniaa
