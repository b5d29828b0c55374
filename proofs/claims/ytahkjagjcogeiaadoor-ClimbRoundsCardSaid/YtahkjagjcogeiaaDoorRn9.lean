/- Part 9 of the texts of this claim, joined. -/
import Derived.Laws.MakeOwn
import Derived.Sort.LoopGhostIn
import Derived.ChangeKeysEq
import Derived.Test.YtahkjagjcogeiaaDoorRn8
/- The law of a drawn region by a plan: quiet operations float; of those that do something, whichever of some comes next; stores last. -/
namespace Go.Proofs.YtahkjagjcogeiaaDoor.Tr
open Go.RowKit Gr
set_option linter.unusedVariables false
set_option linter.unusedSectionVars false

/-- The plainest growth. -/
def Up (A B : World) : Prop := Below A.heap.size A B
instance up_grows : Grows Up where
  refl := fun W => Below.refl _ W
  trans := fun {A B C} (h : Below A.heap.size A B) (k : Below B.heap.size B C) => (show Below A.heap.size A C from h.trans (k.mono h.size))
  below := fun h => h
  size := fun {A B} (h : Below A.heap.size A B) => h.size
/-- A row of the plan: what has been carried out (in increasing order), the quiet operations to be walked, what may come next. -/
abbrev Plan := List (List Nat × List Bool × List Nat)
def ins (x : Nat) : List Nat → List Nat
  | [] => [x]
  | y :: r => if x < y then x :: y :: r else y :: ins x r
def rowAt (tab : Plan) (p : List Nat) : Option (List Bool × List Nat) := (tab.find? fun r => r.1 == p).map (·.2)
def pathB (l : List Oper) (es : List Nat) (tab : Plan) : Nat → List Nat → List Nat → Bool
  | 0, _, _ => false
  | k + 1, p, ys => match rowAt tab p with
    | none => false
    | some (m, kids) =>
      decide (m.length ≤ l.length) && depsB l ys (idxs 0 m) && ((idxs 0 m).all fun i => decide (i < l.length) && !es.contains i && !ys.contains i) && decide (idxs 0 m).Nodup &&
      (kids.all fun x => decide (x < l.length) && !es.contains x && !(ys ++ idxs 0 m).contains x && readsB l x (ys ++ idxs 0 m) && !((l[x]?).map lateB).getD true && pathB l es tab k (ins x p) (ys ++ idxs 0 m ++ [x])) &&
      (!kids.isEmpty || (List.range l.length).all fun i => (ys ++ idxs 0 m).contains i || es.contains i) &&
      ((List.range l.length).all fun i => (ys ++ idxs 0 m).contains i || es.contains i || kids.contains i || (List.range l.length).any fun k' => !(ys ++ idxs 0 m).contains k' && afterB l i k')
def treeB (l : List Oper) (es : List Nat) : Bool :=
  upS es && backB l.toArray && Region.noSelect l.toArray && noDeferB l && (es.all fun i => decide (i < l.length)) &&
  ((List.range l.length).all fun i => es.contains i || ((dstAt l i).isSome && ((List.range l.length).all fun i' => i == i' || dstAt l i != dstAt l i'))) &&
  (es.all fun e => readsB l e (List.range l.length)) && (es.all fun e => es.all fun e' => decide (e ≤ e') || afterB l e e') &&
  ((List.range l.length).all fun i => es.contains i || ((l[i]?).map lateB).getD false || es.all fun e => afterB l e i) && (es.all fun e => (dstAt l e).isNone)
structure TreeOk (l : List Oper) (es : List Nat) : Prop where
  upE : es.Pairwise (· < ·)
  back : backB l.toArray = true
  nosel : Region.noSelect l.toArray = true
  nodef : noDeferB l = true
  e : ∀ i ∈ es, i < l.length
  own : ∀ i, i < l.length → i ∉ es → ∃ d, dstAt l i = some d ∧ ∀ i', i' < l.length → dstAt l i' = some d → i' = i
  depsE : ∀ i ∈ es, ∀ o, l[i]? = some o → ∀ t ∈ o.looksAt l.toArray, ∀ i', i' < l.length → dstAt l i' = some t → afterB l i i' = true
  chain : ∀ e ∈ es, ∀ e' ∈ es, e' < e → afterB l e e' = true
  late : ∀ i, i < l.length → i ∉ es → ∀ o, l[i]? = some o → lateB o = true ∨ ∀ e ∈ es, afterB l e i = true
  edst : ∀ e ∈ es, dstAt l e = none
theorem treeOk {l : List Oper} {es : List Nat} (h : treeB l es = true) : TreeOk l es := by
  unfold treeB at h
  simp only [Bool.and_eq_true] at h
  obtain ⟨⟨⟨⟨⟨⟨⟨⟨⟨h1, h2⟩, h3⟩, h4⟩, h5⟩, h6⟩, h7⟩, h8⟩, h9⟩, h10⟩ := h
  refine ⟨upS_pair h1, h2, h3, h4, fun i hi => of_decide_eq_true (List.all_eq_true.1 h5 i hi), fun i hi hne => ?_, fun i hi o ho t ht i' hi' hd => (readsB_spec (List.all_eq_true.1 h7 i hi) o ho t ht i' hi' hd).1, fun e he e' he' hlt => ?_, fun i hi hne o ho => ?_, fun e he => by simpa using List.all_eq_true.1 h10 e he⟩
  · have h := List.all_eq_true.1 h6 i (List.mem_range.2 hi)
    simp only [Bool.or_eq_true, List.contains_eq_mem, decide_eq_true_eq] at h
    rcases h with h | h
    · exact absurd h hne
    · simp only [Bool.and_eq_true] at h
      obtain ⟨d, hd⟩ := Option.isSome_iff_exists.1 h.1
      refine ⟨d, hd, fun i' hi' hd' => ?_⟩
      have h' := List.all_eq_true.1 h.2 i' (List.mem_range.2 hi')
      simp only [Bool.or_eq_true, beq_iff_eq, bne_iff_ne] at h'
      rcases h' with h' | h'
      · exact h'.symm
      · exact absurd (hd.trans hd'.symm) h'
  · have := List.all_eq_true.1 (List.all_eq_true.1 h8 e he) e' he'
    simp only [Bool.or_eq_true, decide_eq_true_eq] at this
    exact this.resolve_left (by omega)
  · have := List.all_eq_true.1 h9 i (List.mem_range.2 hi)
    rw [ho] at this
    simp only [Option.map_some, Option.getD_some, Bool.or_eq_true, List.contains_eq_mem, decide_eq_true_eq] at this
    rcases this with (h | h) | h
    · exact absurd h hne
    · exact .inl h
    · exact .inr fun e he => List.all_eq_true.1 h e he

/-- What has been carried out, or walked, in an order. -/
structure PathOk (l : List Oper) (es ys : List Nat) : Prop where
  nodup : ys.Nodup
  x : ∀ i ∈ ys, i < l.length ∧ i ∉ es
  deps : ∀ pre i post, ys = pre ++ i :: post → ∀ o, l[i]? = some o → ∀ t ∈ o.looksAt l.toArray, ∀ i', i' < l.length → dstAt l i' = some t → afterB l i i' = true ∧ i' ∈ pre
theorem PathOk.nil {l : List Oper} {es : List Nat} : PathOk l es [] := ⟨List.nodup_nil, (fun i h => by cases h), fun pre i post e => by simp at e⟩
theorem PathOk.snoc {l : List Oper} {es ys : List Nat} (h : PathOk l es ys) {x : Nat} (h1 : x < l.length) (h2 : x ∉ es) (h3 : x ∉ ys) (h4 : readsB l x ys = true) : PathOk l es (ys ++ [x]) := by
  refine ⟨?_, fun i hi => ?_, fun pre i post e => ?_⟩
  · rw [List.nodup_append]
    exact ⟨h.nodup, by simp, fun a ha b hb e => h3 (by rw [List.mem_singleton.1 hb] at e; rw [← e]; exact ha)⟩
  · rcases List.mem_append.1 hi with hi | hi
    · exact h.x i hi
    · rw [List.mem_singleton.1 hi]; exact ⟨h1, h2⟩
  · rcases List.append_eq_append_iff.1 e.symm with ⟨a', e1, e2⟩ | ⟨c', e1, e2⟩
    · cases a' with
      | nil =>
        simp at e2
        obtain ⟨rfl, rfl⟩ := e2
        simp at e1
        subst e1
        exact readsB_spec h4
      | cons q a' =>
        simp at e2
        obtain ⟨rfl, rfl⟩ := e2
        exact h.deps pre i a' e1
    · cases c' with
      | nil =>
        simp at e1 e2
        obtain ⟨rfl, rfl⟩ := e2
        subst e1
        exact readsB_spec h4
      | cons q c' => simp at e2
theorem PathOk.more {l : List Oper} {es : List Nat} : ∀ {qs ys : List Nat}, PathOk l es ys → depsB l ys qs = true → (∀ i ∈ qs, i < l.length ∧ i ∉ es ∧ i ∉ ys) → qs.Nodup → PathOk l es (ys ++ qs)
  | [], ys, h, _, _, _ => by simpa using h
  | x :: qs, ys, h, hd, hx, hn => by
    simp only [depsB, Bool.and_eq_true] at hd
    rw [List.nodup_cons] at hn
    have h1 := h.snoc (hx x (by simp)).1 (hx x (by simp)).2.1 (hx x (by simp)).2.2 hd.1
    have h2 := PathOk.more (qs := qs) h1 hd.2 (fun i hi => ⟨(hx i (by simp [hi])).1, (hx i (by simp [hi])).2.1, fun hm => by
      rcases List.mem_append.1 hm with hm | hm
      · exact (hx i (by simp [hi])).2.2 hm
      · rw [List.mem_singleton.1 hm] at hi; exact hn.1 hi⟩) hn.2
    simpa using h2
structure KidsOk (l : List Oper) (es : List Nat) (tab : Plan) (k : Nat) (p ys kids : List Nat) : Prop where
  kid : ∀ x ∈ kids, x < l.length ∧ x ∉ es ∧ x ∉ ys ∧ readsB l x ys = true ∧ (∀ o, l[x]? = some o → lateB o = false) ∧ pathB l es tab k (ins x p) (ys ++ [x]) = true
  all : kids = [] → ∀ i, i < l.length → i ∈ ys ∨ i ∈ es
  wait : ∀ i, i < l.length → i ∉ ys → i ∉ es → i ∉ kids → ∃ k', k' ∉ ys ∧ afterB l i k' = true
theorem pathOk {l : List Oper} {es : List Nat} {tab : Plan} {k : Nat} {p ys : List Nat} (h : pathB l es tab (k + 1) p ys = true) (ho : PathOk l es ys) : ∃ m kids, rowAt tab p = some (m, kids) ∧ m.length ≤ l.length ∧ PathOk l es (ys ++ idxs 0 m) ∧ KidsOk l es tab k p (ys ++ idxs 0 m) kids := by
  unfold pathB at h
  cases hr : rowAt tab p with
  | none => rw [hr] at h; simp at h
  | some q =>
    obtain ⟨m, kids⟩ := q
    rw [hr] at h
    simp only [Bool.and_eq_true, decide_eq_true_eq] at h
    obtain ⟨⟨⟨⟨⟨⟨h1, h2⟩, h3⟩, h4⟩, h5⟩, h6⟩, h7⟩ := h
    refine ⟨m, kids, rfl, h1, ho.more h2 (fun i hi => ?_) h4, ⟨fun x hx => ?_, fun e i hi => ?_, fun i hi hy he hk => ?_⟩⟩
    · have := List.all_eq_true.1 h3 i hi
      simp only [Bool.and_eq_true, decide_eq_true_eq, Bool.not_eq_true', List.contains_eq_mem, decide_eq_false_iff_not] at this
      exact ⟨this.1.1, this.1.2, this.2⟩
    · have := List.all_eq_true.1 h5 x hx
      simp only [Bool.and_eq_true, decide_eq_true_eq, Bool.not_eq_true', List.contains_eq_mem, decide_eq_false_iff_not] at this
      obtain ⟨⟨⟨⟨⟨a1, a2⟩, a3⟩, a4⟩, a5⟩, a6⟩ := this
      exact ⟨a1, a2, a3, a4, fun o ho => by rw [ho] at a5; simpa using a5, a6⟩
    · subst e
      simp only [List.isEmpty_nil, Bool.not_true, Bool.false_or] at h6
      have := List.all_eq_true.1 h6 i (List.mem_range.2 hi)
      simpa using this
    · have := List.all_eq_true.1 h7 i (List.mem_range.2 hi)
      simp only [Bool.or_eq_true, List.contains_eq_mem, decide_eq_true_eq] at this
      rcases this with ((h | h) | h) | h
      · exact absurd h hy
      · exact absurd h he
      · exact absurd h hk
      · obtain ⟨k', _, hk'⟩ := List.any_eq_true.1 h
        simp only [Bool.and_eq_true, Bool.not_eq_true'] at hk'
        exact ⟨k', by simpa using hk'.1, hk'.2⟩

section
variable {G : World → World → Prop} [Grows G] {F : Fence} {n : Nat} {P : Program} {l : List Oper}
/-- By the plan. -/
def wpTree (G : World → World → Prop) (F : Fence) (n : Nat) (P : Program) (l : List Oper) (tail : World → Act → Prop) (tab : Plan) : Nat → List Nat → World → Act → Prop
  | 0, _, _, _ => False
  | k + 1, p, V, a => ∃ m kids, rowAt tab p = some (m, kids) ∧ ∃ A, Gr.Quietly G F n P l V (pickB l m) a A ∧ (kids = [] → tail V A) ∧ ∀ x ∈ kids, ∃ o, l[x]? = some o ∧ ∀ W, Below V.heap.size V W →
      wpListIn F n P l.toArray (Exit.then (fun a' W' => a'.defers = A.defers ∧ G W W' ∧ wpTree G F n P l tail tab k (ins x p) W' a') (fun _ _ _ => False)) [o] A W
theorem wpTree_end {tail : World → Act → Prop} {tab : Plan} {k : Nat} {p : List Nat} {V : World} {a A : Act} {m : List Bool} (hr : rowAt tab p = some (m, [])) (hq : Gr.Quietly G F n P l V (pickB l m) a A) (h : tail V A) : wpTree G F n P l tail tab (k + 1) p V a := ⟨m, [], hr, A, hq, fun _ => h, fun x hx => by cases hx⟩
theorem wpTree_one {tail : World → Act → Prop} {tab : Plan} {k x : Nat} {p : List Nat} {V : World} {a A : Act} {m : List Bool} {o : Oper} (hr : rowAt tab p = some (m, [x])) (ho : l[x]? = some o) (hq : Gr.Quietly G F n P l V (pickB l m) a A)
    (h : ∀ W, Below V.heap.size V W → wpListIn F n P l.toArray (Exit.then (fun a' W' => a'.defers = A.defers ∧ G W W' ∧ wpTree G F n P l tail tab k (ins x p) W' a') (fun _ _ _ => False)) [o] A W) : wpTree G F n P l tail tab (k + 1) p V a :=
  ⟨m, [x], hr, A, hq, (fun e => by cases e), fun y hy => by obtain rfl := List.mem_singleton.1 hy; exact ⟨o, ho, h⟩⟩
theorem wpTree_two {tail : World → Act → Prop} {tab : Plan} {k x y : Nat} {p : List Nat} {V : World} {a A : Act} {m : List Bool} {o o' : Oper} (hr : rowAt tab p = some (m, [x, y])) (ho : l[x]? = some o) (ho' : l[y]? = some o') (hq : Gr.Quietly G F n P l V (pickB l m) a A)
    (h : ∀ W, Below V.heap.size V W → wpListIn F n P l.toArray (Exit.then (fun a' W' => a'.defers = A.defers ∧ G W W' ∧ wpTree G F n P l tail tab k (ins x p) W' a') (fun _ _ _ => False)) [o] A W)
    (h' : ∀ W, Below V.heap.size V W → wpListIn F n P l.toArray (Exit.then (fun a' W' => a'.defers = A.defers ∧ G W W' ∧ wpTree G F n P l tail tab k (ins y p) W' a') (fun _ _ _ => False)) [o'] A W) : wpTree G F n P l tail tab (k + 1) p V a :=
  ⟨m, [x, y], hr, A, hq, (fun e => by cases e), fun z hz => by
    rcases List.mem_cons.1 hz with rfl | hz
    · exact ⟨o, ho, h⟩
    · obtain rfl := List.mem_singleton.1 hz; exact ⟨o', ho', h'⟩⟩

/-- What is next. -/
def NextT (G : World → World → Prop) (F : Fence) (n : Nat) (P : Program) (l : List Oper) (tail : World → Act → Prop) (tab : Plan) (k : Nat) (p kids : List Nat) (V : World) (A : Act) : Prop :=
  (kids = [] → tail V A) ∧ ∀ x ∈ kids, ∃ o, l[x]? = some o ∧ ∀ W, Below V.heap.size V W →
      wpListIn F n P l.toArray (Exit.then (fun a' W' => a'.defers = A.defers ∧ G W W' ∧ wpTree G F n P l tail tab k (ins x p) W' a') (fun _ _ _ => False)) [o] A W
/-- It may come up, and yields what A says. -/
def AvT (G : World → World → Prop) (F : Fence) (n : Nat) (P : Program) (l : List Oper) (a0 : Act) (ys : List Nat) (V : World) (A : Act) (i : Nat) : Prop :=
  ∀ o, l[i]? = some o → ∃ pre post, ys = pre ++ i :: post ∧ ∀ C, Gr.Good G V C → ∃ LF, Mixed l (· ∈ pre) A a0 LF ∧ YieldsQuiet F n P l.toArray C o (valOf l A i) LF
section
variable {es : List Nat} {a0 : Act} {tail : World → Act → Prop} {tab : Plan}
theorem enter_core (ok : TreeOk l es) (hs : slotsM l a0.tmps.size = true) {ys qs : List Nat} {V : World} {A1 A : Act} (hp : PathOk l es (ys ++ qs)) (hA1 : Mixed l (· ∈ ys) A1 a0 A1) (hq : Gr.Quietly G F n P l V (pick l qs) A1 A) :
    Mixed l (· ∈ ys ++ qs) A a0 A ∧ (∀ i ∈ ys, ∀ t, dstAt l i = some t → A1.tmps.getD t undef = A.tmps.getD t undef) ∧ ∀ i ∈ qs, AvT G F n P l a0 (ys ++ qs) V A i := by
  have hslot : ∀ i, i < l.length → ∀ d, dstAt l i = some d → d < a0.tmps.size := fun i hi d hd => by
    have := List.all_eq_true.1 hs i (List.mem_range.2 hi)
    rw [hd] at this
    simpa using this
  have hnd := hp.nodup
  rw [List.nodup_append] at hnd
  obtain ⟨_, hnq, hdis⟩ := hnd
  have hcond : ∀ i ∈ qs, i < l.length ∧ ∃ d, dstAt l i = some d ∧ d < A1.tmps.size ∧ ∀ i' ∈ qs, dstAt l i' = some d → i' = i := fun i hi => by
    obtain ⟨h1, h3⟩ := hp.x i (by simp [hi])
    obtain ⟨d, h4, h5⟩ := ok.own i h1 h3
    exact ⟨h1, d, h4, by rw [hA1.size]; exact hslot i h1 d h4, fun i' hi' hd' => h5 i' (hp.x i' (by simp [hi'])).1 hd'⟩
  have S := fun (C : World → Prop) (hC : Gr.Good G V C) => quiet_seq (F := F) (n := n) (P := P) (l := l) (C := C) (A := A) qs A1 hcond hnq (hq.cls hC)
  obtain ⟨M, _⟩ := S _ (Gr.Good.above V)
  have same : ∀ i ∈ ys, ∀ t, dstAt l i = some t → A1.tmps.getD t undef = A.tmps.getD t undef := fun i hi t ht => by
    refine (M.out t fun i' hi' hd' => ?_).symm
    obtain ⟨h1, h3⟩ := hp.x i (by simp [hi])
    obtain ⟨d, h4, h5⟩ := ok.own i h1 h3
    rw [ht] at h4
    cases h4
    have := h5 i' (hp.x i' (by simp [hi'])).1 hd'
    subst this
    exact hdis i' hi i' hi' rfl
  have B := hA1.change same
  refine ⟨(M.trans B).congr (fun i => by simp [or_comm]), same, fun i hi o ho => ?_⟩
  obtain ⟨pre, post, e⟩ := List.append_of_mem hi
  refine ⟨ys ++ pre, post, by rw [e]; simp, fun C hC => ?_⟩
  obtain ⟨LF, h1, h2⟩ := (S C hC).2 pre i post e o ho
  exact ⟨LF, (h1.trans B).congr (fun k => by simp [or_comm]), h2⟩
theorem tree_enter (ok : TreeOk l es) (hs : slotsM l a0.tmps.size = true) {k : Nat} {p ys : List Nat} {V : World} {A1 : Act} (h : wpTree G F n P l tail tab k p V A1) (hB : pathB l es tab k p ys = true) (hp : PathOk l es ys) (hA1 : Mixed l (· ∈ ys) A1 a0 A1) :
    ∃ k' qs kids A, PathOk l es (ys ++ qs) ∧ KidsOk l es tab k' p (ys ++ qs) kids ∧ Mixed l (· ∈ ys ++ qs) A a0 A ∧ (∀ i ∈ ys, ∀ t, dstAt l i = some t → A1.tmps.getD t undef = A.tmps.getD t undef) ∧ (∀ i ∈ qs, AvT G F n P l a0 (ys ++ qs) V A i) ∧ NextT G F n P l tail tab k' p kids V A := by
  cases k with
  | zero => exact h.elim
  | succ k =>
    obtain ⟨m, kids, hr, A, hq, h1, h2⟩ := h
    obtain ⟨m', kids', hr', hm, hp', hk⟩ := pathOk hB hp
    rw [hr] at hr'
    cases hr'
    rw [pickB_all l m hm] at hq
    obtain ⟨a1, a2, a3⟩ := enter_core ok hs hp' hA1 hq
    exact ⟨k, idxs 0 m, kids, A, hp', hk, a1, a2, a3, h1, h2⟩
end

theorem wpIn_region_tree {Q : Exit → Act → World → Prop} {id : Nat} {a0 : Act} {w V0 : World} (tab : Plan) (fuel : Nat) (em : List Bool)
    (hm : P.follows .mixedOrders = true) (hB : (treeB l (idxs 0 em) && pathB l (idxs 0 em) tab fuel [] [] && decide (em.length ≤ l.length)) = true)
    (hs : slotsM l a0.tmps.size = true) (hV : Below V0.heap.size V0 w.drew)
    (h : wpTree G F n P l (fun V A => ∀ W, Below V.heap.size V W → wpT F n P l.toArray (Q .normal) (pickB l em) A W) tab fuel [] V0 a0) : (Code.region id l.toArray true).wpIn F n P Q a0 w := by
  simp only [Bool.and_eq_true, decide_eq_true_eq] at hB
  obtain ⟨⟨hB, hpb⟩, hem⟩ := hB
  have ok := treeOk hB
  obtain ⟨es, hes⟩ : ∃ es, idxs 0 em = es := ⟨_, rfl⟩
  rw [hes] at ok hpb
  have hpe : pickB l em = pick l es := by rw [← hes]; exact pickB_all l em hem
  have hnd : noDefer l.toArray := noDefer_of ok.nodef
  have hslot : ∀ i, i < l.length → ∀ d, dstAt l i = some d → d < a0.tmps.size := fun i hi d hd => by
    have := List.all_eq_true.1 hs i (List.mem_range.2 hi)
    rw [hd] at this
    simpa using this
  let tail : World → Act → Prop := fun V A => ∀ W, Below V.heap.size V W → wpT F n P l.toArray (Q .normal) (pickB l em) A W
  let StA : Array Bool → Act → World → Prop := fun listed a W => listed.size = l.length ∧ (∀ e ∈ es, listed.getD e false = false) ∧ ∃ (k : Nat) (p ys kids : List Nat) (A : Act) (V : World), PathOk l es ys ∧ KidsOk l es tab k p ys kids ∧ (∀ i, i < l.length → i ∉ ys → listed.getD i false = false) ∧ Mixed l (· ∈ ys) A a0 A ∧
    Mixed l (fun i => i ∈ ys ∧ listed.getD i false = true) A a0 a ∧ (∀ i ∈ ys, listed.getD i false = false → AvT G F n P l a0 ys V A i) ∧ Below V.heap.size V W ∧ NextT G F n P l tail tab k p kids V A
  let Miss : Array Bool → Tmp → Prop := fun listed t => ∃ i, i < l.length ∧ i ∉ es ∧ listed.getD i false = false ∧ dstAt l i = some t
  let StB : Array Bool → Act → World → Prop := fun listed a W => listed.size = l.length ∧ ∃ (A Ac : Act) (m : Nat) (ys : List Nat), PathOk l es ys ∧ (∀ i, i < l.length → i ∈ ys ∨ i ∈ es) ∧ m ≤ es.length ∧ (∀ e ∈ es.take m, listed.getD e false = true) ∧ (∀ e ∈ es.drop m, listed.getD e false = false) ∧ Rel (Miss listed) a Ac ∧ Ac.tmps.size = a0.tmps.size ∧
    (∀ i ∈ ys, ∀ t, dstAt l i = some t → Ac.tmps.getD t undef = A.tmps.getD t undef) ∧ (∀ t, (∀ i, i < l.length → dstAt l i ≠ some t) → Ac.tmps.getD t undef = a0.tmps.getD t undef) ∧
    (∀ i ∈ ys, listed.getD i false = false → ∀ o, l[i]? = some o → ∃ pre post LF, ys = pre ++ i :: post ∧ Mixed l (· ∈ pre) A a0 LF ∧ YieldsAll F P l.toArray o (valOf l A i) LF) ∧ wpT F n P l.toArray (Q .normal) (pick l (es.drop m)) Ac W
  have setD : ∀ (listed : Array Bool) (i i' : Nat), listed.size = l.length → i < l.length → (listed.setIfInBounds i true).getD i' false = done (fun i => listed.getD i false) i i' := fun listed i i' hsz hi => by
    unfold done
    by_cases e : i' = i
    · subst e
      rw [if_pos rfl, Array.getD_eq_getD_getElem?, Array.getElem?_setIfInBounds]
      have : i' < listed.size := by omega
      simp [this]
    · rw [if_neg e, getD_set_ne false (Ne.symm e)]
  have mixS : ∀ (listed : Array Bool) (i : Nat) (ys : List Nat), listed.size = l.length → i < l.length → i ∈ ys → ∀ k, ((k ∈ ys ∧ listed.getD k false = true) ∨ k = i) ↔ (k ∈ ys ∧ (listed.setIfInBounds i true).getD k false = true) := fun listed i ys hsz hi hix k => by
    rw [setD listed i k hsz hi]
    unfold done
    by_cases e : k = i
    · subst e; simp [hix]
    · simp [e]
  -- what an operation reads
  have agreeA : ∀ {listed : Array Bool} {A LF a1 : Act} {ys pre post : List Nat} {i : Nat} {o : Oper}, PathOk l es ys → l[i]? = some o → ys = pre ++ i :: post → (∀ i', afterB l i i' = true → listed.getD i' false = true) →
      Mixed l (· ∈ pre) A a0 LF → Mixed l (fun i => i ∈ ys ∧ listed.getD i false = true) A a0 a1 → ∀ t ∈ o.looksAt l.toArray, LF.tmps.getD t undef = a1.tmps.getD t undef := by
    intro listed A LF a1 ys pre post i o hp hol hx hwait hLF hM t ht
    by_cases hex : ∃ i', i' < l.length ∧ dstAt l i' = some t
    · obtain ⟨i', hi', hd⟩ := hex
      obtain ⟨h1, h2⟩ := hp.deps pre i post hx o hol t ht i' hi' hd
      have hix : i' ∈ ys := by rw [hx]; simp [h2]
      rw [hLF.in_ i' h2 t hd, hM.in_ i' ⟨hix, hwait i' h1⟩ t hd]
    · have hno : ∀ i', i' < l.length → dstAt l i' ≠ some t := fun i' hi' hd => hex ⟨i', hi', hd⟩
      rw [hLF.out t (fun i' hi' => hno i' (hp.x i' (by rw [hx]; simp [hi'])).1), hM.out t (fun i' hi' => hno i' (hp.x i' hi'.1).1)]
  have toB : ∀ listed a W, StA listed a W → (∀ i, i < l.length → i ∉ es → listed.getD i false = false → ∀ o, l[i]? = some o → lateB o = true) → StB listed a W := by
    rintro listed a W ⟨hsz, hesl, k, p, ys, kids, A, V, hp, hk, hlater, hA, hM, hav, hc, hnext⟩ hfl
    have hnil : kids = [] := by
      cases hkk : kids with
      | nil => rfl
      | cons x r =>
        obtain ⟨h1, h2, h3, _, h4, _⟩ := hk.kid x (by rw [hkk]; simp)
        have ho : l[x]? = some l[x] := List.getElem?_eq_getElem h1
        have := hfl x h1 h2 (hlater x h1 h3) _ ho
        rw [h4 _ ho] at this
        cases this
    have hall := hk.all hnil
    have hw := hnext.1 hnil W hc
    rw [hpe] at hw
    refine ⟨hsz, A, A, 0, ys, hp, hall, Nat.zero_le _, (fun e he => by simp at he), (fun e he => hesl e (by simpa using he)), ⟨?_, ?_, fun t ht' => ?_⟩, hA.size, fun i hi t hd => rfl, fun t hno => hA.out t fun i hi => hno i (hp.x i hi).1, fun i hi hf o ho => ?_, by simpa using hw⟩
    · rw [hM.defers, hA.defers]
    · rw [hM.size, hA.size]
    · by_cases hex : ∃ i ∈ ys, dstAt l i = some t
      · obtain ⟨i, hi, hd⟩ := hex
        have hl : listed.getD i false = true := by
          cases hc' : listed.getD i false with
          | true => rfl
          | false => exact absurd ⟨i, (hp.x i hi).1, (hp.x i hi).2, hc', hd⟩ ht'
        exact hM.in_ i ⟨hi, hl⟩ t hd
      · rw [hM.out t (fun i hi hd => hex ⟨i, hi.1, hd⟩), hA.out t (fun i hi hd => hex ⟨i, hi, hd⟩)]
    · obtain ⟨pre, post, e1, e3⟩ := hav i hi hf o ho
      obtain ⟨LF, h3, h4⟩ := e3 _ (Gr.Good.above V)
      exact ⟨pre, post, LF, e1, h3, late_yields (hfl i (hp.x i hi).1 (hp.x i hi).2 hf o ho) ⟨V, Grows.refl _⟩ h4⟩
  let St : Array Bool → Act → World → Prop := fun listed a W => StA listed a W ∨ StB listed a W
  have stepB : ∀ listed a W i o, l[i]? = some o → listed.getD i true = false → (∀ i', afterB l i i' = true → listed.getD i' false = true) → StB listed a W → wpListIn F n P l.toArray (Exit.then (St (listed.setIfInBounds i true)) Q) [o] a W := by
    rintro listed a W i o hol hu hwait ⟨hsz, A, Ac, m, ys, hp, hall, hm', ht, hdp, hR, hAcs, hAcx, hAco, hfl, hwp⟩
    have hi : i < l.length := (List.getElem?_eq_some_iff.1 hol).1
    have hfalse : listed.getD i false = false := getD_both hu
    have hsel : ∀ cs b, o.op ≠ .select cs b := fun cs b => Region.noSelect_spec ok.nosel i o cs b (by simpa using hol)
    by_cases hie : i ∈ es
    · have hmem : i ∈ es.drop m := by
        rcases (List.mem_append.1 (by rw [List.take_append_drop]; exact hie : i ∈ es.take m ++ es.drop m)) with h | h
        · rw [ht i h] at hfalse; cases hfalse
        · exact h
      have hml : m < es.length := by
        rcases Nat.lt_or_ge m es.length with h | h
        · exact h
        · rw [List.drop_of_length_le h] at hmem; cases hmem
      have hdrop : es.drop m = es[m] :: es.drop (m + 1) := List.drop_eq_getElem_cons hml
      have hie' : i = es[m] := by
        rw [hdrop] at hmem
        rcases List.mem_cons.1 hmem with h | h
        · exact h
        · exfalso
          have hlt : es[m] < i := by
            have hp := ok.upE.sublist (List.drop_sublist m es)
            rw [hdrop, List.pairwise_cons] at hp
            exact hp.1 i h
          have h1 := hwait _ (ok.chain i hie es[m] (List.getElem_mem _) hlt)
          rw [hdp es[m] (by rw [hdrop]; exact List.mem_cons_self)] at h1
          cases h1
      rw [hdrop, ← hie', pick_cons hol] at hwp
      have hdn : o.dst = none := by
        have := ok.edst i hie
        unfold dstAt at this
        rw [hol] at this
        exact this
      refine wpListIn_rel hsel (hnd i o (by simpa using hol)) hdn hR (fun t ht' => ?_) hwp ?_
      · rintro ⟨i2, h5, _, h6, h7⟩
        rw [hwait _ (ok.depsE i hie o hol t ht' i2 h5 h7)] at h6
        cases h6
      · rintro A' a' W' eA ea ed hwp'
        refine .inr ⟨by simpa using hsz, A, A', m + 1, ys, hp, hall, hml, fun e he => ?_, fun e he => ?_, ?_, by rw [eA]; exact hAcs, by rw [eA]; exact hAcx, by rw [eA]; exact hAco, fun i' hi' hf => ?_, hwp'⟩
        · rw [setD _ _ _ hsz hi]; unfold done; split
          · rfl
          · rename_i hne
            rw [List.take_succ_eq_append_getElem hml] at he
            rcases List.mem_append.1 he with h | h
            · exact ht e h
            · exact absurd ((List.mem_singleton.1 h).trans hie'.symm) hne
        · rw [setD _ _ _ hsz hi]; unfold done
          have hne : e ≠ i := fun e' => by
            have hp := ok.upE.sublist (List.drop_sublist m es)
            rw [hdrop, List.pairwise_cons] at hp
            have := hp.1 e he
            omega
          rw [if_neg hne]
          exact hdp e (by rw [hdrop]; exact List.mem_cons_of_mem _ he)
        · refine ⟨ed, by rw [ea, eA]; exact hR.size, fun t ht' => ?_⟩
          rw [ea, eA]
          refine hR.same t fun ⟨i2, h5, h5', h6, h7⟩ => ht' ⟨i2, h5, h5', ?_, h7⟩
          rw [setD _ _ _ hsz hi]; unfold done
          rw [if_neg (fun e' => by subst e'; exact h5' hie)]
          exact h6
        · rw [setD _ _ _ hsz hi] at hf
          unfold done at hf
          split at hf
          · cases hf
          · exact hfl i' hi' hf
    · have hix : i ∈ ys := (hall i hi).resolve_right hie
      obtain ⟨pre, post, LF, hx, hLF, hy⟩ := hfl i hix hfalse o hol
      have hag : ∀ t ∈ o.looksAt l.toArray, LF.tmps.getD t undef = a.tmps.getD t undef := fun t ht' => by
        by_cases hex : ∃ i', i' < l.length ∧ dstAt l i' = some t
        · obtain ⟨i', hi', hd⟩ := hex
          obtain ⟨h1, h2⟩ := hp.deps pre i post hx o hol t ht' i' hi' hd
          have hix' : i' ∈ ys := by rw [hx]; simp [h2]
          rw [hLF.in_ i' h2 t hd, hR.same t (fun ⟨i2, h5, h5', h6, h7⟩ => by
            obtain ⟨d, h8, h9⟩ := ok.own i' hi' (hp.x i' hix').2
            rw [hd] at h8
            cases h8
            have := h9 i2 h5 h7
            subst this
            rw [hwait _ h1] at h6
            cases h6), hAcx i' hix' t hd]
        · have hno : ∀ i', i' < l.length → dstAt l i' ≠ some t := fun i' hi' hd => hex ⟨i', hi', hd⟩
          rw [hLF.out t (fun i' hi' => hno i' (hp.x i' (by rw [hx]; simp [hi'])).1), hR.same t (fun ⟨i2, h5, _, _, h7⟩ => hno i2 h5 h7), hAco t hno]
      have hya := hy.agree hsel (hLF.size.trans (hAcs.symm.trans hR.size.symm)) hag
      obtain ⟨d, hdi, huniq⟩ := ok.own i hi hie
      have hdo : o.dst = some d := by unfold dstAt at hdi; rw [hol] at hdi; exact hdi
      have hnext : St (listed.setIfInBounds i true) (a.put o.dst (valOf l A i)) W := by
        refine .inr ⟨by simpa using hsz, A, Ac, m, ys, hp, hall, hm', fun e he => ?_, fun e he => ?_, ?_, hAcs, hAcx, hAco, fun i' hi' hf => ?_, hwp⟩
        · rw [setD _ _ _ hsz hi]; unfold done; split
          · rfl
          · exact ht e he
        · rw [setD _ _ _ hsz hi]; unfold done; rw [if_neg (fun e' => by subst e'; exact hie (List.mem_of_mem_drop he))]; exact hdp e he
        · rw [hdo]
          refine ⟨hR.defers, by rw [← hR.size]; simp [Act.put], fun t ht' => ?_⟩
          by_cases e : t = d
          · subst e
            rw [show (a.put (some t) (valOf l A i)).tmps = a.tmps.setIfInBounds t (valOf l A i) from rfl, getD_set_same _ _ _ (by rw [hR.size, hAcs]; exact hslot i hi t hdi), hAcx i hix t hdi]
            unfold valOf; rw [hdi]; rfl
          · rw [show (a.put (some d) (valOf l A i)).tmps = a.tmps.setIfInBounds d (valOf l A i) from rfl, getD_set_other _ _ (Ne.symm e)]
            refine hR.same t fun ⟨i2, h5, h5', h6, h7⟩ => ht' ⟨i2, h5, h5', ?_, h7⟩
            rw [setD _ _ _ hsz hi]; unfold done
            rw [if_neg (fun e' => by subst e'; rw [hdi] at h7; exact e (Option.some.inj h7).symm)]
            exact h6
        · rw [setD _ _ _ hsz hi] at hf
          unfold done at hf
          split at hf
          · cases hf
          · exact hfl i' hi' hf
      simp only [wpListIn]
      rcases hya.2 with ⟨hw, hv⟩ | ⟨hw, hv⟩
      · rw [if_pos hw]
        unfold Oper.wpIn
        refine ⟨hya.1 W, ?_⟩
        rw [Oper.semAt_eq _ _ _ (hnd i o (by simpa using hol)), hv W]
        exact hnext
      · rw [if_neg (by rw [hw]; simp)]
        refine ⟨hya.1 W, ?_⟩
        rw [hv] at hnext
        exact hnext
  refine wpIn_region_inv hm St ?_ ?_ ?_ ?_
  · rintro listed a W (⟨h, _⟩ | ⟨h, _⟩) <;> simpa using h
  · obtain ⟨k', qs, kids, A, hp, hk, hA, _, hav, hnext⟩ := tree_enter (G := G) (F := F) (n := n) (P := P) (tail := tail) (a0 := a0) ok hs h hpb PathOk.nil (Mixed.nil (by simp))
    have hrep : ∀ i, (Array.replicate l.toArray.size false).getD i false = false := fun i => getD_replicate_false _ _
    exact .inl ⟨by simp, fun e _ => hrep e, k', [], qs, kids, A, V0, by simpa using hp, by simpa using hk, fun i _ _ => hrep i, by simpa using hA, Mixed.nil (fun i hi => by rw [hrep i] at hi; cases hi.2), fun i hi _ => by simpa using hav i hi, hV, hnext⟩
  · rintro listed a W i o ho hu hd hst
    have hol : l[i]? = some o := by simpa using ho
    have hi : i < l.length := (List.getElem?_eq_some_iff.1 hol).1
    have hwait : ∀ i', afterB l i i' = true → listed.getD i' false = true := fun i' h => by
      unfold afterB at h
      rw [hol] at h
      obtain ⟨e, he, h2⟩ := List.any_eq_true.1 h
      simp only [Bool.and_eq_true, beq_iff_eq] at h2
      rw [← h2.1]
      exact hd e (by simpa using he) h2.2
    rcases hst with hA0 | hBB
    · obtain ⟨hsz, hesl, k, p, ys, kids, A, V, hp, hk, hlater, hA, hM, hav, hc, hnext⟩ := hA0
      have hfalse : listed.getD i false = false := getD_both hu
      have hsel : ∀ cs b, o.op ≠ .select cs b := fun cs b => Region.noSelect_spec ok.nosel i o cs b ho
      by_cases hie : i ∈ es
      · refine stepB listed _ W i o hol hu hwait (toB listed _ W ⟨hsz, hesl, k, p, ys, kids, A, V, hp, hk, hlater, hA, hM, hav, hc, hnext⟩ fun i' hi' hne' hf o' ho' => ?_)
        rcases ok.late i' hi' hne' o' ho' with h | h
        · exact h
        · rw [hwait i' (h i hie)] at hf
          cases hf
      · obtain ⟨d, hdi, hun⟩ := ok.own i hi hie
        have hdo : o.dst = some d := by unfold dstAt at hdi; rw [hol] at hdi; exact hdi
        have e1 : ∀ e ∈ es, (listed.setIfInBounds i true).getD e false = false := fun e he => by
          rw [setD _ _ _ hsz hi]; unfold done
          rw [if_neg (fun e' => by subst e'; exact hie he)]
          exact hesl e he
        by_cases hy : i ∈ ys
        · -- quiet
          obtain ⟨pre, post, hp1, hp3⟩ := hav i hy hfalse o hol
          obtain ⟨LF, hLF, hyq⟩ := hp3 (fun W => Below V.heap.size V W) ⟨⟨W, hc⟩, fun _ h => Grows.below h, fun W W' h k => h.trans (k.mono h.size)⟩
          have hag := agreeA hp hol hp1 hwait hLF hM
          have hya := yields_agree hsel (hLF.size.trans hM.size.symm) hag hyq
          have hval : valOf l A i = A.tmps.getD d undef := by unfold valOf; rw [hdi]; rfl
          have hnx : ∀ W', Below V.heap.size V W' → St (listed.setIfInBounds i true) (a.put o.dst (valOf l A i)) W' := fun W' hW' => by
            refine .inl ⟨by simpa using hsz, e1, k, p, ys, kids, A, V, hp, hk, fun q hq hqy => ?_, hA, by rw [hdo, hval]; exact (hM.step hdi (fun i' hi' hd' => hun i' (hp.x i' hi'.1).1 hd') (hslot i hi d hdi)).congr (mixS listed i ys hsz hi hy), fun q hq hf => ?_, hW', hnext⟩
            · rw [setD _ _ _ hsz hi]; unfold done
              rw [if_neg (fun e' => by subst e'; exact hqy hy)]
              exact hlater q hq hqy
            · rw [setD _ _ _ hsz hi] at hf
              unfold done at hf
              split at hf
              · cases hf
              · exact hav q hq hf
          simp only [wpListIn]
          rcases hya.2 with ⟨hw, hv⟩ | ⟨hw, hv⟩
          · rw [if_pos hw]
            exact wpIn_of_quiet' (K := fun a' => a' = a.put o.dst (valOf l A i)) (hnd i o ho) hc (fun a' W' hW' ha' => by subst ha'; exact hnx W' hW') hya.1 ⟨_, hv, rfl⟩
          · rw [if_neg (by rw [hw]; simp)]
            refine ⟨hya.1 W hc, ?_⟩
            have := hnx W hc
            rw [hv] at this
            exact this
        · -- the next one
          have hik : i ∈ kids := by
            refine Classical.byContradiction fun hno => ?_
            obtain ⟨k', h1, h2⟩ := hk.wait i hi hy hie hno
            have h3 := hwait k' h2
            rcases Nat.lt_or_ge k' l.length with h4 | h4
            · rw [hlater k' h4 h1] at h3; cases h3
            · rw [Array.getD_eq_getD_getElem?, Array.getElem?_eq_none (by omega)] at h3; cases h3
          obtain ⟨_, _, _, hrd, hlt, hpb'⟩ := hk.kid i hik
          obtain ⟨ox, hox, hwx⟩ := hnext.2 i hik
          obtain rfl : ox = o := Option.some.inj (hox.symm.trans hol)
          have hp' : PathOk l es (ys ++ [i]) := hp.snoc hi hie hy hrd
          have hM' : Mixed l (fun q => q ∈ ys ++ [i] ∧ listed.getD q false = true) A a0 a := hM.congr (fun q => by
            constructor
            · rintro ⟨h1, h2⟩; exact ⟨by simp [h1], h2⟩
            · rintro ⟨h1, h2⟩
              rcases List.mem_append.1 h1 with h1 | h1
              · exact ⟨h1, h2⟩
              · rw [List.mem_singleton.1 h1, hfalse] at h2; cases h2)
          have hag := agreeA hp' hol (show ys ++ [i] = ys ++ i :: [] from rfl) hwait hA hM'
          refine wpListIn_relD hsel (hnd i ox ho) (by rw [hM.size, hA.size]) hag (hwx W hc) ?_
          rintro A' a' W' v eA ea ed ⟨hdf, hbW, hfl⟩
          have eA' : A' = A.put (some d) v := by
            obtain ⟨t1, d1⟩ := A'
            rw [hdo] at eA
            simp only at eA hdf
            subst eA hdf
            rfl
          have ea' : a' = a.put (some d) v := by
            obtain ⟨t1, d1⟩ := a'
            rw [hdo] at ea
            have h5 := ed hdf
            simp only at ea h5
            subst ea h5
            rfl
          rw [eA'] at hfl
          have hA1 : Mixed l (· ∈ ys ++ [i]) (A.put (some d) v) a0 (A.put (some d) v) := by
            have hpt : (A.put (some d) v).tmps = A.tmps.setIfInBounds d v := rfl
            refine ⟨hA.defers, by rw [hpt]; simpa using hA.size, fun _ _ _ _ => rfl, fun t ht => ?_⟩
            rw [hpt, getD_set_other _ _ (fun e => ht i (by simp) (by rw [hdi, e]))]
            exact hA.out t fun k hk => ht k (by simp [hk])
          obtain ⟨k2, qs, kids2, A2, hp2, hk2, hA2, hsame, hav2, hnext2⟩ := tree_enter (G := G) (F := F) (n := n) (P := P) (tail := tail) (a0 := a0) ok hs hfl hpb' hp' hA1
          have hbV : G V W' := Grows.trans (Grows.below hc) hbW
          have hdv : (A.put (some d) v).tmps.getD d undef = v := getD_set_same _ _ _ (by rw [hA.size]; exact hslot i hi d hdi)
          have hold : ∀ k ∈ ys, ∀ t, dstAt l k = some t → A.tmps.getD t undef = A2.tmps.getD t undef := fun k hk t hd => by
            rw [← hsame k (by simp [hk]) t hd]
            refine (getD_set_other _ _ (fun e => ?_)).symm
            subst e
            have := hun k (hp.x k hk).1 hd
            subst this
            exact hy hk
          have hM2 : Mixed l (fun q => q ∈ ys ++ [i] ++ qs ∧ (listed.setIfInBounds i true).getD q false = true) A2 a0 (a.put (some d) v) := by
            have h6 := (hM.change (A' := A2) (fun k hk t hd => hold k hk.1 t hd)).step hdi (fun i' hi' hd' => hun i' (hp.x i' hi'.1).1 hd') (hslot i hi d hdi)
            have h7 : A2.tmps.getD d undef = v := by rw [← hsame i (by simp) d hdi]; exact hdv
            rw [h7] at h6
            refine h6.congr (fun q => ?_)
            rw [setD listed i q hsz hi]
            unfold done
            by_cases e : q = i
            · subst e; simp
            · simp only [e, if_false, or_false]
              constructor
              · rintro ⟨h8, h9⟩; exact ⟨by simp [h8], h9⟩
              · rintro ⟨h8, h9⟩
                refine ⟨?_, h9⟩
                refine Classical.byContradiction fun hno => ?_
                have hql := (hp2.x q h8).1
                rw [hlater q hql hno] at h9
                cases h9
          refine .inl ⟨by simpa using hsz, e1, k2, ins i p, ys ++ [i] ++ qs, kids2, A2, W', hp2, hk2, fun q hq hqy => ?_, hA2, by rw [ea']; exact hM2, fun q hq hf => ?_, Below.refl _ _, hnext2⟩
          · rw [setD _ _ _ hsz hi]; unfold done
            rw [if_neg (fun e' => by subst e'; exact hqy (by simp))]
            exact hlater q hq (fun h => hqy (by simp [h]))
          · rw [setD _ _ _ hsz hi] at hf
            unfold done at hf
            split at hf
            · cases hf
            · rename_i hki
              rcases List.mem_append.1 hq with hq | hq
              · have hq' : q ∈ ys := by
                  rcases List.mem_append.1 hq with h | h
                  · exact h
                  · exact absurd (List.mem_singleton.1 h) hki
                intro o' ho'
                obtain ⟨pre, post, q1, q3⟩ := hav q hq' hf o' ho'
                refine ⟨pre, post ++ [i] ++ qs, by rw [q1]; simp, fun C hC => ?_⟩
                obtain ⟨LF, q4, q5⟩ := q3 C (hC.up hbV)
                have hkv : valOf l A q = valOf l A2 q := by
                  obtain ⟨dk, g1, _⟩ := ok.own q (hp.x q hq').1 (hp.x q hq').2
                  unfold valOf
                  rw [g1]
                  exact hold q hq' dk g1
                exact ⟨LF, q4.change (fun k2 hk2 t hd => hold k2 (by rw [q1]; simp [hk2]) t hd), by rw [← hkv]; exact q5⟩
              · exact hav2 q hq
    · exact stepB listed a W i o hol hu hwait hBB
  · rintro listed a W hr hst
    have hal : ∀ i, i < l.length → listed.getD i false = true := by
      rcases hst with ⟨h, _⟩ | ⟨h, _⟩ <;> exact fun i hi => ready_nil_all ok.back (by simpa using h) hr i (by simpa using hi)
    have hBB : StB listed a W := by
      rcases hst with h | h
      · exact toB listed a W h (fun i hi _ hf => by rw [hal i hi] at hf; cases hf)
      · exact h
    obtain ⟨hsz, A, Ac, m, ys, hp, hall, hm', ht, hdp, hR, hAcs, hAcx, hAco, hfl, hwp⟩ := hBB
    have hnil : es.drop m = [] := by
      cases h : es.drop m with
      | nil => rfl
      | cons e r =>
        have h1 := hdp e (by rw [h]; simp)
        rw [hal e (ok.e e (List.mem_of_mem_drop (by rw [h]; simp)))] at h1
        cases h1
    rw [hnil] at hwp
    have hEq : a = Ac := by
      obtain ⟨t, d⟩ := a
      obtain ⟨t', d'⟩ := Ac
      have e1 : d = d' := hR.defers
      have s1 : t.size = t'.size := hR.size
      have e2 : t = t' := by
        apply Array.ext s1
        intro i h1 h2
        have := hR.same i (fun ⟨i2, h5, _, h6, _⟩ => by rw [hal i2 h5] at h6; cases h6)
        simpa [h1, h2] using this
      rw [e1, e2]
    subst hEq
    exact hwp
end
end Go.Proofs.YtahkjagjcogeiaaDoor.Tr
/- The answer's sorted: numbers in increasing order, in new memory. -/
namespace Go.Proofs.YtahkjagjcogeiaaDoor
open Go.RowKit Go.Shelf Go.Sort
set_option linter.unusedVariables false

theorem own_empty (w : World) : Own (w.alloc (.cells #[] 3)) w.heap.size 3 1 (some ⟨w.heap.size, 0, none⟩) 0 0 [] :=
  Own.mk_ (Nat.le_refl _) (Blk.new w 3 #[]) (Nat.le_refl _) (by unfold maxLen; omega) rfl rfl (fun k hk => by omega)
theorem own_set {w : World} {base g n c k : Nat} {l : List Int} (h : Own w base 3 1 (some ⟨g, 0, none⟩) n c (l.map (Value.int .i64))) (hk : k < n) (v : Int) : Own (w.setCell ⟨g, k, none⟩ (.int .i64 v)) base 3 1 (some ⟨g, 0, none⟩) n c ((l.set k v).map (Value.int .i64)) := by
  obtain ⟨cur, hbg, hblk, hnc, hcm, hsz, hl, hc⟩ := own_cells h
  refine Own.mk_ hbg (hblk.set_ k _) hnc hcm (by simpa using hsz) (by simpa using hl) (fun j hj => ?_)
  rw [List.getElem?_map, List.getElem?_set]
  by_cases e : k = j
  · subst e
    rw [Array.getElem?_setIfInBounds_self_of_lt (by omega), if_pos rfl, if_pos (by omega)]
    rfl
  · rw [Array.getElem?_setIfInBounds_ne e, if_neg e]
    have hx : l[j]? = some l[j] := List.getElem?_eq_getElem (by omega)
    rw [hc _ _ hx, hx]
    rfl
theorem own_cell {w : World} {base g n c k : Nat} {l : List Int} (h : Own w base 3 1 (some ⟨g, 0, none⟩) n c (l.map (Value.int .i64))) (hk : k < n) : w.cell? ⟨g, k, none⟩ = some (.int .i64 l[k]!) ∧ w.frozen? ⟨g, k, none⟩ = false := by
  obtain ⟨cur, hbg, hblk, hnc, hcm, hsz, hl, hc⟩ := own_cells h
  have hx : l[k]? = some l[k]! := by rw [List.getElem?_eq_getElem (by omega)]; simp [show k < l.length by omega]
  exact ⟨by rw [hblk.cell]; exact hc _ _ hx, hblk.frozen _⟩
theorem ins_zero (d : Array Int) (n : Nat) : insOuter ltInt 0 n 0 d = insertionSort ltInt d 0 n := by
  unfold insertionSort
  by_cases h : 0 < n
  · rw [insOuter_go _ _ _ _ _ h, insInner_stop _ _ _ _ (.inl (Nat.le_refl _))]
  · rw [insOuter_stop _ _ _ _ _ h, insOuter_stop _ _ _ _ _ (by omega)]
theorem swp_list (d : List Int) (j k : Nat) : (swp d.toArray j k).toList = (d.set j d[k]!).set k d[j]! := by
  unfold swp
  simp

set_option maxRecDepth 1000000 in
set_option maxHeartbeats 8000000 in
theorem rsorted_in (A : Option Addr) (n c : Nat) (l : List Int) (w : World) (hn : n ≤ 1000) (hr : IntsAt w w.heap.size A n l) :
    CallsIn Fence.wide 9 Tryd.prog 101 #[.slice A n c] w fun e w' => ∃ g q, e = .returned (.slice (some ⟨g, 0, none⟩) n q) ∧ Own w' w.heap.size 3 1 (some ⟨g, 0, none⟩) n q ((upI l).map (Value.int .i64)) ∧ Below w.heap.size w w' := by
  have hl := hr.len
  have HB0 := Lib.hid (show Below w.heap.size w (w.alloc (.cells #[] 3)) from (Below.refl _ _).alloc (Nat.le_refl _) _)
  have HO0 := Lib.hid (own_empty w)
  have HR0 := Lib.hid (hr.below HB0.out)
  have HLN := Lib.hid hl
  clear hr hl
  refine callsIn_of_wp Tryd.func101 rfl trivial ?_ rfl
  simp only [Tryd.ntmps101, List.size_toArray, List.length_cons, List.length_nil, Nat.reduceAdd, Nat.reduceSub, Array.replicate_succ, Array.replicate_zero, List.push_toArray, List.append_toArray, List.nil_append, List.cons_append]
  gi_wp2_with (first | (gi_at_builtin; refine wpListIn_append_any rfl (.tmp 7) (.tmp 8) (by rfl) elem_int rfl HO0.out rfl HR0.out (ints_one _) (by unfold maxLen; omega) (by omega) (by simp) ?_) | fail)
  rintro A8 q W1 hown hgr hA8
  obtain ⟨g, rfl⟩ : ∃ g, A8 = some ⟨g, 0, none⟩ := by
    rcases hA8 with rfl | rfl
    · exact ⟨_, rfl⟩
    · exact ⟨_, rfl⟩
  have HO1 := Lib.hid (show Own W1 w.heap.size 3 1 (some ⟨g, 0, none⟩) n q (l.map (Value.int .i64)) from by simpa using hown)
  have HB1 := Lib.hid (HB0.out.grown hgr (by simp) (fun j hj => own_row HO0.out hj))
  have hcap := HO1.out.cap_le
  have hmax : q ≤ 9223372036854775807 := by have := hcap.2; unfold maxLen at this; omega
  have hnq := hcap.1
  clear hown hgr hA8 hcap
  try simp only [Nat.zero_add]
  gi_wp2
  gi_loopw [4] (fun vi wr => ∃ (i : Nat) (d : List Int), vi = .int .i64 i ∧ i ≤ n ∧ Hid (d.length = n ∧ Own wr w.heap.size 3 1 (some ⟨g, 0, none⟩) n q (d.map (Value.int .i64)) ∧ Below w.heap.size w wr ∧ insOuter ltInt 0 n i d.toArray = insOuter ltInt 0 n 0 l.toArray)) (fun vi _ => n - (intOf vi).toNat)
  case atStart => exact ⟨0, l, rfl, Nat.zero_le _, Lib.hid ⟨HLN.out, HO1.out, HB1.out, rfl⟩⟩
  case round =>
    obtain ⟨i, d, rfl, hi, HS⟩ := hrel
    by_cases hlt : i < n
    · gi_wp2
      gi_loopw [5] (fun vj wr2 => ∃ (j : Nat) (e : List Int), vj = .int .i64 j ∧ j ≤ i ∧ Hid (e.length = n ∧ Own wr2 w.heap.size 3 1 (some ⟨g, 0, none⟩) n q (e.map (Value.int .i64)) ∧ Below w.heap.size w wr2 ∧ insInner ltInt 0 j e.toArray = insInner ltInt 0 i d.toArray)) (fun vj _ => (intOf vj).toNat)
      case atStart => exact ⟨i, d, rfl, Nat.le_refl _, Lib.hid ⟨HS.out.1, HS.out.2.1, HS.out.2.2.1, rfl⟩⟩
      case round =>
        obtain ⟨j, e, rfl, hj, HS2⟩ := hrel
        have OUT : Hid (∀ W, Below wr.heap.size wr W → (j ≤ 0 ∨ ltInt e.toArray[j]! e.toArray[j - 1]! = false) → ∃ (i' : Nat) (d' : List Int), Value.int .i64 ((i : Int) + 1) = .int .i64 (i' : Nat) ∧ i' ≤ n ∧ Hid (d'.length = n ∧ Own W w.heap.size 3 1 (some ⟨g, 0, none⟩) n q (d'.map (Value.int .i64)) ∧ Below w.heap.size w W ∧ insOuter ltInt 0 n i' d'.toArray = insOuter ltInt 0 n 0 l.toArray)) := Lib.hid fun W hW hs =>
          ⟨i + 1, e, by go_num, by omega, Lib.hid ⟨HS2.out.1, HS2.out.2.1.below hW (Nat.le_refl _), HS2.out.2.2.1.trans (hW.mono HS2.out.2.2.1.size), by rw [← HS.out.2.2.2, insOuter_go _ _ _ _ _ hlt, ← HS2.out.2.2.2, insInner_stop _ _ _ _ hs]⟩⟩
        by_cases hj0 : 0 < j
        · have c1 := own_cell HS2.out.2.1 (k := j) (by omega)
          have c2 := own_cell HS2.out.2.1 (k := j - 1) (by omega)
          obtain ⟨x, hx⟩ : ∃ x, e[j]! = x := ⟨_, rfl⟩
          obtain ⟨y, hy⟩ : ∃ y, e[j - 1]! = y := ⟨_, rfl⟩
          rw [hx] at c1
          rw [hy] at c2
          obtain ⟨c1, z1⟩ := c1
          obtain ⟨c2, z2⟩ := c2
          have HX := Lib.hid hx
          have HY := Lib.hid hy
          have hj' : ((j : Int) - 1).toNat = j - 1 := by omega
          have hjn : j < n := by omega
          have hgl : g < wr.heap.size := (HS2.out.2.1.lt rfl).2
          clear hx hy
          gi_wp2
          refine Tr.wpIn_region_tree (G := Tr.Up) (V0 := wr) [([], [true, true, true, true, true, true, true, true, true, true, true, true, true, true], [])] 1 [] (by kernel_rfl) (by kernel_rfl) (by kernel_rfl) (below_drewN (Below.refl _ _) 1) ?_
          refine Tr.wpTree_end (A := ?AF1) rfl ?hq1 ?_
          case hq1 =>
            rintro σ hσ of hof hcl
            have HOF := Lib.hid hof
            have HCL := Lib.hid hcl
            clear hof hcl
            have d1 : ∀ z, (of z).cell? ⟨g, j, none⟩ = some (.int .i64 x) := fun z => ((HOF.out z).cell (p := ⟨g, j, none⟩) hgl).trans c1
            have d2 : ∀ z, (of z).cell? ⟨g, j - 1, none⟩ = some (.int .i64 y) := fun z => ((HOF.out z).cell (p := ⟨g, j - 1, none⟩) hgl).trans c2
            have hfw : ∀ f, Fence.wide.fn f := fun _ => trivial
            simp only [pickB]
            repeat (gi_big_quiet_step (fail))
            refine wpQuietIn_nil ?_
            exact rfl
          intro W hW
          have HBW := Lib.hid (show Below wr.heap.size wr W from hW)
          clear hW
          simp only [pickB]
          refine wpT_nil ?_
          by_cases hxy : x < y
          · have HLT := Lib.hid hxy
            have HO2 := Lib.hid (HS2.out.2.1.below HBW.out (Nat.le_refl _))
            have HBa := Lib.hid (HS2.out.2.2.1.trans (HBW.out.mono HS2.out.2.2.1.size))
            have c1 := own_cell HO2.out (k := j) (by omega)
            have c2 := own_cell HO2.out (k := j - 1) (by omega)
            rw [HX.out] at c1
            rw [HY.out] at c2
            obtain ⟨c1, z1⟩ := c1
            obtain ⟨c2, z2⟩ := c2
            gi_wp2
            go_roundw
            case rel =>
              refine ⟨j - 1, (e.set j y).set (j - 1) x, by congr 1; omega, by omega, Lib.hid ⟨by simpa using HS2.out.1, own_set (own_set HO2.out hjn y) (by omega) x, (HBa.out.setCell (p := ⟨g, j, none⟩) (HS2.out.2.1.lt rfl).1 _).setCell (p := ⟨g, j - 1, none⟩) (HS2.out.2.1.lt rfl).1 _, ?_⟩⟩
              rw [← HS2.out.2.2.2, insInner_go ltInt 0 j e.toArray hj0 (by simp [ltInt, HX.out, HY.out, HLT.out])]
              congr 1
              apply Array.ext'
              rw [swp_list, HX.out, HY.out]
            case measure => simp [intOf]; omega
          · have HLT := Lib.hid (show ltInt x y = false by simp [ltInt]; omega)
            gi_wp2
            go_roundw
            case rel => exact OUT.out W HBW.out (.inr (by simpa [HX.out, HY.out] using HLT.out))
            case measure => simp [intOf]; omega
        · obtain rfl : j = 0 := by omega
          gi_wp2
          refine Tr.wpIn_region_tree (G := Tr.Up) (V0 := wr) [([], [true, true, true, true, true, true, true, true, true, true, true, true, true, true], [])] 1 [] (by kernel_rfl) (by kernel_rfl) (by kernel_rfl) (below_drewN (Below.refl _ _) 1) ?_
          refine Tr.wpTree_end (A := ?AF2) rfl ?hq2 ?_
          case hq2 =>
            rintro σ hσ of hof hcl
            have HOF := Lib.hid hof
            have HCL := Lib.hid hcl
            clear hof hcl
            have hfw : ∀ f, Fence.wide.fn f := fun _ => trivial
            simp only [pickB]
            repeat (gi_big_quiet_step (fail))
            refine wpQuietIn_nil ?_
            exact rfl
          intro W hW
          have HBW := Lib.hid (show Below wr.heap.size wr W from hW)
          clear hW
          simp only [pickB]
          refine wpT_nil ?_
          gi_wp2
          go_roundw
          case rel => exact OUT.out W HBW.out (.inl (Nat.le_refl _))
          case measure => simp [intOf]; omega
    · obtain rfl : i = n := by omega
      gi_wp2
      go_ret
      refine ⟨g, q, rfl, ?_, HS.out.2.2.1⟩
      have h1 : d = upI l := by
        have h := HS.out.2.2.2
        rw [insOuter_stop _ _ _ _ _ (Nat.lt_irrefl _), ins_zero, ← HLN.out, insertion_up] at h
        simpa using h
      rw [← h1]
      exact HS.out.2.1

theorem rsorted_any (A : Option Addr) (n c : Nat) (l : List Int) (w : World) (hn : n ≤ 1000) (hr : IntsAt w w.heap.size A n l) :
    Calls Tryd.prog 101 #[.slice A n c] w fun e w' => ∃ g q, e = .returned (.slice (some ⟨g, 0, none⟩) n q) ∧ Own w' w.heap.size 3 1 (some ⟨g, 0, none⟩) n q ((upI l).map (Value.int .i64)) ∧ Below w.heap.size w w' :=
  callsIn_wide.1 (rsorted_in A n c l w hn hr)
end Go.Proofs.YtahkjagjcogeiaaDoor
/- The answer's costs: its row of entries, plainly. -/
namespace Go.Proofs.YtahkjagjcogeiaaDoor
open Go.RowKit
set_option linter.unusedVariables false

def infC : Cost := ⟨1000000000, 0, 0, 0⟩
def entC (r : Option Cost) : Cost := r.getD infC
def eVals (E : List (Option Cost)) : List Value := E.flatMap fun r => (entC r).vals
theorem eVals_cons (r : Option Cost) (E : List (Option Cost)) : eVals (r :: E) = .int .i64 (entC r).a :: .int .i64 (entC r).b :: .int .i64 (entC r).c :: .int .i64 (entC r).d :: eVals E := by simp [eVals, Cost.vals]
theorem eVals_len (E : List (Option Cost)) : (eVals E).length = E.length * 4 := by
  induction E with
  | nil => rfl
  | cons r E ih => rw [eVals_cons]; simp [ih]; omega
theorem eVals_at {E : List (Option Cost)} {k j : Nat} {r : Option Cost} (h : E[k]? = some r) (hj : j < 4) : (eVals E)[k * 4 + j]? = (entC r).vals[j]? := by
  induction E generalizing k with
  | nil => simp at h
  | cons y l ih =>
    rw [eVals_cons]
    cases k with
    | zero =>
      simp at h
      subst h
      rcases (show j = 0 ∨ j = 1 ∨ j = 2 ∨ j = 3 by omega) with rfl | rfl | rfl | rfl <;> rfl
    | succ k =>
      have e : (k + 1) * 4 + j = (k * 4 + j) + 1 + 1 + 1 + 1 := by omega
      rw [e]
      simp only [List.getElem?_cons_succ]
      exact ih (by simpa using h)
theorem eVals_set {E : List (Option Cost)} {k : Nat} {r : Option Cost} (hk : k < E.length) :
    ((((eVals E).set (k * 4) (.int .i64 (entC r).a)).set (k * 4 + 1) (.int .i64 (entC r).b)).set (k * 4 + 2) (.int .i64 (entC r).c)).set (k * 4 + 3) (.int .i64 (entC r).d) = eVals (E.set k r) := by
  induction E generalizing k with
  | nil => simp at hk
  | cons y l ih =>
    cases k with
    | zero => simp only [eVals_cons, List.set_cons_zero]; rfl
    | succ k =>
      have e : (k + 1) * 4 = k * 4 + 1 + 1 + 1 + 1 := by omega
      have e1 : (k + 1) * 4 + 1 = (k * 4 + 1) + 1 + 1 + 1 + 1 := by omega
      have e2 : (k + 1) * 4 + 2 = (k * 4 + 2) + 1 + 1 + 1 + 1 := by omega
      have e3 : (k + 1) * 4 + 3 = (k * 4 + 3) + 1 + 1 + 1 + 1 := by omega
      rw [e1, e2, e3, e, List.set_cons_succ, eVals_cons, eVals_cons]
      simp only [List.set_cons_succ]
      rw [ih (by simpa using hk)]
theorem eVals_inf {E : List (Option Cost)} {k : Nat} (h : E[k]? = some (some zeroC)) : (eVals E).set (k * 4) (.int .i64 1000000000) = eVals (E.set k none) := by
  induction E generalizing k with
  | nil => simp at h
  | cons y l ih =>
    cases k with
    | zero =>
      simp at h
      subst h
      simp only [eVals_cons, List.set_cons_zero]; rfl
    | succ k =>
      have e : (k + 1) * 4 = k * 4 + 1 + 1 + 1 + 1 := by omega
      rw [e, List.set_cons_succ, eVals_cons, eVals_cons]
      simp only [List.set_cons_succ]
      rw [ih (by simpa using h)]
theorem eVals_zero (n : Nat) : eVals (List.replicate n (some zeroC)) = List.replicate (n * 4) (.int .i64 0) := by
  induction n with
  | zero => rfl
  | succ n ih =>
    have e : (n + 1) * 4 = n * 4 + 1 + 1 + 1 + 1 := by omega
    rw [List.replicate_succ, eVals_cons, ih, e]
    rfl
theorem made_zero (n : Nat) : madeCells #[.int .i64 0, .int .i64 0, .int .i64 0, .int .i64 0] (n * 4) = (eVals (List.replicate n (some zeroC))).toArray := by
  rw [eVals_zero]
  unfold madeCells
  apply Array.ext'
  rw [Array.toList_map]
  apply List.ext_getElem
  · simp
  · intro i h1 h2
    simp
    rcases (show i % 4 = 0 ∨ i % 4 = 1 ∨ i % 4 = 2 ∨ i % 4 = 3 by omega) with h | h | h | h <;> simp [h]

theorem lessC_cmp (x y : Cost) : lessC x y = decide (cmpL x.list y.list < 0) := by
  unfold lessC
  simp only [cmpL, Cost.list]
  by_cases h1 : x.a = y.a
  · by_cases h2 : x.b = y.b
    · by_cases h3 : x.c = y.c
      · by_cases h4 : x.d = y.d
        · simp [h1, h2, h3, h4]
        · rcases (show x.d < y.d ∨ y.d < x.d by omega) with h | h
          · simp [h1, h2, h3, h4, h]
          · simp [h1, h2, h3, h4, h, show ¬ x.d < y.d by omega]
      · rcases (show x.c < y.c ∨ y.c < x.c by omega) with h | h
        · simp [h1, h2, h3, h]
        · simp [h1, h2, h3, h, show ¬ x.c < y.c by omega]
    · rcases (show x.b < y.b ∨ y.b < x.b by omega) with h | h
      · simp [h1, h2, h]
      · simp [h1, h2, h, show ¬ x.b < y.b by omega]
  · rcases (show x.a < y.a ∨ y.a < x.a by omega) with h | h
    · simp [h1, h]
    · simp [h1, h, show ¬ x.a < y.a by omega]

theorem leE_zero {E : List (Option Cost)} {i : Nat} (h : E[i]? = some (some zeroC)) : leE E i zeroC := ⟨zeroC, h, by simp [cmpL, Cost.list]⟩
/-- The start. -/
theorem BSt.start {t : Town} {dk : Bool} {p : Price} {to : Int} {E : List (Option Cost)} (hl : E.length = t.places.length) (h : ∀ (i : Nat) v, t.places[i]? = some v → E[i]? = some (if v = to then some zeroC else none)) : BSt t dk p to 0 0 0 0 E := by
  refine ⟨hl, ?_, ?_, ?_, fun i' hi => absurd hi (by omega), fun v _ x hx => by simp at hx⟩
  · intro i v c hv hc
    rw [h i v hv] at hc
    by_cases e : v = to
    · rw [if_pos e] at hc
      cases hc
      subst e
      exact ⟨[], .nil _, by simp⟩
    · rw [if_neg e] at hc
      cases hc
  · intro i hi
    exact leE_zero (by rw [h i to hi, if_pos rfl])
  · intro i v c l hv hw hlen
    obtain rfl : l = [] := List.length_eq_zero_iff.1 (by omega)
    cases hw
    exact leE_zero (by rw [h i _ hv, if_pos rfl])
/-- An entry is small. -/
structure Little (x : Cost) : Prop where
  a : 0 ≤ x.a ∧ x.a ≤ 250000000
  b : 0 ≤ x.b ∧ x.b ≤ 1000000
  c : 0 ≤ x.c ∧ x.c ≤ 4000000
  d : 0 ≤ x.d ∧ x.d ≤ 2000
theorem BSt.little {t : Town} {dk : Bool} {p : Price} {to : Int} {k i j M : Nat} {E : List (Option Cost)} (h : BSt t dk p to k i j M E) (ht : Fine t) (hp : Fair p) (hM : M ≤ 2000) {q : Nat} {d : Cost} (hd : E[q]? = some (some d)) : Little d := by
  have hq : q < t.places.length := by rw [← h.len]; exact (List.getElem?_eq_some_iff.1 hd).1
  obtain ⟨l, hw, hl⟩ := h.sound q _ d (List.getElem?_eq_getElem hq) hd
  have := hw.bound ht hp
  exact ⟨by omega, by omega, by omega, by omega⟩
/-- A row of entries, in memory. -/
def EAt (w : World) (B : Nat) (A : Option Addr) (n : Nat) (E : List (Option Cost)) : Prop := Reads w B 4 A n (eVals E)
end Go.Proofs.YtahkjagjcogeiaaDoor
/- The answer's walked: a list of links followed. -/
namespace Go.Proofs.YtahkjagjcogeiaaDoor
open Go.RowKit Go.Shelf
set_option linter.unusedVariables false

structure RWSt (w : World) (T : Array Value) (p : Price) (co : Cost) (W : World) : Prop where
  bel : Below w.heap.size w W
  tb : Blk W w.heap.size 25 T
  pb : Blk W (w.heap.size + 1) 107 #[.int .i64 p.pace, .int .i64 p.up, .int .i64 p.step]
  rb : Blk W (w.heap.size + 1 + 1) 103 #[.int .i64 0, .int .i64 0, .int .i64 0, .int .i64 0]
  sb : Blk W (w.heap.size + 1 + 1 + 1) 103 #[.int .i64 co.a, .int .i64 co.b, .int .i64 co.c, .int .i64 co.d]
theorem RWSt.below {w W W' : World} {T : Array Value} {p : Price} {co : Cost} (h : RWSt w T p co W) (hb : Below W.heap.size W W') : RWSt w T p co W' :=
  ⟨h.bel.trans (hb.mono h.bel.size), h.tb.below hb h.tb.lt, h.pb.below hb h.pb.lt, h.rb.below hb h.rb.lt, h.sb.below hb h.sb.lt⟩

/-- A block of four cells written anew. -/
theorem ret4 {w W : World} {B g : Nat} {t : TypeId} {z0 z1 z2 z3 : Value} (R : Blk W g t #[z0, z1, z2, z3]) (L : Below B w W) (hg : B ≤ g) (v0 v1 v2 v3 : Value) :
    Blk ((((W.setCell ⟨g, 0, none⟩ v0).setCell ⟨g, 1, none⟩ v1).setCell ⟨g, 2, none⟩ v2).setCell ⟨g, 3, none⟩ v3) g t #[v0, v1, v2, v3] ∧ Below B w ((((W.setCell ⟨g, 0, none⟩ v0).setCell ⟨g, 1, none⟩ v1).setCell ⟨g, 2, none⟩ v2).setCell ⟨g, 3, none⟩ v3) :=
  ⟨(((R.set_ 0 v0).set_ 1 v1).set_ 2 v2).set_ 3 v3, (((L.setCell (p := ⟨g, 0, none⟩) hg _).setCell (p := ⟨g, 1, none⟩) hg _).setCell (p := ⟨g, 2, none⟩) hg _).setCell (p := ⟨g, 3, none⟩) hg _⟩

theorem RWSt.put {w W : World} {T : Array Value} {p : Price} {co : Cost} (h : RWSt w T p co W) (d : Cost) : RWSt w T p d ((((W.setCell ⟨w.heap.size + 1 + 1 + 1, 0, none⟩ (.int .i64 d.a)).setCell ⟨w.heap.size + 1 + 1 + 1, 1, none⟩ (.int .i64 d.b)).setCell ⟨w.heap.size + 1 + 1 + 1, 2, none⟩ (.int .i64 d.c)).setCell ⟨w.heap.size + 1 + 1 + 1, 3, none⟩ (.int .i64 d.d)) := by
  have X := ret4 (w := W) (B := w.heap.size + 1 + 1 + 1) h.sb (Below.refl _ _) (Nat.le_refl _) (.int .i64 d.a) (.int .i64 d.b) (.int .i64 d.c) (.int .i64 d.d)
  have Y := (ret4 h.sb h.bel (by omega) (.int .i64 d.a) (.int .i64 d.b) (.int .i64 d.c) (.int .i64 d.d)).2
  exact ⟨Y, h.tb.below X.2 (by omega), h.pb.below X.2 (by omega), h.rb.below X.2 (by omega), X.1⟩
end Go.Proofs.YtahkjagjcogeiaaDoor
/- The answer's costs: Bellman and Ford. -/
namespace Go.Proofs.YtahkjagjcogeiaaDoor
open Go.RowKit Go.Shelf
set_option linter.unusedVariables false

theorem wpListIn_make_all {F : Fence} {nn : Nat} {P : Program} {w : World} {ops : Array Oper} {rest : List Oper} {o : Oper} {a : Act} {Q : Exit → Act → World → Prop} (hgd : o.guard = none) (l c : Operand) (t : TypeId) (ho : o.op = .makeSlice t l c)
    (e : TypeId) (i : TypeInfo) (z : Value) (h1 : P.underlying t = some (.slice e)) (h2 : P.info? e = some i) (h3 : i.zero = some z) (n : Nat) (hl : a.eval l = .int .i64 n) (hc : a.eval c = .int .i64 n) (hb : i.bytes * n ≤ 140737488355328) (hn : n ≤ maxLen)
    (h : wpListIn F nn P ops Q rest (a.put o.dst (.slice (some ⟨w.heap.size, 0, none⟩) n n)) (w.alloc (.cells (madeCells z.cells (n * i.size)) e))) :
    wpListIn F nn P ops Q (o :: rest) a w := by
  have h63' : (n : Int) ≤ 9223372036854775807 := by
    have h := hn
    simp [maxLen] at h
    omega
  have hb' : (i.bytes : Int) * (n : Int) ≤ 281474976710656 := by
    rw [← Int.natCast_mul]
    omega
  refine wpListIn_plain hgd fun K hK => ?_
  have hr := run_make (P := P) w t e i z h1 h2 h3 .i64 .i64 n n (by omega) (Int.le_refl _) hb' h63'
  simp only [Int.toNat_natCast] at hr
  unfold Oper.wpIn
  refine ⟨?_, ?_⟩
  · simp [Oper.about, ho]
  · rw [Oper.semAt_plain F _ _ (by rw [ho]; intro c hc'; cases hc')]
    simp [execOp, ho, hl, hc, hr, Result.andThen]
    exact hK _ _ h

theorem info_rcost : (Tryd.prog.info? 103).map (fun i => (i.zero, i.size, i.bytes)) = some (some (.agg #[.int .i64 0, .int .i64 0, .int .i64 0, .int .i64 0]), 4, 32) := by kernel_rfl

structure RCSt (w : World) (T : Array Value) (p : Price) (E : List (Option Cost)) (W : World) : Prop where
  bel : Below w.heap.size w W
  tb : Blk W w.heap.size 25 T
  pb : Blk W (w.heap.size + 1) 107 #[.int .i64 p.pace, .int .i64 p.up, .int .i64 p.step]
  eb : Blk W (w.heap.size + 1 + 1) 103 (eVals E).toArray
section
variable {w W W' : World} {T : Array Value} {p : Price} {E : List (Option Cost)}
theorem RCSt.below (h : RCSt w T p E W) (hb : Below W.heap.size W W') : RCSt w T p E W' :=
  ⟨h.bel.trans (hb.mono h.bel.size), h.tb.below hb h.tb.lt, h.pb.below hb h.pb.lt, h.eb.below hb h.eb.lt⟩
theorem RCSt.cell (h : RCSt w T p E W) {k : Nat} {r : Option Cost} (hk : E[k]? = some r) : W.cell? ⟨w.heap.size + 1 + 1, k * 4, none⟩ = some (.int .i64 (entC r).a) ∧ W.cell? ⟨w.heap.size + 1 + 1, k * 4 + 1, none⟩ = some (.int .i64 (entC r).b) ∧
    W.cell? ⟨w.heap.size + 1 + 1, k * 4 + 2, none⟩ = some (.int .i64 (entC r).c) ∧ W.cell? ⟨w.heap.size + 1 + 1, k * 4 + 3, none⟩ = some (.int .i64 (entC r).d) := by
  refine ⟨?_, ?_, ?_, ?_⟩
  · rw [h.eb.cell, List.getElem?_toArray]; exact eVals_at (j := 0) hk (by omega)
  · rw [h.eb.cell, List.getElem?_toArray]; exact eVals_at (j := 1) hk (by omega)
  · rw [h.eb.cell, List.getElem?_toArray]; exact eVals_at (j := 2) hk (by omega)
  · rw [h.eb.cell, List.getElem?_toArray]; exact eVals_at (j := 3) hk (by omega)
theorem RCSt.put (h : RCSt w T p E W) {k : Nat} (hk : k < E.length) (d : Cost) :
    RCSt w T p (E.set k (some d)) ((((W.setCell ⟨w.heap.size + 1 + 1, k * 4, none⟩ (.int .i64 d.a)).setCell ⟨w.heap.size + 1 + 1, k * 4 + 1, none⟩ (.int .i64 d.b)).setCell ⟨w.heap.size + 1 + 1, k * 4 + 2, none⟩ (.int .i64 d.c)).setCell ⟨w.heap.size + 1 + 1, k * 4 + 3, none⟩ (.int .i64 d.d)) := by
  have b := fun {B : Nat} {V : World} (L : Below B V W) (hB : B ≤ w.heap.size + 1 + 1) => (((L.setCell (p := ⟨w.heap.size + 1 + 1, k * 4, none⟩) hB (.int .i64 d.a)).setCell (p := ⟨w.heap.size + 1 + 1, k * 4 + 1, none⟩) hB (.int .i64 d.b)).setCell (p := ⟨w.heap.size + 1 + 1, k * 4 + 2, none⟩) hB (.int .i64 d.c)).setCell (p := ⟨w.heap.size + 1 + 1, k * 4 + 3, none⟩) hB (.int .i64 d.d)
  have l := b (Below.refl (w.heap.size + 1 + 1) W) (Nat.le_refl _)
  refine ⟨b h.bel (by omega), h.tb.below l (by omega), h.pb.below l (by omega), ?_⟩
  have e := (((h.eb.set_ (k * 4) (.int .i64 d.a)).set_ (k * 4 + 1) (.int .i64 d.b)).set_ (k * 4 + 2) (.int .i64 d.c)).set_ (k * 4 + 3) (.int .i64 d.d)
  rw [← eVals_set hk]
  simpa [entC] using e
theorem RCSt.inf (h : RCSt w T p E W) {k : Nat} (hk : E[k]? = some (some zeroC)) : RCSt w T p (E.set k none) (W.setCell ⟨w.heap.size + 1 + 1, k * 4, none⟩ (.int .i64 1000000000)) := by
  have l := (Below.refl (w.heap.size + 1 + 1) W).setCell (p := ⟨w.heap.size + 1 + 1, k * 4, none⟩) (Nat.le_refl _) (.int .i64 1000000000)
  refine ⟨h.bel.setCell (by simp; omega) _, h.tb.below l (by omega), h.pb.below l (by omega), ?_⟩
  have e := h.eb.set_ (k * 4) (.int .i64 1000000000)
  rw [← eVals_inf hk]
  simpa using e
end

theorem dleads_none {W : World} {n : Nat} (x : Link) (v : Int) (dk : Bool) (p : Price) (hr : leads dk p x v = none) (hx : Fit x) (hp : Cheap p) {σ : Type} {of : σ → World} (h1 : ∀ z, Below W.heap.size W (of z)) (h2 : ∀ z W', Below (of z).heap.size (of z) W' → Cls of W') (z : σ) :
    CallsIn Fence.wide n Tryd.prog 112 #[.agg #[.int .i64 x.id, .int .i64 x.fr, .int .i64 x.to, .int .i64 x.steps, .int .i64 x.paces], .int .i64 v, .bool dk, .agg #[.int .i64 p.pace, .int .i64 p.up, .int .i64 p.step]] (of z) fun e w'' => e = .returned (.tuple #[.int .i64 0, .agg #[.int .i64 0, .int .i64 0, .int .i64 0, .int .i64 0], .bool false]) ∧ Cls of w'' :=
  (callsIn_wide.2 (leads_any x v dk p (of z) hx hp)).mono fun e w'' ⟨he, hb⟩ => ⟨by rw [he, hr]; rfl, h2 z _ hb⟩
theorem dleads_some {W : World} {n : Nat} (x : Link) (v : Int) (dk : Bool) (p : Price) (v' : Int) (cx : Cost) (hr : leads dk p x v = some (v', cx)) (hx : Fit x) (hp : Cheap p) {σ : Type} {of : σ → World} (h1 : ∀ z, Below W.heap.size W (of z)) (h2 : ∀ z W', Below (of z).heap.size (of z) W' → Cls of W') (z : σ) :
    CallsIn Fence.wide n Tryd.prog 112 #[.agg #[.int .i64 x.id, .int .i64 x.fr, .int .i64 x.to, .int .i64 x.steps, .int .i64 x.paces], .int .i64 v, .bool dk, .agg #[.int .i64 p.pace, .int .i64 p.up, .int .i64 p.step]] (of z) fun e w'' => e = .returned (.tuple #[.int .i64 v', .agg #[.int .i64 cx.a, .int .i64 cx.b, .int .i64 cx.c, .int .i64 cx.d], .bool true]) ∧ Cls of w'' :=
  (callsIn_wide.2 (leads_any x v dk p (of z) hx hp)).mono fun e w'' ⟨he, hb⟩ => ⟨by rw [he, hr]; rfl, h2 z _ hb⟩

theorem placeI_at {l : List Int} {v : Int} (h : v ∈ l) : ∃ i : Nat, placeI l v = i ∧ l[i]? = some v ∧ i < l.length := by
  have hany : l.any (fun y => y == v) = true := List.any_eq_true.2 ⟨v, h, by simp⟩
  unfold placeI idx
  rw [if_pos hany]
  have hlt : l.findIdx (fun y => y == v) < l.length := List.findIdx_lt_length.2 (by simpa using hany)
  have e : l[l.findIdx (fun y => y == v)] = v := by simpa using List.findIdx_getElem (w := hlt)
  exact ⟨_, rfl, by rw [List.getElem?_eq_getElem hlt, e], hlt⟩
theorem place_cls {W : World} {n' : Nat} (A : Option Addr) (n c : Nat) (A' : Option Addr) (m d : Nat) (t : Town) (id : Int) (i : Nat) (hi : placeI t.places id = i) (hn : n ≤ maxLen) (B : Nat) (hB : B ≤ W.heap.size) (ht : IntsAt W B A n t.places) {σ : Type} {of : σ → World} (h1 : ∀ z, Below W.heap.size W (of z)) (h2 : ∀ z W', Below (of z).heap.size (of z) W' → Cls of W') (z : σ) :
    CallsIn Fence.wide n' Tryd.prog 109 #[.agg #[.slice A n c, .slice A' m d], .int .i64 id] (of z) fun e w'' => e = .returned (.int .i64 (i : Int)) ∧ Cls of w'' :=
  (callsIn_wide.2 (place_any A n c A' m d t id (of z) hn (((ht.more hB).below (h1 z)).more (h1 z).size))).mono fun e w'' ⟨he, hb⟩ => ⟨by rw [he, hi], h2 z _ hb⟩
theorem rplus_cls {W : World} {n : Nat} (x y : Cost) (hx : Small x) (hy : Small y) {σ : Type} {of : σ → World} (h1 : ∀ z, Below W.heap.size W (of z)) (h2 : ∀ z W', Below (of z).heap.size (of z) W' → Cls of W') (z : σ) :
    CallsIn Fence.wide n Tryd.prog 113 #[.agg #[.int .i64 x.a, .int .i64 x.b, .int .i64 x.c, .int .i64 x.d], .agg #[.int .i64 y.a, .int .i64 y.b, .int .i64 y.c, .int .i64 y.d]] (of z) fun e w'' => e = .returned (.agg #[.int .i64 (addC x y).a, .int .i64 (addC x y).b, .int .i64 (addC x y).c, .int .i64 (addC x y).d]) ∧ Cls of w'' :=
  (callsIn_wide.2 (rplus_any x y (of z) hx hy)).mono fun e w'' ⟨he, hb⟩ => ⟨he, h2 z _ hb⟩
theorem rless_cls {W : World} {n : Nat} (x y : Cost) (b : Bool) (hl : lessC x y = b) {σ : Type} {of : σ → World} (h1 : ∀ z, Below W.heap.size W (of z)) (h2 : ∀ z W', Below (of z).heap.size (of z) W' → Cls of W') (z : σ) :
    CallsIn Fence.wide n Tryd.prog 142 #[.agg #[.int .i64 x.a, .int .i64 x.b, .int .i64 x.c, .int .i64 x.d], .agg #[.int .i64 y.a, .int .i64 y.b, .int .i64 y.c, .int .i64 y.d]] (of z) fun e w'' => e = .returned (.bool b) ∧ Cls of w'' :=
  (callsIn_wide.2 (rless_any x y (of z))).mono fun e w'' ⟨he, hb⟩ => ⟨by rw [he, hl], h2 z _ hb⟩
theorem Small.ent {r : Option Cost} (h : ∀ d, r = some d → Little d) : Small (entC r) := by
  cases r with
  | none => exact ⟨by simp [entC, infC], by simp [entC, infC], by simp [entC, infC], by simp [entC, infC]⟩
  | some d =>
    obtain ⟨h1, h2, h3, h4⟩ := h d rfl
    exact ⟨by simp only [entC, Option.getD_some]; omega, by simp only [entC, Option.getD_some]; omega, by simp only [entC, Option.getD_some]; omega, by simp only [entC, Option.getD_some]; omega⟩

def RCostsOut (w : World) (t : Town) (dk : Bool) (p : Price) (to : Int) (n : Nat) (e : Ending) (w' : World) : Prop :=
  ∃ (A : Option Addr) (E : List (Option Cost)), e = .returned (.slice A n n) ∧ EAt w' w'.heap.size A n E ∧ Costs t dk p to E ∧ (∀ (i : Nat) d, E[i]? = some (some d) → Little d) ∧ Below w.heap.size w w'

set_option maxRecDepth 100000 in
set_option maxHeartbeats 16000000 in
theorem rcosts_in (A : Option Addr) (n c : Nat) (A' : Option Addr) (m d : Nat) (p : Price) (t : Town) (dk : Bool) (to : Int) (w : World)
    (hm : m ≤ 20) (ha : IntsAt w w.heap.size A n t.places) (ht : LinksAt w w.heap.size A' m t.links) (hp : Cheap p) (hfine : Fine t) (hfair : Fair p) (hnd : t.places.Nodup) :
    CallsIn Fence.wide 9 Tryd.prog 119 #[.agg #[.slice A n c, .slice A' m d], .int .i64 to, .bool dk, .agg #[.int .i64 p.pace, .int .i64 p.up, .int .i64 p.step]] w (RCostsOut w t dk p to n) := by
  have HT := Lib.hid ht
  have HP := Lib.hid hp
  have HA := Lib.hid ha
  have HFI := Lib.hid hfine
  have HFA := Lib.hid hfair
  have HND := Lib.hid hnd
  have HLm := Lib.hid ht.len
  have HLn := Lib.hid ha.len
  have hn9 : n ≤ 9 := by have := hfine.size; have := ha.len; omega
  obtain ⟨i0, hi, hz0, hz1, hz2⟩ := info_parts info_rcost
  clear ha ht hp hfine hfair hnd
  refine callsIn_of_wp Tryd.func119 rfl trivial ?_ rfl
  simp only [Tryd.ntmps119, List.size_toArray, List.length_cons, List.length_nil, Nat.reduceAdd, Nat.reduceSub, Array.replicate_succ, Array.replicate_zero, List.push_toArray, List.append_toArray, List.nil_append, List.cons_append]
  gi_wp2_with (first | (gi_at_make; refine wpListIn_make_all rfl _ _ 193 rfl 103 i0 _ rfl hi hz0 n rfl rfl (by rw [hz2]; omega) (by unfold maxLen; omega) ?_) | fail)
  have S0 : RCSt w #[.slice A n c, .slice A' m d] p (List.replicate n (some zeroC)) (((w.alloc (.cells #[.slice A n c, .slice A' m d] 25)).alloc (.cells #[.int .i64 p.pace, .int .i64 p.up, .int .i64 p.step] 107)).alloc (.cells (madeCells #[.int .i64 0, .int .i64 0, .int .i64 0, .int .i64 0] (n * 4)) 103)) := by
    have b := (((Below.refl w.heap.size w).alloc (Nat.le_refl _) (.cells #[.slice A n c, .slice A' m d] 25)).alloc (by simp) (.cells #[.int .i64 p.pace, .int .i64 p.up, .int .i64 p.step] 107)).alloc (by simp; omega) (.cells (madeCells #[.int .i64 0, .int .i64 0, .int .i64 0, .int .i64 0] (n * 4)) 103)
    have X := ((Blk.new w 25 #[.slice A n c, .slice A' m d]).alloc (.cells #[.int .i64 p.pace, .int .i64 p.up, .int .i64 p.step] 107)).alloc (.cells (madeCells #[.int .i64 0, .int .i64 0, .int .i64 0, .int .i64 0] (n * 4)) 103)
    have Y := (Blk.new (w.alloc (.cells #[.slice A n c, .slice A' m d] 25)) 107 #[.int .i64 p.pace, .int .i64 p.up, .int .i64 p.step]).alloc (.cells (madeCells #[.int .i64 0, .int .i64 0, .int .i64 0, .int .i64 0] (n * 4)) 103)
    have U := Blk.new ((w.alloc (.cells #[.slice A n c, .slice A' m d] 25)).alloc (.cells #[.int .i64 p.pace, .int .i64 p.up, .int .i64 p.step] 107)) 103 (madeCells #[.int .i64 0, .int .i64 0, .int .i64 0, .int .i64 0] (n * 4))
    rw [World.size_alloc] at Y
    rw [World.size_alloc, World.size_alloc, made_zero] at U
    rw [made_zero] at b X Y ⊢
    exact ⟨b, X, Y, U⟩
  have HS0 := Lib.hid S0
  clear S0
  generalize (((w.alloc (.cells #[.slice A n c, .slice A' m d] 25)).alloc (.cells #[.int .i64 p.pace, .int .i64 p.up, .int .i64 p.step] 107)).alloc (.cells (madeCells #[.int .i64 0, .int .i64 0, .int .i64 0, .int .i64 0] (n * 4)) 103)) = w0 at *
  gi_loopw [10] (fun vi wr => ∃ (k : Nat) (E : List (Option Cost)), k ≤ n ∧ vi = .int .i64 k ∧ Hid (RCSt w #[.slice A n c, .slice A' m d] p E wr ∧ E.length = n ∧ ∀ (i : Nat) v, t.places[i]? = some v → E[i]? = some (if i < k ∧ v ≠ to then none else some zeroC))) (fun vi _ => n - (intOf vi).toNat)
  case atStart =>
    refine ⟨0, _, Nat.zero_le _, rfl, Lib.hid ⟨HS0.out, List.length_replicate, fun i v hv => ?_⟩⟩
    rw [if_neg (by omega), List.getElem?_replicate, if_pos (by have := (List.getElem?_eq_some_iff.1 hv).1; have := HLn.out; omega)]
  case round =>
    obtain ⟨k, E, hk, rfl, HS⟩ := hrel
    have t0 := HS.out.1.tb.cell 0
    have t1 := HS.out.1.tb.cell 1
    by_cases hlt : k < n
    · obtain ⟨b, off, x, rfl, hb, hx, hcell⟩ := (HA.out.below HS.out.1.bel).cell hlt
      have hbl : b < wr.heap.size := Nat.lt_of_lt_of_le hb HS.out.1.bel.size
      have HX := Lib.hid hx
      have HE : Hid (E[k]? = some (some zeroC)) := Lib.hid (by rw [HS.out.2.2 k x hx, if_neg (by omega)])
      have e1 : ((k + 1 : Nat) : Int) = (k : Int) + 1 := by omega
      clear hx hb
      have c0 := (HS.out.1.cell HE.out).1
      have f0 := HS.out.1.eb.frozen (k * 4)
      by_cases hne : x = to
      · have HNE := Lib.hid hne
        subst hne
        gi_wp2
        refine ⟨⟨k + 1, E, by omega, by rw [e1], Lib.hid ⟨HS.out.1, HS.out.2.1, fun i v hv => ?_⟩⟩, by simp [intOf]; omega⟩
        rw [HS.out.2.2 i v hv]
        by_cases hik : i = k
        · subst hik
          rw [HX.out] at hv
          cases hv
          rw [if_neg (by omega), if_neg (fun h => h.2 rfl)]
        · by_cases hik2 : i < k
          · simp [hik2, show i < k + 1 by omega]
          · simp [hik2, show ¬ i < k + 1 by omega]
      · have HNE := Lib.hid hne
        have HSP := Lib.hid (HS.out.1.inf HE.out)
        gi_wp2
        refine ⟨⟨k + 1, E.set k none, by omega, by rw [e1], Lib.hid ⟨HSP.out, by rw [List.length_set]; exact HS.out.2.1, fun i v hv => ?_⟩⟩, by simp [intOf]; omega⟩
        by_cases hik : i = k
        · subst hik
          rw [HX.out] at hv
          cases hv
          rw [if_pos ⟨by omega, HNE.out⟩, List.getElem?_set_self (by rw [HS.out.2.1]; exact hlt)]
        · rw [List.getElem?_set_ne (Ne.symm hik), HS.out.2.2 i v hv]
          by_cases hik2 : i < k
          · simp [hik2, show i < k + 1 by omega]
          · simp [hik2, show ¬ i < k + 1 by omega]
    · obtain rfl : k = n := by omega
      have HE : Hid (BSt t dk p to 0 0 0 0 E) := Lib.hid (BSt.start (by rw [HS.out.2.1, HLn.out]) fun i v hv => by
        have hi' : i < k := by rw [← HLn.out]; exact (List.getElem?_eq_some_iff.1 hv).1
        rw [HS.out.2.2 i v hv]
        by_cases e : v = to
        · rw [if_neg (fun h => h.2 e), if_pos e]
        · rw [if_pos ⟨hi', e⟩, if_neg e])
      have HS1 := Lib.hid HS.out.1
      clear HS
      gi_wp2
      gi_loopg [11] 9 (fun g vc wr => ∃ (ch : Bool) (q M : Nat) (E : List (Option Cost)), vc = .bool ch ∧ (g = if ch then 9 - q else 0) ∧ (ch = true → q ≤ 8) ∧ Hid (RCSt w #[.slice A k c, .slice A' m d] p E wr ∧ BSt t dk p to q 0 0 M E ∧ M ≤ q * 180 ∧ q ≤ 9 ∧ (ch = false → Stable t dk p E k 0)))
      case atStart => exact ⟨true, 0, 0, E, rfl, rfl, fun _ => Nat.zero_le _, Lib.hid ⟨HS1.out, HE.out, Nat.zero_le _, Nat.zero_le _, fun h => by cases h⟩⟩
      case round =>
        obtain ⟨ch, q, M, E1, rfl, hg, hq8, HV⟩ := hrel
        clear HS1 HE
        cases ch with
        | false =>
          gi_wp2
          refine bodyPost_ret (v := .slice (some ⟨w.heap.size + 1 + 1, 0, none⟩) k k) (by simp [results, Tryd.results119, go_sem]) rfl ?_
          have hB := HV.out.2.1
          have hlen : E1.length = k := by rw [hB.len, HLn.out]
          refine ⟨_, E1, rfl, ⟨by rw [eVals_len, hlen], fun h0 => ⟨_, rfl, HV.out.1.eb.lt, fun j u hu => ?_⟩⟩, hB.costs (by rw [HLn.out]; exact HV.out.2.2.2.2 trivial) HFI.out, fun i d hd => hB.little HFI.out HFA.out (by have := HV.out.2.2.1; have := HV.out.2.2.2.1; omega) hd, HV.out.1.bel⟩
          have ha : ((⟨w.heap.size + 1 + 1, 0, none⟩ : Addr).add j) = ⟨w.heap.size + 1 + 1, j, none⟩ := by
            unfold Addr.add
            by_cases hj : j = 0
            · simp [hj]
            · simp [hj]
          rw [ha, HV.out.1.eb.cell, List.getElem?_toArray]
          exact hu
        | true =>
          have hq : q ≤ 8 := hq8 rfl
          have hg' : gk = 9 - q := by simpa using hg
          clear hg hq8
          gi_wp2
          gi_loopw [11, 12] (fun vc vi wr => ∃ (ch : Bool) (i M : Nat) (E : List (Option Cost)), vc = .bool ch ∧ vi = .int .i64 i ∧ i ≤ k ∧ Hid (RCSt w #[.slice A k c, .slice A' m d] p E wr ∧ BSt t dk p to q i 0 M E ∧ M ≤ q * 180 + i * 20 ∧ (ch = false → Stable t dk p E i 0) ∧ (ch = true → q ≤ 7))) (fun _ vi _ => k - (intOf vi).toNat)
          case atStart => exact ⟨false, 0, M, E1, rfl, rfl, Nat.zero_le _, Lib.hid ⟨HV.out.1, HV.out.2.1, by have := HV.out.2.2.1; omega, fun _ i' v hv j' x hx hor => by omega, fun h => by cases h⟩⟩
          case round =>
            obtain ⟨ch, i, M2, E2, rfl, rfl, hik, HW⟩ := hrel
            clear HV
            have t0 := HW.out.1.tb.cell 0
            have t1 := HW.out.1.tb.cell 1
            by_cases hlt : i < k
            · gi_wp2
              gi_loopw [11, 50] (fun vc vj wr => ∃ (ch : Bool) (j M : Nat) (E : List (Option Cost)), vc = .bool ch ∧ vj = .int .i64 j ∧ j ≤ m ∧ Hid (RCSt w #[.slice A k c, .slice A' m d] p E wr ∧ BSt t dk p to q i j M E ∧ M ≤ q * 180 + i * 20 + j ∧ (ch = false → Stable t dk p E i j) ∧ (ch = true → q ≤ 7))) (fun _ vj _ => m - (intOf vj).toNat)
              case atStart => exact ⟨ch, 0, M2, E2, rfl, rfl, Nat.zero_le _, HW⟩
              case round =>
                obtain ⟨ch, j, M3, E3, rfl, rfl, hjm, HU⟩ := hrel
                clear HW
                by_cases hjl : j < m
                · obtain ⟨b, off, x, rfl, hb, hx, l0, l1, l2, l3, l4⟩ := (HT.out.below HU.out.1.bel).cell hjl
                  have hbl : b < wr.heap.size := Nat.lt_of_lt_of_le hb HU.out.1.bel.size
                  have HX := Lib.hid hx
                  clear hx hb t0 t1
                  gi_wp2
                  have HS1 : Hid (RCSt w #[.slice A k c, .slice (some ⟨b, off, none⟩) m d] p E3 (wr.alloc (.cells #[.int .i64 x.id, .int .i64 x.fr, .int .i64 x.to, .int .i64 x.steps, .int .i64 x.paces] 45))) := Lib.hid (HU.out.1.below ((Below.refl _ _).alloc (Nat.le_refl _) _))
                  have HLB : Hid (Blk (wr.alloc (.cells #[.int .i64 x.id, .int .i64 x.fr, .int .i64 x.to, .int .i64 x.steps, .int .i64 x.paces] 45)) wr.heap.size 45 #[.int .i64 x.id, .int .i64 x.fr, .int .i64 x.to, .int .i64 x.steps, .int .i64 x.paces]) := Lib.hid (Blk.new _ _ _)
                  clear l0 l1 l2 l3 l4
                  generalize (wr.alloc (.cells #[.int .i64 x.id, .int .i64 x.fr, .int .i64 x.to, .int .i64 x.steps, .int .i64 x.paces] 45)) = w1 at *
                  have HXM : Hid (x ∈ t.links) := Lib.hid (List.mem_of_getElem? HX.out)
                  have HFit : Hid (Fit x) := Lib.hid ⟨HFI.out.steps x HXM.out, HFI.out.paces x HXM.out⟩
                  obtain ⟨b3, off3, v, rfl, hb3, hv3, _⟩ := (HA.out.below HS1.out.bel).cell hlt
                  have HV3 := Lib.hid hv3
                  have hb3l : b3 < w1.heap.size := Nat.lt_of_lt_of_le hb3 HS1.out.bel.size
                  have hlbl : wr.heap.size < w1.heap.size := HLB.out.lt
                  have htl : w.heap.size < w1.heap.size := HS1.out.tb.lt
                  have hpl : w.heap.size + 1 < w1.heap.size := HS1.out.pb.lt
                  have hel : w.heap.size + 1 + 1 < w1.heap.size := HS1.out.eb.lt
                  have HPC : Hid (∀ W, Below w1.heap.size w1 W → W.cell? ⟨b3, off3 + i, none⟩ = some (.int .i64 v)) := Lib.hid (fun W hb => by
                    obtain ⟨b4, o4, y, e, _, hy, h⟩ := ((HA.out.below HS1.out.bel).more HS1.out.bel.size |>.below hb).cell hlt
                    cases e
                    obtain rfl : y = v := Option.some.inj (hy.symm.trans HV3.out)
                    exact h)
                  have hiI : (0 : Int) ≤ (i : Int) ∧ (i : Int) < (k : Int) := by omega
                  clear hb3 hv3
                  rcases hld : leads dk p x v with _ | ⟨v', cx⟩
                  · have HLD := Lib.hid hld
                    clear hld
                    refine wpIn_region_new (AF := ?AF1) (fun b => .pointer (some ⟨b, 0, none⟩)) 103 #[.int .i64 0, .int .i64 0, .int .i64 0, .int .i64 0] [0, 1, 2, 3, 4, 5, 6, 7, 8, 9, 10, 11, 12, 14, 16] [15] 13 [true, true, true, true, true, true, true, true, true, true, true, true, true, false, true, false, true] [false, false, false, false, false, false, false, false, false, false, false, false, false, false, false, true, false] (by kernel_rfl) (by kernel_rfl) (by kernel_rfl) (by kernel_rfl) (by kernel_rfl) (below_drewN (Below.refl _ _) 1) rfl rfl rfl ?hq1 ?hf1 ?ht1
                    case hq1 =>
                      rintro σ hσ of hof hcl
                      have HOF := Lib.hid hof
                      have HCL := Lib.hid hcl
                      clear hof hcl
                      have l0 : ∀ z, (of z).cell? ⟨wr.heap.size, 0, none⟩ = some (.int .i64 x.id) := fun z => (HLB.out.below (HOF.out z) HLB.out.lt).cell 0
                      have l1 : ∀ z, (of z).cell? ⟨wr.heap.size, 1, none⟩ = some (.int .i64 x.fr) := fun z => (HLB.out.below (HOF.out z) HLB.out.lt).cell 1
                      have l2 : ∀ z, (of z).cell? ⟨wr.heap.size, 2, none⟩ = some (.int .i64 x.to) := fun z => (HLB.out.below (HOF.out z) HLB.out.lt).cell 2
                      have l3 : ∀ z, (of z).cell? ⟨wr.heap.size, 3, none⟩ = some (.int .i64 x.steps) := fun z => (HLB.out.below (HOF.out z) HLB.out.lt).cell 3
                      have l4 : ∀ z, (of z).cell? ⟨wr.heap.size, 4, none⟩ = some (.int .i64 x.paces) := fun z => (HLB.out.below (HOF.out z) HLB.out.lt).cell 4
                      have t0 : ∀ z, (of z).cell? ⟨w.heap.size, 0, none⟩ = some (.slice (some ⟨b3, off3, none⟩) k c) := fun z => (HS1.out.tb.below (HOF.out z) HS1.out.tb.lt).cell 0
                      have t1 : ∀ z, (of z).cell? ⟨w.heap.size, 1, none⟩ = some (.slice (some ⟨b, off, none⟩) m d) := fun z => (HS1.out.tb.below (HOF.out z) HS1.out.tb.lt).cell 1
                      have p0 : ∀ z, (of z).cell? ⟨w.heap.size + 1, 0, none⟩ = some (.int .i64 p.pace) := fun z => (HS1.out.pb.below (HOF.out z) HS1.out.pb.lt).cell 0
                      have p1 : ∀ z, (of z).cell? ⟨w.heap.size + 1, 1, none⟩ = some (.int .i64 p.up) := fun z => (HS1.out.pb.below (HOF.out z) HS1.out.pb.lt).cell 1
                      have p2 : ∀ z, (of z).cell? ⟨w.heap.size + 1, 2, none⟩ = some (.int .i64 p.step) := fun z => (HS1.out.pb.below (HOF.out z) HS1.out.pb.lt).cell 2
                      have v0 : ∀ z, (of z).cell? ⟨b3, off3 + i, none⟩ = some (.int .i64 v) := fun z => HPC.out _ (HOF.out z)
                      have hfw : ∀ f, Fence.wide.fn f := fun _ => trivial
                      simp only [pickB]
                      repeat (gi_big_quiet_step (exact dleads_none x v dk p HLD.out HFit.out HP.out HOF.out HCL.out _))
                      refine wpQuietIn_nil ?_
                      exact rfl
                    case hf1 =>
                      intro W hb
                      exact ⟨fun f hf => trivial, rfl⟩
                    case ht1 =>
                      intro cb W hb hbb hR
                      have HB := Lib.hid hb
                      have HBB := Lib.hid hbb
                      have HR4 := Lib.hid hR
                      have hbl1 := hR.lt
                      have c0 := hR.cell 0
                      have c1 := hR.cell 1
                      have c2 := hR.cell 2
                      have c3 := hR.cell 3
                      have d0 := hR.frozen 0
                      have d1 := hR.frozen 1
                      have d2 := hR.frozen 2
                      have d3 := hR.frozen 3
                      clear hb hbb hR
                      simp only [pickB]
                      refine wpE_cons ?_
                      gi_wp2
                      have R5 := Lib.hid (ret4 HR4.out HB.out HBB.out (.int .i64 0) (.int .i64 0) (.int .i64 0) (.int .i64 0))
                      refine ⟨R5.out.2, wpE_nil ?_⟩
                      have HW5 := Lib.hid (HS1.out.below R5.out.2)
                      generalize (((W.setCell ⟨cb, 0, none⟩ (.int .i64 0)).setCell ⟨cb, 1, none⟩ (.int .i64 0)).setCell ⟨cb, 2, none⟩ (.int .i64 0)).setCell ⟨cb, 3, none⟩ (.int .i64 0) = W5 at *
                      clear c0 c1 c2 c3 d0 d1 d2 d3
                      have hbl5 := R5.out.1.lt
                      gi_wp2
                      have e1 : ((j + 1 : Nat) : Int) = (j : Int) + 1 := by omega
                      have hno : ∀ n cx, leads dk p x v = some (n, cx) → ∀ (i2 : Nat) d, t.places[i2]? = some n → E3[i2]? = some (some d) → leE E3 i (addC cx d) := fun n cx h => by
                        rw [HLD.out] at h
                        cases h
                      exact ⟨⟨ch, j + 1, M3, E3, rfl, by rw [e1], by omega, Lib.hid ⟨HW5.out, HU.out.2.1.skip HX.out HV3.out hno HFI.out, by have := HU.out.2.2.1; omega, fun h => (HU.out.2.2.2.1 h).step HX.out HV3.out hno, HU.out.2.2.2.2⟩⟩, by simp [intOf]; omega⟩
                  · have HLD := Lib.hid hld
                    clear hld
                    refine wpIn_region_new (AF := ?AF2) (fun b => .pointer (some ⟨b, 0, none⟩)) 103 #[.int .i64 0, .int .i64 0, .int .i64 0, .int .i64 0] [0, 1, 2, 3, 4, 5, 6, 7, 8, 9, 10, 11, 12, 14, 16] [15] 13 [true, true, true, true, true, true, true, true, true, true, true, true, true, false, true, false, true] [false, false, false, false, false, false, false, false, false, false, false, false, false, false, false, true, false] (by kernel_rfl) (by kernel_rfl) (by kernel_rfl) (by kernel_rfl) (by kernel_rfl) (below_drewN (Below.refl _ _) 1) rfl rfl rfl ?hq2 ?hf2 ?ht2
                    case hq2 =>
                      rintro σ hσ of hof hcl
                      have HOF := Lib.hid hof
                      have HCL := Lib.hid hcl
                      clear hof hcl
                      have l0 : ∀ z, (of z).cell? ⟨wr.heap.size, 0, none⟩ = some (.int .i64 x.id) := fun z => (HLB.out.below (HOF.out z) HLB.out.lt).cell 0
                      have l1 : ∀ z, (of z).cell? ⟨wr.heap.size, 1, none⟩ = some (.int .i64 x.fr) := fun z => (HLB.out.below (HOF.out z) HLB.out.lt).cell 1
                      have l2 : ∀ z, (of z).cell? ⟨wr.heap.size, 2, none⟩ = some (.int .i64 x.to) := fun z => (HLB.out.below (HOF.out z) HLB.out.lt).cell 2
                      have l3 : ∀ z, (of z).cell? ⟨wr.heap.size, 3, none⟩ = some (.int .i64 x.steps) := fun z => (HLB.out.below (HOF.out z) HLB.out.lt).cell 3
                      have l4 : ∀ z, (of z).cell? ⟨wr.heap.size, 4, none⟩ = some (.int .i64 x.paces) := fun z => (HLB.out.below (HOF.out z) HLB.out.lt).cell 4
                      have t0 : ∀ z, (of z).cell? ⟨w.heap.size, 0, none⟩ = some (.slice (some ⟨b3, off3, none⟩) k c) := fun z => (HS1.out.tb.below (HOF.out z) HS1.out.tb.lt).cell 0
                      have t1 : ∀ z, (of z).cell? ⟨w.heap.size, 1, none⟩ = some (.slice (some ⟨b, off, none⟩) m d) := fun z => (HS1.out.tb.below (HOF.out z) HS1.out.tb.lt).cell 1
                      have p0 : ∀ z, (of z).cell? ⟨w.heap.size + 1, 0, none⟩ = some (.int .i64 p.pace) := fun z => (HS1.out.pb.below (HOF.out z) HS1.out.pb.lt).cell 0
                      have p1 : ∀ z, (of z).cell? ⟨w.heap.size + 1, 1, none⟩ = some (.int .i64 p.up) := fun z => (HS1.out.pb.below (HOF.out z) HS1.out.pb.lt).cell 1
                      have p2 : ∀ z, (of z).cell? ⟨w.heap.size + 1, 2, none⟩ = some (.int .i64 p.step) := fun z => (HS1.out.pb.below (HOF.out z) HS1.out.pb.lt).cell 2
                      have v0 : ∀ z, (of z).cell? ⟨b3, off3 + i, none⟩ = some (.int .i64 v) := fun z => HPC.out _ (HOF.out z)
                      have hfw : ∀ f, Fence.wide.fn f := fun _ => trivial
                      simp only [pickB]
                      repeat (gi_big_quiet_step (exact dleads_some x v dk p v' cx HLD.out HFit.out HP.out HOF.out HCL.out _))
                      refine wpQuietIn_nil ?_
                      exact rfl
                    case hf2 =>
                      intro W hb
                      exact ⟨fun f hf => trivial, rfl⟩
                    case ht2 =>
                      intro cb W hb hbb hR
                      have HB := Lib.hid hb
                      have HBB := Lib.hid hbb
                      have HR4 := Lib.hid hR
                      have hbl1 := hR.lt
                      have c0 := hR.cell 0
                      have c1 := hR.cell 1
                      have c2 := hR.cell 2
                      have c3 := hR.cell 3
                      have d0 := hR.frozen 0
                      have d1 := hR.frozen 1
                      have d2 := hR.frozen 2
                      have d3 := hR.frozen 3
                      clear hb hbb hR
                      simp only [pickB]
                      refine wpE_cons ?_
                      gi_wp2
                      have R5 := Lib.hid (ret4 HR4.out HB.out HBB.out (.int .i64 cx.a) (.int .i64 cx.b) (.int .i64 cx.c) (.int .i64 cx.d))
                      refine ⟨R5.out.2, wpE_nil ?_⟩
                      have HW5 := Lib.hid (HS1.out.below R5.out.2)
                      generalize (((W.setCell ⟨cb, 0, none⟩ (.int .i64 cx.a)).setCell ⟨cb, 1, none⟩ (.int .i64 cx.b)).setCell ⟨cb, 2, none⟩ (.int .i64 cx.c)).setCell ⟨cb, 3, none⟩ (.int .i64 cx.d) = W5 at *
                      clear c0 c1 c2 c3 d0 d1 d2 d3
                      have hbl5 := R5.out.1.lt
                      obtain ⟨i2, hpi, hi2, hi2l⟩ := placeI_at (leads_ends HXM.out HFI.out HLD.out).2
                      have HPI := Lib.hid hpi
                      have HI2 := Lib.hid hi2
                      have hi2k : i2 < k := by have := HLn.out; omega
                      obtain ⟨r, hr⟩ : ∃ r, E3[i2]? = some r := ⟨_, List.getElem?_eq_getElem (by rw [HU.out.2.1.len]; exact hi2l)⟩
                      have HR := Lib.hid hr
                      have HCX := Lib.hid (leads_cost HXM.out HFI.out HFA.out HLD.out)
                      have HLT : Hid (∀ (q : Nat) d, E3[q]? = some (some d) → Little d) := Lib.hid (fun q d hd => HU.out.2.1.little HFI.out HFA.out (by have := HU.out.2.2.1; omega) hd)
                      have HSM : Hid (Small cx ∧ Small (entC r)) := Lib.hid ⟨by
                        have h1 := HCX.out
                        exact ⟨by omega, by omega, by omega, by omega⟩, Small.ent fun d hd => HLT.out i2 d (by rw [HR.out, hd])⟩
                      have hi2I : (0 : Int) ≤ (i2 : Int) ∧ (i2 : Int) < (k : Int) := by omega
                      clear hpi hi2 hi2l hr
                      gi_wp2
                      have hcb5 : cb < W5.heap.size := hbl5
                      have htl5 : w.heap.size < W5.heap.size := HW5.out.tb.lt
                      have hpl5 : w.heap.size + 1 < W5.heap.size := HW5.out.pb.lt
                      have hel5 : w.heap.size + 1 + 1 < W5.heap.size := HW5.out.eb.lt
                      refine wpIn_region_new (AF := ?AF3) (fun b => .pointer (some ⟨b, 0, none⟩)) 103 #[.int .i64 0, .int .i64 0, .int .i64 0, .int .i64 0] [0, 1, 2, 3, 4, 5, 6, 7] [9] 8 [true, true, true, true, true, true, true, true, false, false] [false, false, false, false, false, false, false, false, false, true] (by kernel_rfl) (by kernel_rfl) (by kernel_rfl) (by kernel_rfl) (by kernel_rfl) (below_drewN (Below.refl _ _) 1) rfl rfl rfl ?hq3 ?hf3 ?ht3
                      case hq3 =>
                        rintro σ hσ of hof hcl
                        have HOF := Lib.hid hof
                        have HCL := Lib.hid hcl
                        clear hof hcl
                        have q0 : ∀ z, (of z).cell? ⟨cb, 0, none⟩ = some (.int .i64 cx.a) := fun z => (R5.out.1.below (HOF.out z) hbl5).cell 0
                        have q1 : ∀ z, (of z).cell? ⟨cb, 1, none⟩ = some (.int .i64 cx.b) := fun z => (R5.out.1.below (HOF.out z) hbl5).cell 1
                        have q2 : ∀ z, (of z).cell? ⟨cb, 2, none⟩ = some (.int .i64 cx.c) := fun z => (R5.out.1.below (HOF.out z) hbl5).cell 2
                        have q3 : ∀ z, (of z).cell? ⟨cb, 3, none⟩ = some (.int .i64 cx.d) := fun z => (R5.out.1.below (HOF.out z) hbl5).cell 3
                        have t0 : ∀ z, (of z).cell? ⟨w.heap.size, 0, none⟩ = some (.slice (some ⟨b3, off3, none⟩) k c) := fun z => (HW5.out.tb.below (HOF.out z) HW5.out.tb.lt).cell 0
                        have t1 : ∀ z, (of z).cell? ⟨w.heap.size, 1, none⟩ = some (.slice (some ⟨b, off, none⟩) m d) := fun z => (HW5.out.tb.below (HOF.out z) HW5.out.tb.lt).cell 1
                        have v0 : ∀ z, (of z).cell? ⟨w.heap.size + 1 + 1, i2 * 4, none⟩ = some (.int .i64 (entC r).a) := fun z => ((HW5.out.below (HOF.out z)).cell HR.out).1
                        have v1 : ∀ z, (of z).cell? ⟨w.heap.size + 1 + 1, i2 * 4 + 1, none⟩ = some (.int .i64 (entC r).b) := fun z => ((HW5.out.below (HOF.out z)).cell HR.out).2.1
                        have v2 : ∀ z, (of z).cell? ⟨w.heap.size + 1 + 1, i2 * 4 + 2, none⟩ = some (.int .i64 (entC r).c) := fun z => ((HW5.out.below (HOF.out z)).cell HR.out).2.2.1
                        have v3 : ∀ z, (of z).cell? ⟨w.heap.size + 1 + 1, i2 * 4 + 3, none⟩ = some (.int .i64 (entC r).d) := fun z => ((HW5.out.below (HOF.out z)).cell HR.out).2.2.2
                        have hfw : ∀ f, Fence.wide.fn f := fun _ => trivial
                        simp only [pickB]
                        repeat (gi_big_quiet_step (first | exact place_cls (some ⟨b3, off3, none⟩) k c (some ⟨b, off, none⟩) m d t v' i2 HPI.out (by unfold maxLen; omega) w.heap.size HW5.out.bel.size (HA.out.below HW5.out.bel) HOF.out HCL.out _ | exact rplus_cls cx (entC r) HSM.out.1 HSM.out.2 HOF.out HCL.out _))
                        refine wpQuietIn_nil ?_
                        exact rfl
                      case hf3 =>
                        intro W hb
                        exact ⟨fun f hf => trivial, rfl⟩
                      case ht3 =>
                        intro sb W hb hbb hR
                        have HB3 := Lib.hid hb
                        have HBB3 := Lib.hid hbb
                        have HR43 := Lib.hid hR
                        have hbl1 := hR.lt
                        have c0 := hR.cell 0
                        have c1 := hR.cell 1
                        have c2 := hR.cell 2
                        have c3 := hR.cell 3
                        have d0 := hR.frozen 0
                        have d1 := hR.frozen 1
                        have d2 := hR.frozen 2
                        have d3 := hR.frozen 3
                        clear hb hbb hR
                        simp only [pickB]
                        refine wpE_cons ?_
                        gi_wp2
                        have R6 := Lib.hid (ret4 HR43.out HB3.out HBB3.out (.int .i64 (addC cx (entC r)).a) (.int .i64 (addC cx (entC r)).b) (.int .i64 (addC cx (entC r)).c) (.int .i64 (addC cx (entC r)).d))
                        refine ⟨R6.out.2, wpE_nil ?_⟩
                        have HW6 := Lib.hid (HW5.out.below R6.out.2)
                        generalize (((W.setCell ⟨sb, 0, none⟩ (.int .i64 (addC cx (entC r)).a)).setCell ⟨sb, 1, none⟩ (.int .i64 (addC cx (entC r)).b)).setCell ⟨sb, 2, none⟩ (.int .i64 (addC cx (entC r)).c)).setCell ⟨sb, 3, none⟩ (.int .i64 (addC cx (entC r)).d) = W6 at *
                        clear c0 c1 c2 c3 d0 d1 d2 d3
                        have hbl6 := R6.out.1.lt
                        obtain ⟨s, hs⟩ : ∃ s, addC cx (entC r) = s := ⟨_, rfl⟩
                        rw [hs] at R6 ⊢
                        have HSS := Lib.hid hs
                        clear hs
                        have e1 : ((j + 1 : Nat) : Int) = (j : Int) + 1 := by omega
                        obtain ⟨r2, hr2⟩ : ∃ r2, E3[i]? = some r2 := ⟨_, List.getElem?_eq_getElem (by rw [HU.out.2.1.len, HLn.out]; exact hlt)⟩
                        have HR2 := Lib.hid hr2
                        clear hr2
                        have HUQ : Hid (∀ (i' : Nat), t.places[i']? = some v' → i' = i2) := Lib.hid (fun i' h => by
                          have hl := (List.getElem?_eq_some_iff.1 h).1
                          exact (List.getElem?_inj hl HND.out).1 (h.trans HI2.out.symm))
                        have hsbl : sb < W6.heap.size := hbl6
                        have hel6 : w.heap.size + 1 + 1 < W6.heap.size := HW6.out.eb.lt
                        cases r with
                        | none =>
                          have hsa : decide (s.a < 1000000000) = false := by
                            have h1 := HCX.out
                            have h2 : s.a = cx.a + 1000000000 := by rw [← HSS.out]; rfl
                            simp
                            omega
                          have HNO : Hid (∀ n cx, leads dk p x v = some (n, cx) → ∀ (i2 : Nat) d, t.places[i2]? = some n → E3[i2]? = some (some d) → leE E3 i (addC cx d)) := Lib.hid (fun n' cx' h i' d' hp' he' => by
                            rw [HLD.out] at h
                            cases h
                            obtain rfl := HUQ.out i' hp'
                            rw [HR.out] at he'
                            cases he')
                          gi_wp2
                          refine wpIn_region_old (AF := ?AF4) [0, 1, 2, 3, 4, 5, 6, 7, 8, 9, 10] [] [true, true, true, true, true, true, true, true, true, true, true] [false, false, false, false, false, false, false, false, false, false, false] (by kernel_rfl) (by kernel_rfl) (by kernel_rfl) (by kernel_rfl) (by kernel_rfl) (below_drewN (Below.refl _ _) 1) ?hq4 ?ht4
                          case hq4 =>
                            rintro σ hσ of hof hcl
                            have HOF := Lib.hid hof
                            have HCL := Lib.hid hcl
                            clear hof hcl
                            have q0 : ∀ z, (of z).cell? ⟨sb, 0, none⟩ = some (.int .i64 s.a) := fun z => (R6.out.1.below (HOF.out z) hbl6).cell 0
                            have hfw : ∀ f, Fence.wide.fn f := fun _ => trivial
                            simp only [pickB]
                            repeat (gi_big_quiet_step (fail))
                            refine wpQuietIn_nil ?_
                            exact rfl
                          case ht4 =>
                            intro W hb
                            have HW7 := Lib.hid (HW6.out.below hb)
                            have HS7 := Lib.hid (R6.out.1.below hb hbl6)
                            have hbl7 : sb < W.heap.size := HS7.out.lt
                            clear hb
                            simp only [pickB]
                            refine wpE_nil ?_
                            gi_wp2
                            exact ⟨⟨ch, j + 1, M3, E3, rfl, by rw [e1], by omega, Lib.hid ⟨HW7.out, HU.out.2.1.skip HX.out HV3.out HNO.out HFI.out, by have := HU.out.2.2.1; omega, fun h => (HU.out.2.2.2.1 h).step HX.out HV3.out HNO.out, HU.out.2.2.2.2⟩⟩, by simp [intOf]; omega⟩
                        | some d1 =>
                          have hsb : s.a < 1000000000 := by
                            have h1 := HCX.out
                            have h2 : s.a = cx.a + d1.a := by rw [← HSS.out]; rfl
                            have h3 := (HLT.out i2 d1 HR.out).a
                            omega
                          have hsa : decide (s.a < 1000000000) = true := by simpa using hsb
                          have HSB := Lib.hid hsb
                          clear hsb
                          cases hls : lessC s (entC r2) with
                          | false =>
                            have HLS := Lib.hid hls
                            clear hls
                            have HNO : Hid (∀ n cx, leads dk p x v = some (n, cx) → ∀ (i2 : Nat) d, t.places[i2]? = some n → E3[i2]? = some (some d) → leE E3 i (addC cx d)) := Lib.hid (fun n' cx' h i' d' hp' he' => by
                              rw [HLD.out] at h
                              cases h
                              obtain rfl := HUQ.out i' hp'
                              rw [HR.out] at he'
                              cases he'
                              have h1 := HLS.out
                              rw [lessC_cmp] at h1
                              have h2 := of_decide_eq_false h1
                              have hss : addC cx d1 = s := HSS.out
                              rw [hss]
                              cases hr2 : r2 with
                              | none =>
                                rw [hr2] at h2
                                have h3 := HSB.out
                                simp [entC, infC, cmpL, Cost.list, h3] at h2
                              | some e2 =>
                                rw [hr2] at h2
                                refine ⟨e2, by rw [HR2.out, hr2], ?_⟩
                                have h3 := cmpL_swap s.list e2.list
                                simp only [entC, Option.getD_some] at h2
                                omega)
                            gi_wp2
                            refine wpIn_region_old (AF := ?AF5) [0, 1, 2, 3, 4, 5, 6, 7, 8, 9, 10] [] [true, true, true, true, true, true, true, true, true, true, true] [false, false, false, false, false, false, false, false, false, false, false] (by kernel_rfl) (by kernel_rfl) (by kernel_rfl) (by kernel_rfl) (by kernel_rfl) (below_drewN (Below.refl _ _) 1) ?hq5 ?ht5
                            case hq5 =>
                              rintro σ hσ of hof hcl
                              have HOF := Lib.hid hof
                              have HCL := Lib.hid hcl
                              clear hof hcl
                              have q0 : ∀ z, (of z).cell? ⟨sb, 0, none⟩ = some (.int .i64 s.a) := fun z => (R6.out.1.below (HOF.out z) hbl6).cell 0
                              have q1 : ∀ z, (of z).cell? ⟨sb, 1, none⟩ = some (.int .i64 s.b) := fun z => (R6.out.1.below (HOF.out z) hbl6).cell 1
                              have q2 : ∀ z, (of z).cell? ⟨sb, 2, none⟩ = some (.int .i64 s.c) := fun z => (R6.out.1.below (HOF.out z) hbl6).cell 2
                              have q3 : ∀ z, (of z).cell? ⟨sb, 3, none⟩ = some (.int .i64 s.d) := fun z => (R6.out.1.below (HOF.out z) hbl6).cell 3
                              have v0 : ∀ z, (of z).cell? ⟨w.heap.size + 1 + 1, i * 4, none⟩ = some (.int .i64 (entC r2).a) := fun z => ((HW6.out.below (HOF.out z)).cell HR2.out).1
                              have v1 : ∀ z, (of z).cell? ⟨w.heap.size + 1 + 1, i * 4 + 1, none⟩ = some (.int .i64 (entC r2).b) := fun z => ((HW6.out.below (HOF.out z)).cell HR2.out).2.1
                              have v2 : ∀ z, (of z).cell? ⟨w.heap.size + 1 + 1, i * 4 + 2, none⟩ = some (.int .i64 (entC r2).c) := fun z => ((HW6.out.below (HOF.out z)).cell HR2.out).2.2.1
                              have v3 : ∀ z, (of z).cell? ⟨w.heap.size + 1 + 1, i * 4 + 3, none⟩ = some (.int .i64 (entC r2).d) := fun z => ((HW6.out.below (HOF.out z)).cell HR2.out).2.2.2
                              have hfw : ∀ f, Fence.wide.fn f := fun _ => trivial
                              simp only [pickB]
                              repeat (gi_big_quiet_step (exact rless_cls s (entC r2) _ HLS.out HOF.out HCL.out _))
                              refine wpQuietIn_nil ?_
                              exact rfl
                            case ht5 =>
                              intro W hb
                              have HW7 := Lib.hid (HW6.out.below hb)
                              have HS7 := Lib.hid (R6.out.1.below hb hbl6)
                              have hbl7 : sb < W.heap.size := HS7.out.lt
                              clear hb
                              simp only [pickB]
                              refine wpE_nil ?_
                              gi_wp2
                              exact ⟨⟨ch, j + 1, M3, E3, rfl, by rw [e1], by omega, Lib.hid ⟨HW7.out, HU.out.2.1.skip HX.out HV3.out HNO.out HFI.out, by have := HU.out.2.2.1; omega, fun h => (HU.out.2.2.2.1 h).step HX.out HV3.out HNO.out, HU.out.2.2.2.2⟩⟩, by simp [intOf]; omega⟩
                          | true =>
                            have HLS := Lib.hid hls
                            clear hls
                            have HLE : Hid (∀ e2, r2 = some e2 → cmpL s.list e2.list < 0) := Lib.hid (fun e2 he => by
                              have h1 := HLS.out
                              rw [lessC_cmp, he] at h1
                              exact of_decide_eq_true h1)
                            have HTK : Hid (BSt t dk p to q i (j + 1) (M3 + 1) (E3.set i (some s))) := Lib.hid (by
                              have h := HU.out.2.1.take HX.out HV3.out HLD.out HI2.out HR.out (fun e he => by
                                rw [HR2.out] at he
                                have h1 := HLE.out e (Option.some.inj he)
                                have hss : addC cx d1 = s := HSS.out
                                rw [hss]
                                omega) HND.out
                              have hss : addC cx d1 = s := HSS.out
                              rw [hss] at h
                              exact h)
                            have HQ7 : Hid (q ≤ 7) := Lib.hid (by
                              apply Decidable.byContradiction
                              intro hc
                              obtain ⟨l, hw, _⟩ := HU.out.2.1.sound i2 v' d1 HI2.out HR.out
                              have hw2 : Walk t dk p v to s (x.id :: l) := by
                                have hss : addC cx d1 = s := HSS.out
                                rw [← hss]
                                exact .cons HXM.out HLD.out hw
                              obtain ⟨e2, h1, h2⟩ := HU.out.2.1.settled (by omega) HFI.out HFA.out HV3.out hw2
                              rw [HR2.out] at h1
                              have h3 := HLE.out e2 (Option.some.inj h1)
                              have h4 := cmpL_swap s.list e2.list
                              omega)
                            gi_wp2
                            refine wpIn_region_old (AF := ?AF6) [0, 1, 2, 3, 4, 5, 6, 7, 8, 9, 10] [] [true, true, true, true, true, true, true, true, true, true, true] [false, false, false, false, false, false, false, false, false, false, false] (by kernel_rfl) (by kernel_rfl) (by kernel_rfl) (by kernel_rfl) (by kernel_rfl) (below_drewN (Below.refl _ _) 1) ?hq6 ?ht6
                            case hq6 =>
                              rintro σ hσ of hof hcl
                              have HOF := Lib.hid hof
                              have HCL := Lib.hid hcl
                              clear hof hcl
                              have q0 : ∀ z, (of z).cell? ⟨sb, 0, none⟩ = some (.int .i64 s.a) := fun z => (R6.out.1.below (HOF.out z) hbl6).cell 0
                              have q1 : ∀ z, (of z).cell? ⟨sb, 1, none⟩ = some (.int .i64 s.b) := fun z => (R6.out.1.below (HOF.out z) hbl6).cell 1
                              have q2 : ∀ z, (of z).cell? ⟨sb, 2, none⟩ = some (.int .i64 s.c) := fun z => (R6.out.1.below (HOF.out z) hbl6).cell 2
                              have q3 : ∀ z, (of z).cell? ⟨sb, 3, none⟩ = some (.int .i64 s.d) := fun z => (R6.out.1.below (HOF.out z) hbl6).cell 3
                              have v0 : ∀ z, (of z).cell? ⟨w.heap.size + 1 + 1, i * 4, none⟩ = some (.int .i64 (entC r2).a) := fun z => ((HW6.out.below (HOF.out z)).cell HR2.out).1
                              have v1 : ∀ z, (of z).cell? ⟨w.heap.size + 1 + 1, i * 4 + 1, none⟩ = some (.int .i64 (entC r2).b) := fun z => ((HW6.out.below (HOF.out z)).cell HR2.out).2.1
                              have v2 : ∀ z, (of z).cell? ⟨w.heap.size + 1 + 1, i * 4 + 2, none⟩ = some (.int .i64 (entC r2).c) := fun z => ((HW6.out.below (HOF.out z)).cell HR2.out).2.2.1
                              have v3 : ∀ z, (of z).cell? ⟨w.heap.size + 1 + 1, i * 4 + 3, none⟩ = some (.int .i64 (entC r2).d) := fun z => ((HW6.out.below (HOF.out z)).cell HR2.out).2.2.2
                              have hfw : ∀ f, Fence.wide.fn f := fun _ => trivial
                              simp only [pickB]
                              repeat (gi_big_quiet_step (exact rless_cls s (entC r2) _ HLS.out HOF.out HCL.out _))
                              refine wpQuietIn_nil ?_
                              exact rfl
                            case ht6 =>
                              intro W hb
                              have HW7 := Lib.hid (HW6.out.below hb)
                              have HS7 := Lib.hid (R6.out.1.below hb hbl6)
                              have hbl7 : sb < W.heap.size := HS7.out.lt
                              clear hb
                              simp only [pickB]
                              refine wpE_nil ?_
                              have c0 := HS7.out.cell 0
                              have c1 := HS7.out.cell 1
                              have c2 := HS7.out.cell 2
                              have c3 := HS7.out.cell 3
                              have f0 := HW7.out.eb.frozen (i * 4)
                              have f1 := HW7.out.eb.frozen (i * 4 + 1)
                              have f2 := HW7.out.eb.frozen (i * 4 + 2)
                              have f3 := HW7.out.eb.frozen (i * 4 + 3)
                              have o0 := (HW7.out.cell HR2.out).1
                              have o1 := (HW7.out.cell HR2.out).2.1
                              have o2 := (HW7.out.cell HR2.out).2.2.1
                              have o3 := (HW7.out.cell HR2.out).2.2.2
                              have HP8 := Lib.hid (HW7.out.put (k := i) (by rw [HU.out.2.1.len, HLn.out]; exact hlt) s)
                              gi_wp2
                              exact ⟨⟨true, j + 1, M3 + 1, E3.set i (some s), rfl, by rw [e1], by omega, Lib.hid ⟨HP8.out, HTK.out, by have := HU.out.2.2.1; omega, fun h => (by cases h), fun _ => HQ7.out⟩⟩, by simp [intOf]; omega⟩
                · obtain rfl : j = m := by omega
                  have e1 : ((i + 1 : Nat) : Int) = (i : Int) + 1 := by omega
                  gi_wp2
                  refine ⟨⟨ch, i + 1, M3, E3, rfl, by rw [e1], by omega, Lib.hid ⟨HU.out.1, HU.out.2.1.next (by rw [HLm.out]; exact Nat.le_refl _), by have := HU.out.2.2.1; omega, fun h => (HU.out.2.2.2.1 h).keep (by rw [HLm.out]; exact Nat.le_refl _), HU.out.2.2.2.2⟩⟩, by simp [intOf]; omega⟩
            · obtain rfl : i = k := by omega
              gi_wp2
              gi_roundg (if ch then 8 - q else 0)
              case rel => exact ⟨ch, q + 1, M2, E2, rfl, by cases ch <;> simp <;> omega, fun h => by have := HW.out.2.2.2.2 h; omega, Lib.hid ⟨HW.out.1, HW.out.2.1.round (by rw [HLn.out]; exact Nat.le_refl _), by have := HW.out.2.2.1; omega, by omega, fun h => HW.out.2.2.2.1 h⟩⟩
              case measure => rw [hg']; split <;> omega

theorem rcosts_any (A : Option Addr) (n c : Nat) (A' : Option Addr) (m d : Nat) (p : Price) (t : Town) (dk : Bool) (to : Int) (w : World)
    (hm : m ≤ 20) (ha : IntsAt w w.heap.size A n t.places) (ht : LinksAt w w.heap.size A' m t.links) (hp : Cheap p) (hfine : Fine t) (hfair : Fair p) (hnd : t.places.Nodup) :
    Calls Tryd.prog 119 #[.agg #[.slice A n c, .slice A' m d], .int .i64 to, .bool dk, .agg #[.int .i64 p.pace, .int .i64 p.up, .int .i64 p.step]] w (RCostsOut w t dk p to n) :=
  callsIn_wide.1 (rcosts_in A n c A' m d p t dk to w hm ha ht hp hfine hfair hnd)
end Go.Proofs.YtahkjagjcogeiaaDoor
/- Two costs of the answer compared. -/
namespace Go.Proofs.YtahkjagjcogeiaaDoor
open Go.RowKit Go.Shelf
theorem eql_cost (x y : Cost) (W : World) : (binOp .eql 103 (.agg #[.int .i64 x.a, .int .i64 x.b, .int .i64 x.c, .int .i64 x.d]) (.agg #[.int .i64 y.a, .int .i64 y.b, .int .i64 y.c, .int .i64 y.d])).run Tryd.prog W = .ok (.bool (decide (x = y))) W := by
  obtain ⟨i0, hi, hz0, hz1, hz2⟩ := info_parts info_int
  have hc : Tryd.prog.cellsOf 3 = 1 := by simp [Program.cellsOf, hi, hz1]
  rw [run_eql_struct, show (10000 : Nat) = 9998 + 1 + 1 from rfl, run_equalIn_array W (9998 + 1) (n := 4) (e := 3) _ _ Tryd.underlying103 hi, hc]
  have hp : ∀ (k : Nat) (a : Array Value) (z : Int), a[k]? = some (.int .i64 z) → (part 3 a k).run Tryd.prog W = .ok (.int .i64 z) W := by
    intro k a z h
    simp [part, go_sem]
    rw [h]
    rfl
  have he : ∀ (a b : Int), (Op.equalIn (9998 + 1) 3 (.int .i64 a) (.int .i64 b)).run Tryd.prog W = .ok (a == b) W := fun a b => run_equalIn_int W 9998 3 .i64 .i64 a b Tryd.underlying3
  simp only [List.range, List.range.loop, Op.eqItems, Sem.run_bind, Nat.mul_one]
  rw [hp 0 _ x.a rfl, Result.andThen_ok, hp 0 _ y.a rfl, Result.andThen_ok, he, Result.andThen_ok]
  have hxy : x = y ↔ x.a = y.a ∧ x.b = y.b ∧ x.c = y.c ∧ x.d = y.d := by
    cases x; cases y; simp
  by_cases h1 : x.a = y.a
  · rw [if_neg (by simp [h1]), Sem.run_bind, hp 1 _ x.b rfl, Result.andThen_ok, Sem.run_bind, hp 1 _ y.b rfl, Result.andThen_ok, Sem.run_bind, he, Result.andThen_ok]
    by_cases h2 : x.b = y.b
    · rw [if_neg (by simp [h2]), Sem.run_bind, hp 2 _ x.c rfl, Result.andThen_ok, Sem.run_bind, hp 2 _ y.c rfl, Result.andThen_ok, Sem.run_bind, he, Result.andThen_ok]
      by_cases h3 : x.c = y.c
      · rw [if_neg (by simp [h3]), Sem.run_bind, hp 3 _ x.d rfl, Result.andThen_ok, Sem.run_bind, hp 3 _ y.d rfl, Result.andThen_ok, Sem.run_bind, he, Result.andThen_ok]
        by_cases h4 : x.d = y.d
        · rw [if_neg (by simp [h4])]
          simp [hxy, h1, h2, h3, h4, Result.andThen]
        · rw [if_pos (by simp [h4])]
          simp [hxy, h4, Result.andThen]
      · rw [if_pos (by simp [h3])]
        simp [hxy, h3, Result.andThen]
    · rw [if_pos (by simp [h2])]
      simp [hxy, h2, Result.andThen]
  · rw [if_pos (by simp [h1])]
    simp [hxy, h1, Result.andThen]
end Go.Proofs.YtahkjagjcogeiaaDoor
