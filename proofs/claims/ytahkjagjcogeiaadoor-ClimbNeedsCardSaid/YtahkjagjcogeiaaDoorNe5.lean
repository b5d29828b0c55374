/- Part 5 of the texts of this claim, joined. -/
import Derived.Lib.AppendZeros
import Derived.Shelf.Spec.SlicesInsert
import Derived.Lib.Overlaps
import Derived.Test.YtahkjagjcogeiaaDoorNe4
/- A region that draws its order: a head whose operations are quiet but for one that lays a new block, and a tail that waits for the head. -/
namespace Go.Proofs.YtahkjagjcogeiaaDoor
open Go.RowKit
set_option linter.unusedVariables false

def dstAt (l : List Oper) (i : Nat) : Option Tmp := (l[i]?).bind (·.dst)
/-- The frame a0, the slots of the operations S set. -/
structure Desc (l : List Oper) (k : Nat) (val : Nat → Value) (a0 : Act) (S : Nat → Bool) (a : Act) : Prop where
  defers : a.defers = a0.defers
  size : a.tmps.size = a0.tmps.size
  set_ : ∀ i, i < k → S i = true → ∀ d, dstAt l i = some d → a.tmps.getD d undef = val i
  other : ∀ t, (∀ i, i < k → S i = true → dstAt l i ≠ some t) → a.tmps.getD t undef = a0.tmps.getD t undef

/-- Each operation of the head has a slot of its own. -/
def Own1 (l : List Oper) (k : Nat) : Prop := ∀ i, i < k → ∃ d, dstAt l i = some d ∧ ∀ i', i' < k → dstAt l i' = some d → i' = i

section
variable {l : List Oper} {k : Nat} {val : Nat → Value} {a0 a a' : Act} {S S' : Nat → Bool}
theorem Desc.init (hS : ∀ i, i < k → S i = false) : Desc l k val a0 S a0 := ⟨rfl, rfl, (fun i hi h => by rw [hS i hi] at h; cases h), fun _ _ => rfl⟩
theorem getD_set_same (t : Array Value) (d : Nat) (v : Value) (h : d < t.size) : (t.setIfInBounds d v).getD d undef = v := by
  rw [Array.getD_eq_getD_getElem?, Array.getElem?_setIfInBounds_self_of_lt h]; rfl
theorem getD_set_other (t : Array Value) {d e : Nat} (v : Value) (h : d ≠ e) : (t.setIfInBounds d v).getD e undef = t.getD e undef := by
  rw [Array.getD_eq_getD_getElem?, Array.getElem?_setIfInBounds_ne h, ← Array.getD_eq_getD_getElem?]
theorem Desc.step (h : Desc l k val a0 S a) (ho : Own1 l k) {i : Nat} (hi : i < k) {d : Tmp} (hd : dstAt l i = some d) (hsz : d < a0.tmps.size) : Desc l k val a0 (done S i) (a.put (some d) (val i)) := by
  refine ⟨h.defers, by simp [Act.put, h.size], fun i' hi' hS d' hd' => ?_, fun t ht => ?_⟩
  · by_cases e : i' = i
    · subst e
      rw [hd] at hd'
      cases hd'
      exact getD_set_same _ _ _ (by rw [h.size]; exact hsz)
    · have hne : d ≠ d' := by
        intro e'
        subst e'
        obtain ⟨d2, h1, h2⟩ := ho i hi
        rw [hd] at h1
        cases h1
        exact e (h2 i' hi' hd')
      rw [show (a.put (some d) (val i)).tmps = a.tmps.setIfInBounds d (val i) from rfl, getD_set_other _ _ hne]
      exact h.set_ i' hi' (by simpa [done, e] using hS) d' hd'
  · have hne : d ≠ t := fun e => ht i hi (by simp [done]) (by rw [hd, e])
    rw [show (a.put (some d) (val i)).tmps = a.tmps.setIfInBounds d (val i) from rfl, getD_set_other _ _ hne]
    refine h.other t fun i' hi' hS => ht i' hi' ?_
    unfold done
    split
    · rfl
    · exact hS
theorem Desc.agree (h : Desc l k val a0 S a) (h' : Desc l k val a0 S' a') (ho : Own1 l k) (t : Tmp) (hS : ∀ i, i < k → dstAt l i = some t → S i = S' i) : a.tmps.getD t undef = a'.tmps.getD t undef := by
  by_cases hex : ∃ i, i < k ∧ dstAt l i = some t ∧ S i = true
  · obtain ⟨i, hi, hd, hs⟩ := hex
    rw [h.set_ i hi hs t hd, h'.set_ i hi (by rw [← hS i hi hd]; exact hs) t hd]
  · have hno : ∀ i, i < k → S i = true → dstAt l i ≠ some t := fun i hi hs hd => hex ⟨i, hi, hd, hs⟩
    rw [h.other t hno, h'.other t (fun i hi hs hd => hno i hi (by rw [hS i hi hd]; exact hs) hd)]
theorem Desc.eq (h : Desc l k val a0 S a) (h' : Desc l k val a0 S a') (ho : Own1 l k) : a = a' := by
  obtain ⟨t, d⟩ := a
  obtain ⟨t', d'⟩ := a'
  have e1 : d = d' := by have := h.defers; have := h'.defers; simp_all
  have e2 : t = t' := by
    have s1 : t.size = a0.tmps.size := h.size
    have s2 : t'.size = a0.tmps.size := h'.size
    apply Array.ext (by omega)
    intro i h1 h2
    have := h.agree h' ho i (fun _ _ _ => rfl)
    simpa [h1, h2] using this
  rw [e1, e2]
theorem Desc.vals {val' : Nat → Value} (h : Desc l k val a0 S a) (hv : ∀ i, i < k → S i = true → val i = val' i) : Desc l k val' a0 S a := ⟨h.defers, h.size, fun i hi hs d hd => (h.set_ i hi hs d hd).trans (hv i hi hs), h.other⟩
theorem Desc.sets {S'' : Nat → Bool} (h : Desc l k val a0 S a) (hv : ∀ i, i < k → S i = S'' i) : Desc l k val a0 S'' a := ⟨h.defers, h.size, fun i hi hs => h.set_ i hi ((hv i hi).trans hs), fun t ht => h.other t fun i hi hs => ht i hi ((hv i hi).symm.trans hs)⟩
end

section
variable {F : Fence} {n : Nat} {P : Program} {ops : Array Oper} {o : Oper} {a a' : Act}
theorem eval_agree {x : Operand} (h : ∀ t, x = .tmp t → a.tmps.getD t undef = a'.tmps.getD t undef) : a.eval x = a'.eval x := by
  cases x with
  | tmp t => exact h t rfl
  | _ => rfl
theorem execOp_agree (hs : ∀ cs b, o.op ≠ .select cs b) (h : ∀ t ∈ o.looksAt ops, a.tmps.getD t undef = a'.tmps.getD t undef) : execOp a.eval o = execOp a'.eval o :=
  execOp_congr o hs fun x hx => eval_agree fun t e => h t (by
    subst e
    exact List.mem_append_left _ (List.mem_filterMap.2 ⟨.tmp t, by simpa using hx, rfl⟩))
theorem about_agree (w : World) (h : ∀ t ∈ o.looksAt ops, a.tmps.getD t undef = a'.tmps.getD t undef) : o.about P w a.eval = o.about P w a'.eval :=
  about_congr o w fun x hx => eval_agree fun t e => h t (by
    subst e
    exact List.mem_append_left _ (List.mem_filterMap.2 ⟨.tmp t, by simpa using hx, rfl⟩))
theorem wanted_agree (hz : a.tmps.size = a'.tmps.size) (h : ∀ t ∈ o.looksAt ops, a.tmps.getD t undef = a'.tmps.getD t undef) : Region.wanted o (yielded ops a.tmps) = Region.wanted o (yielded ops a'.tmps) := by
  unfold Region.wanted
  cases hg : o.guard with
  | none => rfl
  | some g =>
    obtain ⟨g, b⟩ := g
    have e : yielded ops a.tmps g = yielded ops a'.tmps g := by
      unfold yielded
      cases hd : (ops[g]?).bind (·.dst) with
      | none => rfl
      | some d =>
        have hm : d ∈ o.looksAt ops := by
          unfold Oper.looksAt
          rw [hg]
          exact List.mem_append_right _ (by simp [hd])
        have h1 := h d hm
        have h2 : a.tmps[d]? = a'.tmps[d]? := by
          rcases Nat.lt_or_ge d a.tmps.size with hlt | hge
          · have hlt' : d < a'.tmps.size := by rw [← hz]; exact hlt
            simpa [hlt, hlt'] using h1
          · have hge' : a'.tmps.size ≤ d := by rw [← hz]; exact hge
            rw [Array.getElem?_eq_none hge, Array.getElem?_eq_none hge']
        simp [h2]
    simp only [e]
theorem yields_agree {C : World → Prop} {v : Value} (hs : ∀ cs b, o.op ≠ .select cs b) (hz : a.tmps.size = a'.tmps.size) (h : ∀ t ∈ o.looksAt ops, a.tmps.getD t undef = a'.tmps.getD t undef) (hy : YieldsQuiet F n P ops C o v a) : YieldsQuiet F n P ops C o v a' := by
  refine hy.of_same (execOp_agree hs h).symm (wanted_agree hz h).symm (fun w => (about_agree w h).symm)

/-- Values put in, one behind another. -/
def putAll : Act → List Oper → List Value → Act
  | a, o :: l, v :: vs => putAll (a.put o.dst v) l vs
  | a, _, _ => a
theorem putAll_snoc : ∀ {l : List Oper} {vs : List Value} {a : Act} {m : Nat} {o : Oper} {v : Value}, l[m]? = some o → vs[m]? = some v → putAll a (l.take (m + 1)) (vs.take (m + 1)) = (putAll a (l.take m) (vs.take m)).put o.dst v
  | [], _, _, _, _, _, h, _ => by simp at h
  | _ :: _, [], _, _, _, _, _, h => by simp at h
  | o' :: l, v' :: vs, a, 0, o, v, h, h' => by simp at h h'; subst h h'; simp [putAll]
  | o' :: l, v' :: vs, a, m + 1, o, v, h, h' => by
    simp only [List.take_succ_cons, putAll]
    exact putAll_snoc (by simpa using h) (by simpa using h')
theorem lex_vals {C : World → Prop} {Q : Act → Prop} : ∀ (seg : List Oper) (a : Act), wpQuietIn F n P ops C Q seg a →
    ∃ vs : List Value, vs.length = seg.length ∧ Q (putAll a seg vs) ∧ ∀ i o v, seg[i]? = some o → vs[i]? = some v → YieldsQuiet F n P ops C o v (putAll a (seg.take i) (vs.take i))
  | [], a, h => ⟨[], rfl, h, fun i o v ho => by simp at ho⟩
  | o :: seg, a, h => by
    obtain ⟨ha, h2⟩ := h
    have main : ∃ v, YieldsQuiet F n P ops C o v a ∧ wpQuietIn F n P ops C Q seg (a.put o.dst v) := by
      by_cases hw : Region.wanted o (yielded ops a.tmps) = true
      · rw [if_pos hw] at h2
        obtain ⟨v, h3, h4⟩ := h2
        exact ⟨v, ⟨ha, .inl ⟨hw, h3⟩⟩, h4⟩
      · rw [if_neg hw] at h2
        exact ⟨undef, ⟨ha, .inr ⟨by simpa using hw, rfl⟩⟩, h2⟩
    obtain ⟨v, hy, h4⟩ := main
    obtain ⟨vs, h5, h6, h7⟩ := lex_vals seg _ h4
    refine ⟨v :: vs, by simp [h5], h6, fun i o' v' ho hv => ?_⟩
    cases i with
    | zero => simp at ho hv; subst ho hv; exact hy
    | succ i => exact h7 i o' v' (by simpa using ho) (by simpa using hv)
end

/-- The look of such a region. -/
def freshB (l : List Oper) (k j : Nat) : Bool :=
  decide (j < k) && decide (k < l.length) && backB l.toArray && Region.noSelect l.toArray && noDeferB l && Region.sinkB .any l.toArray k && Region.chainB .any l.toArray k &&
  ((List.range k).all fun i => (dstAt l i).isSome && ((List.range k).all fun i' => i == i' || dstAt l i != dstAt l i')) &&
  ((List.range k).all fun i => ((l[i]?).map fun o => (o.looksAt l.toArray).all fun t => (List.range k).all fun i' => dstAt l i' != some t || (i' != j && afterB l i i')).getD false)
/-- The slots are there. -/
def slotsB (l : List Oper) (k sz : Nat) : Bool := (List.range k).all fun i => ((dstAt l i).map fun d => decide (d < sz)).getD false

section
variable {F : Fence} {n : Nat} {P : Program} {Q : Exit → Act → World → Prop} {l : List Oper} {k j : Nat}
structure FreshOk (l : List Oper) (k j : Nat) : Prop where
  jk : j < k
  kl : k < l.length
  back : backB l.toArray = true
  nosel : Region.noSelect l.toArray = true
  nodef : noDeferB l = true
  sink : Region.sinkB .any l.toArray k = true
  chain : Region.chainB .any l.toArray k = true
  own : Own1 l k
  deps : ∀ i, i < k → ∀ o, l[i]? = some o → ∀ t ∈ o.looksAt l.toArray, ∀ i', i' < k → dstAt l i' = some t → i' ≠ j ∧ afterB l i i' = true
theorem freshOk (h : freshB l k j = true) : FreshOk l k j := by
  unfold freshB at h
  simp only [Bool.and_eq_true, decide_eq_true_eq] at h
  obtain ⟨⟨⟨⟨⟨⟨⟨⟨h1, h2⟩, h3⟩, h4⟩, h5⟩, h6⟩, h7⟩, h8⟩, h9⟩ := h
  refine ⟨h1, h2, h3, h4, h5, h6, h7, fun i hi => ?_, fun i hi o ho t ht i' hi' hd => ?_⟩
  · have h := List.all_eq_true.1 h8 i (List.mem_range.2 hi)
    simp only [Bool.and_eq_true] at h
    obtain ⟨d, hd⟩ := Option.isSome_iff_exists.1 h.1
    refine ⟨d, hd, fun i' hi' hd' => ?_⟩
    have h' := List.all_eq_true.1 h.2 i' (List.mem_range.2 hi')
    simp only [Bool.or_eq_true, beq_iff_eq, bne_iff_ne] at h'
    rcases h' with h' | h'
    · exact h'.symm
    · exact absurd (hd.trans hd'.symm) h'
  · have h := List.all_eq_true.1 h9 i (List.mem_range.2 hi)
    rw [ho] at h
    simp only [Option.map_some, Option.getD_some] at h
    have h' := List.all_eq_true.1 (List.all_eq_true.1 h t ht) i' (List.mem_range.2 hi')
    simp only [Bool.or_eq_true, bne_iff_ne, Bool.and_eq_true] at h'
    rcases h' with h' | h'
    · exact absurd hd h'
    · exact h'

theorem afterB_lt (hb : backB l.toArray = true) {i i' : Nat} (h : afterB l i i' = true) : i' < i := by
  unfold afterB at h
  split at h
  · rename_i o ho
    have hi := (List.getElem?_eq_some_iff.1 ho).1
    obtain ⟨e, he, h2⟩ := List.any_eq_true.1 h
    simp only [Bool.and_eq_true, beq_iff_eq] at h2
    have h3 := List.all_eq_true.1 hb i (by simpa using hi)
    rw [show l.toArray[i]? = some o by simpa using ho] at h3
    simp only [Option.map_some, Option.getD_some] at h3
    rw [Array.all_eq_true_iff_forall_mem] at h3
    have h4 := h3 e (by simpa using he)
    simp only [h2.2, Bool.not_true, Bool.false_or, decide_eq_true_eq] at h4
    omega
  · cases h

/-- The values of the head, by its last frame. -/
def valOf (l : List Oper) (AF : Act) (i : Nat) : Value := AF.tmps.getD ((dstAt l i).getD 0) undef

/-- What the walk of the head shows: each operation but j yields its value, in every class of worlds that is shut under growth. -/
theorem head_yields (ok : FreshOk l k j) {a0 AF : Act} {C : World → Prop} (hs : slotsB l k a0.tmps.size = true)
    (h : wpQuietIn F n P l.toArray C (fun a1 => wpQuietIn F n P l.toArray C (fun a2 => a2 = AF) ((l.take k).drop (j + 1)) a1) (l.take j) a0) :
    Desc l k (valOf l AF) a0 (fun i => decide (i < k) && decide (i ≠ j)) AF ∧
    ∀ i, i < k → i ≠ j → ∀ o, l[i]? = some o → ∃ LF, Desc l k (valOf l AF) a0 (fun i' => decide (i' < i) && decide (i' ≠ j)) LF ∧ YieldsQuiet F n P l.toArray C o (valOf l AF i) LF := by
  have hkl := ok.kl
  have hjk := ok.jk
  have hslot : ∀ i, i < k → ∀ d, dstAt l i = some d → d < a0.tmps.size := fun i hi d hd => by
    have := List.all_eq_true.1 hs i (List.mem_range.2 hi)
    rw [hd] at this
    simpa using this
  obtain ⟨vs1, l1, h2, y1⟩ := lex_vals _ _ h
  obtain ⟨vs2, l2, h3, y2⟩ := lex_vals _ _ h2
  have n1 : vs1.length = j := by rw [l1]; simp; omega
  have n2 : vs2.length = k - (j + 1) := by rw [l2]; simp; omega
  obtain ⟨val, hval⟩ : ∃ val : Nat → Value, val = fun i => if i < j then vs1.getD i undef else vs2.getD (i - (j + 1)) undef := ⟨_, rfl⟩
  have D1 : ∀ m, m ≤ j → Desc l k val a0 (fun i' => decide (i' < m) && decide (i' ≠ j)) (putAll a0 ((l.take j).take m) (vs1.take m)) := by
    intro m
    induction m with
    | zero => intro _; simp only [List.take_zero, putAll]; exact Desc.init (fun i _ => by simp)
    | succ m ih =>
      intro hm
      have ho : (l.take j)[m]? = some (l[m]'(by omega)) := by rw [List.getElem?_take_of_lt (by omega)]; exact List.getElem?_eq_getElem _
      have hv : vs1[m]? = some (vs1[m]'(by omega)) := List.getElem?_eq_getElem _
      rw [putAll_snoc ho hv]
      obtain ⟨d, hd, _⟩ := ok.own m (by omega)
      have hdd : (l[m]'(by omega)).dst = some d := by
        unfold dstAt at hd
        rw [List.getElem?_eq_getElem (by omega)] at hd
        exact hd
      have hvm : val m = vs1[m]'(by omega) := by rw [hval]; simp only; rw [if_pos (by omega), List.getD_eq_getElem?_getD, hv]; rfl
      rw [hdd, ← hvm]
      refine ((ih (by omega)).step ok.own (i := m) (by omega) hd (hslot m (by omega) d hd)).sets fun i hi => ?_
      unfold done
      by_cases e : i = m
      · rw [if_pos e, Bool.eq_iff_iff]; simp only [Bool.and_eq_true, decide_eq_true_eq, true_iff]; omega
      · rw [if_neg e, Bool.eq_iff_iff]; simp only [Bool.and_eq_true, decide_eq_true_eq]; omega
  have D2 : ∀ m, m ≤ k - (j + 1) → Desc l k val a0 (fun i' => decide (i' < j + 1 + m) && decide (i' ≠ j)) (putAll (putAll a0 (l.take j) vs1) (((l.take k).drop (j + 1)).take m) (vs2.take m)) := by
    intro m
    induction m with
    | zero =>
      intro _
      simp only [List.take_zero, putAll]
      have h0 := D1 j (Nat.le_refl _)
      have e1 : (l.take j).take j = l.take j := List.take_of_length_le (by rw [List.length_take]; omega)
      have e2 : vs1.take j = vs1 := List.take_of_length_le (by omega)
      rw [e1, e2] at h0
      exact h0.sets fun i hi => by rw [Bool.eq_iff_iff]; simp only [Bool.and_eq_true, decide_eq_true_eq]; omega
    | succ m ih =>
      intro hm
      have hlm : j + 1 + m < l.length := by omega
      have ho : ((l.take k).drop (j + 1))[m]? = some (l[j + 1 + m]'hlm) := by rw [List.getElem?_drop, List.getElem?_take_of_lt (by omega)]; exact List.getElem?_eq_getElem _
      have hv : vs2[m]? = some (vs2[m]'(by omega)) := List.getElem?_eq_getElem _
      rw [putAll_snoc ho hv]
      obtain ⟨d, hd, _⟩ := ok.own (j + 1 + m) (by omega)
      have hdd : (l[j + 1 + m]'hlm).dst = some d := by
        unfold dstAt at hd
        rw [List.getElem?_eq_getElem hlm] at hd
        exact hd
      have hvm : val (j + 1 + m) = vs2[m]'(by omega) := by rw [hval]; simp only; rw [if_neg (by omega), show j + 1 + m - (j + 1) = m by omega, List.getD_eq_getElem?_getD, hv]; rfl
      rw [hdd, ← hvm]
      refine ((ih (by omega)).step ok.own (i := j + 1 + m) (by omega) hd (hslot _ (by omega) d hd)).sets fun i hi => ?_
      unfold done
      by_cases e : i = j + 1 + m
      · rw [if_pos e, Bool.eq_iff_iff]; simp only [Bool.and_eq_true, decide_eq_true_eq, true_iff]; omega
      · rw [if_neg e, Bool.eq_iff_iff]; simp only [Bool.and_eq_true, decide_eq_true_eq]; omega
  have DF : Desc l k val a0 (fun i => decide (i < k) && decide (i ≠ j)) AF := by
    have h0 := D2 (k - (j + 1)) (Nat.le_refl _)
    have e1 : ((l.take k).drop (j + 1)).take (k - (j + 1)) = (l.take k).drop (j + 1) := List.take_of_length_le (by rw [List.length_drop, List.length_take]; omega)
    have e2 : vs2.take (k - (j + 1)) = vs2 := List.take_of_length_le (by omega)
    rw [e1, e2, h3] at h0
    exact h0.sets fun i hi => by rw [Bool.eq_iff_iff]; simp only [Bool.and_eq_true, decide_eq_true_eq]; omega
  have hvv : ∀ i, i < k → i ≠ j → val i = valOf l AF i := fun i hi hij => by
    obtain ⟨d, hd, _⟩ := ok.own i hi
    unfold valOf
    rw [hd]
    exact (DF.set_ i hi (by simp [hi, hij]) d hd).symm
  refine ⟨DF.vals fun i hi hs => hvv i hi (by simpa using (Bool.and_eq_true_iff.1 hs).2), fun i hi hij o ho => ?_⟩
  rcases Nat.lt_or_ge i j with hlt | hge
  · have hv : vs1[i]? = some (vs1[i]'(by omega)) := List.getElem?_eq_getElem _
    have hy := y1 i o _ (by rw [List.getElem?_take_of_lt hlt]; exact ho) hv
    have hvm : val i = vs1[i]'(by omega) := by rw [hval]; simp only; rw [if_pos hlt, List.getD_eq_getElem?_getD, hv]; rfl
    rw [← hvm, hvv i hi hij] at hy
    exact ⟨_, (D1 i (by omega)).vals fun i' hi' hs => hvv i' hi' (by simpa using (Bool.and_eq_true_iff.1 hs).2), hy⟩
  · obtain ⟨m, rfl⟩ : ∃ m, i = j + 1 + m := ⟨i - (j + 1), by omega⟩
    have hv : vs2[m]? = some (vs2[m]'(by omega)) := List.getElem?_eq_getElem _
    have hy := y2 m o _ (by rw [List.getElem?_drop, List.getElem?_take_of_lt (by omega)]; exact ho) hv
    have hvm : val (j + 1 + m) = vs2[m]'(by omega) := by rw [hval]; simp only; rw [if_neg (by omega), show j + 1 + m - (j + 1) = m by omega, List.getD_eq_getElem?_getD, hv]; rfl
    rw [← hvm, hvv _ hi hij] at hy
    exact ⟨_, (D2 m (by omega)).vals fun i' hi' hs => hvv i' hi' (by simpa using (Bool.and_eq_true_iff.1 hs).2), hy⟩

theorem ready_nil_all {ops : Array Oper} {listed : Array Bool} (hb : backB ops = true) (hsz : listed.size = ops.size) (hr : Region.ready .any ops listed = []) : ∀ i, i < ops.size → listed.getD i false = true := by
  refine dag_of_back hb (fun i => listed.getD i false) ?_
  intro i o ho hu
  have hlt : i < listed.size := by rw [hsz]; exact (Array.getElem?_eq_some_iff.1 ho).1
  have hu' : listed.getD i true = false := getD_in hlt hu
  have hno : ¬ i ∈ Region.ready .any ops listed := by rw [hr]; simp
  rw [mem_ready] at hno
  have h2 : ¬ ∀ e ∈ o.after, Region.binds .any e = true → listed.getD e.on false = true := fun h => hno ⟨hu', o, ho, h⟩
  refine Classical.byContradiction fun hc => h2 fun e he hbnd => ?_
  cases hc' : listed.getD e.on false with
  | true => rfl
  | false => exact absurd ⟨e, he, hbnd, hc'⟩ hc

/-- The first of a list of operations. -/
theorem wpListIn_head {ops : Array Oper} {o : Oper} {rest : List Oper} {a : Act} {w : World} {K : Act → World → Prop} (h : wpListIn F n P ops Q (o :: rest) a w) (hK : ∀ a' w', wpListIn F n P ops Q rest a' w' → K a' w') : wpListIn F n P ops (Exit.then K Q) [o] a w := by
  simp only [wpListIn] at h ⊢
  split
  · rename_i hw
    rw [if_pos hw] at h
    unfold Oper.wpIn at h ⊢
    refine ⟨h.1, ?_⟩
    have h4 := h.2
    generalize (o.semAt F.round a.eval).run P w = r at h4 ⊢
    cases r with
    | ok x w' =>
      cases x <;> simp only [Oper.uponIn, Exit.then] at h4 ⊢ <;>
        first
          | exact hK _ _ h4
          | exact ⟨h4.1, CallsIn.mono h4.2 (fun e w'' he => by cases e <;> first | exact hK _ _ he | exact he)⟩
          | exact ⟨h4.1, RoundIn.mono h4.2 (fun e w'' he => by cases e <;> first | exact hK _ _ he | exact he)⟩
          | exact ⟨h4.1, RowsIn.mono h4.2 (fun v w'' he => hK _ _ he)⟩
          | exact h4
    | halt x w' => cases x <;> simp only [Oper.uponIn, Exit.then] at h4 ⊢ <;> exact h4
  · rename_i hw
    rw [if_neg hw] at h
    exact ⟨h.1, hK _ _ h.2⟩

/-- Whether the new block is there yet. -/
def FCls (V : World) (ty : TypeId) (cs : Array Value) (ob : Option Nat) (W : World) : Prop := Below V.heap.size V W ∧ ∀ b, ob = some b → V.heap.size ≤ b ∧ Blk W b ty cs
theorem FCls.grow {V : World} {ty : TypeId} {cs : Array Value} {ob : Option Nat} {W W' : World} (h : FCls V ty cs ob W) (hb : Below W.heap.size W W') : FCls V ty cs ob W' :=
  ⟨h.1.trans (hb.mono h.1.size), fun b e => ⟨(h.2 b e).1, (h.2 b e).2.below hb (h.2 b e).2.lt⟩⟩

/-- THE LAW: a head whose operations are quiet, but for number j, which lays a new block; then a tail. -/
theorem wpIn_region_fresh {id : Nat} {a0 AF : Act} {w V : World} {oj : Oper} {dj : Tmp} (fv : Nat → Value) (ty : TypeId) (cs : Array Value) (k j : Nat)
    (hm : P.follows .mixedOrders = true) (hB : freshB l k j = true) (hs : slotsB l k a0.tmps.size = true) (hoj : l[j]? = some oj) (hdj : oj.dst = some dj) (hgj : oj.guard = none) (hV : Below V.heap.size V w.drew)
    (hq : ∀ C : World → Prop, (∀ W, C W → Below V.heap.size V W) → (∀ W W', C W → Below W.heap.size W W' → C W') → wpQuietIn F n P l.toArray C (fun a1 => wpQuietIn F n P l.toArray C (fun a2 => a2 = AF) ((l.take k).drop (j + 1)) a1) (l.take j) a0)
    (hfresh : ∀ W, Below V.heap.size V W → (∀ f, oj.about P W AF.eval = some f → F.fn f) ∧ (execOp AF.eval oj).run P W = .ok (.value (fv W.heap.size)) (W.alloc (.cells cs ty)))
    (htail : ∀ b W, Below V.heap.size V W → V.heap.size ≤ b → Blk W b ty cs → wpListIn F n P l.toArray Q (l.drop k) (AF.put (some dj) (fv b)) W) : (Code.region id l.toArray true).wpIn F n P Q a0 w := by
  have ok := freshOk hB
  have hnd : noDefer l.toArray := noDefer_of ok.nodef
  have hkl := ok.kl
  have hjk := ok.jk
  have hslot : ∀ i, i < k → ∀ d, dstAt l i = some d → d < a0.tmps.size := fun i hi d hd => by
    have := List.all_eq_true.1 hs i (List.mem_range.2 hi)
    rw [hd] at this
    simpa using this
  have hdj' : dstAt l j = some dj := by unfold dstAt; rw [hoj]; exact hdj
  have hyl : ∀ C : World → Prop, (∀ W, C W → Below V.heap.size V W) → (∀ W W', C W → Below W.heap.size W W' → C W') → _ := fun C h1 h2 => head_yields ok hs (hq C h1 h2)
  have DF := (hyl (fun W => Below V.heap.size V W) (fun _ h => h) (fun W W' h k => h.trans (k.mono h.size))).1
  let vb : Option Nat → Nat → Value := fun ob i => if i = j then fv (ob.getD 0) else valOf l AF i
  let St : Array Bool → Act → World → Prop := fun listed a W =>
    (HeadInv .any l.toArray k listed ∧ (∃ i, i < k ∧ listed.getD i false = false) ∧ ∃ ob : Option Nat, listed.getD j false = ob.isSome ∧ FCls V ty cs ob W ∧ Desc l k (vb ob) a0 (fun i => listed.getD i false) a) ∨
    ∃ m, k ≤ m ∧ m ≤ l.length ∧ listed.size = l.length ∧ (∀ i, i < m → listed.getD i false = true) ∧ (∀ t, m ≤ t → t < l.length → listed.getD t true = false) ∧ wpListIn F n P l.toArray Q (l.drop m) a W
  -- where the head goes on, or is over
  have hgo : ∀ (listed : Array Bool) (a : Act) (W : World) (ob : Option Nat), HeadInv .any l.toArray k listed → listed.getD j false = ob.isSome → FCls V ty cs ob W → Desc l k (vb ob) a0 (fun i => listed.getD i false) a → St listed a W := by
    intro listed a W ob inv hj hc hD
    by_cases hex : ∃ i, i < k ∧ listed.getD i false = false
    · exact .inl ⟨inv, hex, ob, hj, hc, hD⟩
    · have hall : ∀ i, i < k → listed.getD i false = true := fun i hi => by
        cases h : listed.getD i false with
        | true => rfl
        | false => exact absurd ⟨i, hi, h⟩ hex
      rw [hall j hjk] at hj
      obtain ⟨b, rfl⟩ := Option.isSome_iff_exists.1 hj.symm
      obtain ⟨h1, h2⟩ := hc
      obtain ⟨h3, h4⟩ := h2 b rfl
      have hT : Desc l k (vb (some b)) a0 (done (fun i => decide (i < k) && decide (i ≠ j)) j) (AF.put (some dj) (vb (some b) j)) :=
        (DF.vals (val' := vb (some b)) fun i hi hS => by
          have : i ≠ j := by simpa using (Bool.and_eq_true_iff.1 hS).2
          show valOf l AF i = if i = j then _ else _
          rw [if_neg this]).step ok.own hjk hdj' (hslot j hjk dj hdj')
      have hEq : a = AF.put (some dj) (vb (some b) j) := hD.eq (hT.sets fun i hi => by
        rw [hall i hi]
        unfold done
        split
        · rfl
        · rename_i hne; simp [hi, hne]) ok.own
      have hvj : vb (some b) j = fv b := by show (if j = j then _ else _) = _; rw [if_pos rfl]; rfl
      rw [hvj] at hEq
      subst hEq
      exact .inr ⟨k, Nat.le_refl _, by omega, by rw [inv.size]; simp, hall, fun t ht hlt => inv.tail t ht (by simpa using hlt), htail b W h1 h3 h4⟩
  refine wpIn_region_inv hm St ?_ ?_ ?_ ?_
  · rintro listed a W (⟨inv, _⟩ | ⟨m, _, _, h, _⟩)
    · exact inv.size
    · simpa using h
  · refine .inl ⟨⟨by simp, fun j oj _ hl => (by rw [getD_replicate_false] at hl; cases hl), fun t _ ht => getD_in (by simpa using ht) (getD_replicate_false _ _)⟩, ⟨j, hjk, getD_replicate_false _ _⟩, none, getD_replicate_false _ _, ⟨hV, fun b e => by cases e⟩, Desc.init fun i _ => getD_replicate_false _ _⟩
  · rintro listed a W i o ho hu hd (⟨inv, ⟨i0, hi0, hf0⟩, ob, hj, hc, hD⟩ | ⟨m, hkm, hml, hsz, hall, hrest, hwp⟩)
    · have hiN : i < l.toArray.size := (Array.getElem?_eq_some_iff.1 ho).1
      have hmem : i ∈ Region.ready .any l.toArray listed := mem_ready.2 ⟨hu, o, ho, hd⟩
      have hik : i < k := by
        rcases Nat.lt_or_ge i k with h | h
        · exact h
        · exact absurd hmem (tail_waits ok.sink ok.chain (by simpa using hkl) inv _ i0 rfl hi0 (getD_in (by rw [inv.size]; simp; omega) hf0) i h)
      have inv' := inv.set hmem hik
      have hol : l[i]? = some o := by simpa using ho
      have hwait : ∀ i', afterB l i i' = true → listed.getD i' false = true := fun i' h => by
        unfold afterB at h
        rw [hol] at h
        obtain ⟨e, he, h2⟩ := List.any_eq_true.1 h
        simp only [Bool.and_eq_true, beq_iff_eq] at h2
        rw [← h2.1]
        exact hd e (by simpa using he) h2.2
      have hset : ∀ i', (listed.setIfInBounds i true).getD i' false = done (fun i => listed.getD i false) i i' := fun i' => by
        unfold done
        by_cases e : i' = i
        · subst e
          rw [if_pos rfl, Array.getD_eq_getD_getElem?, Array.getElem?_setIfInBounds]
          have : i' < listed.size := by rw [inv.size]; exact hiN
          simp [this]
        · rw [if_neg e, getD_set_ne false (Ne.symm e)]
      have hfalse : listed.getD i false = false := getD_both hu
      by_cases e : i = j
      · subst e
        obtain rfl : oj = o := Option.some.inj (hoj.symm.trans hol)
        have hag : ∀ t ∈ oj.looksAt l.toArray, a.tmps.getD t undef = AF.tmps.getD t undef := fun t ht => by
          have hDF' : Desc l k (vb ob) a0 (fun i' => decide (i' < k) && decide (i' ≠ i)) AF := DF.vals fun i' hi' hS => by
            have : i' ≠ i := by simpa using (Bool.and_eq_true_iff.1 hS).2
            show valOf l AF i' = if i' = i then _ else _
            rw [if_neg this]
          refine hD.agree hDF' ok.own t fun i' hi' hd' => ?_
          obtain ⟨h1, h2⟩ := ok.deps i hik oj hol t ht i' hi' hd'
          rw [hwait i' h2]
          simp [hi', h1]
        obtain ⟨hab, hrun⟩ := hfresh W hc.1
        have hsel : ∀ cs b, oj.op ≠ .select cs b := fun cs b => Region.noSelect_spec ok.nosel i oj cs b ho
        have hwant : Region.wanted oj (yielded l.toArray a.tmps) = true := by unfold Region.wanted; rw [hgj]
        simp only [wpListIn]
        rw [if_pos hwant]
        unfold Oper.wpIn
        refine ⟨fun f hf => hab f (by rw [← about_agree W hag]; exact hf), ?_⟩
        rw [Oper.semAt_eq _ _ _ (hnd i oj ho), execOp_agree hsel hag, hrun]
        show Exit.then _ Q .normal _ _
        have hob : ob = none := by
          rw [hfalse] at hj
          cases ob with
          | none => rfl
          | some b => cases hj
        subst hob
        refine hgo _ _ _ (some W.heap.size) inv' (by rw [hset]; simp [done]) ⟨hc.1.alloc hc.1.size _, fun b hb => by cases hb; exact ⟨hc.1.size, Blk.new W _ _⟩⟩ ?_
        have hD' : Desc l k (vb (some W.heap.size)) a0 (fun i => listed.getD i false) a := hD.vals fun i' hi' hS => by
          have hne : i' ≠ i := fun e => by subst e; rw [hfalse] at hS; cases hS
          show (if i' = i then _ else _) = if i' = i then _ else _
          rw [if_neg hne, if_neg hne]
        have h5 := hD'.step ok.own hik hdj' (hslot i hik dj hdj')
        have hvj : vb (some W.heap.size) i = fv W.heap.size := by show (if i = i then _ else _) = _; rw [if_pos rfl]; rfl
        rw [hvj] at h5
        rw [hdj]
        exact h5.sets fun i' _ => (hset i').symm
      · have hy := (hyl (FCls V ty cs ob) (fun _ h => h.1) (fun W W' h k => h.grow k)).2 i hik e o hol
        obtain ⟨LF, hLF, hyq⟩ := hy
        have hsel : ∀ cs b, o.op ≠ .select cs b := fun cs b => Region.noSelect_spec ok.nosel i o cs b ho
        have hLF' : Desc l k (vb ob) a0 (fun i' => decide (i' < i) && decide (i' ≠ j)) LF := hLF.vals fun i' hi' hS => by
          have : i' ≠ j := by simpa using (Bool.and_eq_true_iff.1 hS).2
          show valOf l AF i' = if i' = j then _ else _
          rw [if_neg this]
        have hag : ∀ t ∈ o.looksAt l.toArray, LF.tmps.getD t undef = a.tmps.getD t undef := fun t ht => by
          refine hLF'.agree hD ok.own t fun i' hi' hd' => ?_
          obtain ⟨h1, h2⟩ := ok.deps i hik o hol t ht i' hi' hd'
          have h3 := afterB_lt ok.back h2
          rw [hwait i' h2]
          simp [h3, h1]
        have hya := yields_agree hsel (hLF'.size.trans hD.size.symm) hag hyq
        obtain ⟨d, hdi, _⟩ := ok.own i hik
        have hdo : o.dst = some d := by unfold dstAt at hdi; rw [hol] at hdi; exact hdi
        have hvi : vb ob i = valOf l AF i := by show (if i = j then _ else _) = _; rw [if_neg e]
        have hnext : ∀ W', FCls V ty cs ob W' → St (listed.setIfInBounds i true) (a.put o.dst (valOf l AF i)) W' := fun W' hW' => by
          refine hgo _ _ _ ob inv' (by rw [hset]; unfold done; rw [if_neg (Ne.symm e)]; exact hj) hW' ?_
          have h5 := hD.step ok.own hik hdi (hslot i hik d hdi)
          rw [hvi] at h5
          rw [hdo]
          exact h5.sets fun i' _ => (hset i').symm
        simp only [wpListIn]
        rcases hya.2 with ⟨hw, hv⟩ | ⟨hw, hv⟩
        · rw [if_pos hw]
          exact wpIn_of_quiet' (K := fun a' => a' = a.put o.dst (valOf l AF i)) (hnd i o ho) hc (fun a' W' hW' ha' => by subst ha'; exact hnext W' hW') hya.1 ⟨_, hv, rfl⟩
        · rw [if_neg (by rw [hw]; simp)]
          refine ⟨hya.1 W hc, ?_⟩
          have := hnext W hc
          rw [hv] at this
          exact this
    · have hiN : i < l.length := by simpa using (Array.getElem?_eq_some_iff.1 ho).1
      have hfalse : listed.getD i false = false := getD_both hu
      have him : m ≤ i := by
        rcases Nat.lt_or_ge i m with h | h
        · rw [hall i h] at hfalse; cases hfalse
        · exact h
      have hie : i = m := by
        rcases Nat.eq_or_lt_of_le him with h | h
        · exact h.symm
        · exfalso
          have h1 := List.all_eq_true.1 ok.chain i (List.mem_range.2 (by simpa using hiN))
          simp only [Bool.or_eq_true, decide_eq_true_eq] at h1
          rcases h1 with h1 | h1
          · omega
          · obtain ⟨o', ho', e, he, hb, hon⟩ := Region.waitsFor_spec h1
            obtain rfl : o' = o := Option.some.inj (ho'.symm.trans ho)
            have h2 := hd e he hb
            rw [hon, getD_both (hrest (i - 1) (by omega) (by omega))] at h2
            cases h2
      subst hie
      have hdrop : l.drop i = o :: l.drop (i + 1) := by
        obtain ⟨h1, h2⟩ := List.getElem?_eq_some_iff.1 (show l[i]? = some o by simpa using ho)
        rw [List.drop_eq_getElem_cons h1, h2]
      rw [hdrop] at hwp
      refine wpListIn_head hwp fun a' W' h' => .inr ⟨i + 1, by omega, by omega, by simpa using hsz, fun i' hi' => ?_, fun t ht hlt => ?_, h'⟩
      · by_cases e : i' = i
        · subst e
          have : i' < listed.size := by omega
          rw [Array.getD_eq_getD_getElem?, Array.getElem?_setIfInBounds]
          simp [this]
        · rw [getD_set_ne false (Ne.symm e)]
          exact hall i' (by omega)
      · rw [getD_set_ne true (by omega)]
        exact hrest t (by omega) hlt
  · rintro listed a W hr (⟨inv, ⟨i0, hi0, hf0⟩, _⟩ | ⟨m, hkm, hml, hsz, hall, hrest, hwp⟩)
    · have := ready_nil_all ok.back inv.size hr i0 (by simp; omega)
      rw [this] at hf0
      cases hf0
    · have hmN : m = l.length := by
        rcases Nat.eq_or_lt_of_le hml with h | h
        · exact h
        · exfalso
          have h1 := ready_nil_all ok.back (by simpa using hsz) hr m (by simpa using h)
          rw [getD_both (hrest m (Nat.le_refl _) h)] at h1
          cases h1
      subst hmN
      rw [List.drop_length] at hwp
      exact hwp
end
end Go.Proofs.YtahkjagjcogeiaaDoor
/- A region that draws its order: quiet operations, one that lays a new block (or none), and effects one behind the other; quiet ones may come late. -/
namespace Go.Proofs.YtahkjagjcogeiaaDoor
open Go.RowKit
set_option linter.unusedVariables false

def pick (l : List Oper) (qs : List Nat) : List Oper := qs.filterMap fun i => l[i]?
def upS (l : List Nat) : Bool := match l with
  | [] => true
  | x :: r => r.all (fun y => decide (x < y)) && upS r
theorem upS_pair : ∀ {l : List Nat}, upS l = true → l.Pairwise (· < ·)
  | [], _ => .nil
  | x :: r, h => by
    simp only [upS, Bool.and_eq_true] at h
    exact .cons (fun y hy => by simpa using List.all_eq_true.1 h.1 y hy) (upS_pair h.2)

/-- Operations that make no call. -/
def floatB (o : Oper) : Bool := match o.op with
  | .move _ | .assign _ | .pick _ _ _ | .build _ _ | .load _ _ | .binOp _ _ _ _ _ | .unOp _ _ _ | .fieldAddr _ _ _ | .field _ _ _ | .indexAddr _ _ _ | .index _ _ _ | .extract _ _ => true
  | _ => false
theorem value_noenter {P : Program} {w w' : World} {s : Sem Value} {f : FuncId} {args : Array Value} (h : ((do pure (Next.value (← s))) : Sem Next).run P w = .ok (.enter f args) w') : False := by
  rw [Sem.run_bind] at h
  cases hs : s.run P w with
  | ok x w2 => rw [hs] at h; simp [Result.andThen, Sem.run_pure] at h
  | halt x w2 => rw [hs] at h; simp [Result.andThen] at h
theorem float_noenter {P : Program} {ρ : Operand → Value} {o : Oper} {w w' : World} {f : FuncId} {args : Array Value} (hf : floatB o = true) (h : (execOp ρ o).run P w = .ok (.enter f args) w') : False := by
  obtain ⟨dst, op, type, pos, after, guard⟩ := o
  unfold floatB at hf
  cases op <;> simp only at hf <;> first | cases hf | skip
  all_goals
    simp only [execOp] at h
    first
      | exact value_noenter h
      | (simp [Sem.run_pure] at h; done)
      | (rw [Sem.run_bind] at h
         generalize (asBool _).run P w = r at h
         cases r <;> simp [Result.andThen, Sem.run_pure] at h)

/-- The look of such a region: quiet ones qs, effects es, the new block's j (beyond the end: none). -/
def mixB (l : List Oper) (qs es : List Nat) (j : Nat) : Bool :=
  upS qs && upS es && backB l.toArray && Region.noSelect l.toArray && noDeferB l &&
  (qs.all fun i => decide (i < l.length) && i != j && !es.contains i) && (es.all fun i => decide (i < l.length) && i != j) &&
  ((List.range l.length).all fun i => qs.contains i || es.contains i || i == j) &&
  ((List.range l.length).all fun i => es.contains i || ((dstAt l i).isSome && ((List.range l.length).all fun i' => i == i' || dstAt l i != dstAt l i'))) &&
  ((List.range l.length).all fun i => ((l[i]?).map fun o => (o.looksAt l.toArray).all fun t => (List.range l.length).all fun i' => dstAt l i' != some t || (afterB l i i' && (es.contains i || qs.contains i'))).getD false) &&
  (es.all fun e => es.all fun e' => decide (e ≤ e') || afterB l e e') && (es.all fun e => decide (l.length ≤ j) || afterB l e j) &&
  (qs.all fun i => ((l[i]?).map floatB).getD false || es.all fun e => afterB l e i) && (es.all fun e => (dstAt l e).isNone)
structure MixOk (l : List Oper) (qs es : List Nat) (j : Nat) : Prop where
  up : qs.Pairwise (· < ·)
  upE : es.Pairwise (· < ·)
  back : backB l.toArray = true
  nosel : Region.noSelect l.toArray = true
  nodef : noDeferB l = true
  q : ∀ i ∈ qs, i < l.length ∧ i ≠ j ∧ i ∉ es
  e : ∀ i ∈ es, i < l.length ∧ i ≠ j
  part : ∀ i, i < l.length → i ∈ qs ∨ i ∈ es ∨ i = j
  own : ∀ i, i < l.length → i ∉ es → ∃ d, dstAt l i = some d ∧ ∀ i', i' < l.length → dstAt l i' = some d → i' = i
  deps : ∀ i, i < l.length → ∀ o, l[i]? = some o → ∀ t ∈ o.looksAt l.toArray, ∀ i', i' < l.length → dstAt l i' = some t → afterB l i i' = true ∧ (i ∉ es → i' ∈ qs)
  chain : ∀ e ∈ es, ∀ e' ∈ es, e' < e → afterB l e e' = true
  fresh : ∀ e ∈ es, j < l.length → afterB l e j = true
  floats : ∀ i ∈ qs, ∀ o, l[i]? = some o → floatB o = true ∨ ∀ e ∈ es, afterB l e i = true
  edst : ∀ e ∈ es, dstAt l e = none
theorem mixOk {l : List Oper} {qs es : List Nat} {j : Nat} (h : mixB l qs es j = true) : MixOk l qs es j := by
  unfold mixB at h
  simp only [Bool.and_eq_true] at h
  obtain ⟨⟨⟨⟨⟨⟨⟨⟨⟨⟨⟨⟨⟨h1, h2⟩, h3⟩, h4⟩, h5⟩, h6⟩, h7⟩, h8⟩, h9⟩, h10⟩, h11⟩, h12⟩, h13⟩, h14⟩ := h
  refine ⟨upS_pair h1, upS_pair h2, h3, h4, h5, fun i hi => ?_, fun i hi => ?_, fun i hi => ?_, fun i hi hne => ?_, fun i hi o ho t ht i' hi' hd => ?_, fun e he e' he' hlt => ?_, fun e he hj => ?_, fun i hi o ho => ?_, fun e he => ?_⟩
  · have := List.all_eq_true.1 h6 i hi
    simp only [Bool.and_eq_true, decide_eq_true_eq, bne_iff_ne, Bool.not_eq_true', List.contains_eq_mem, decide_eq_false_iff_not] at this
    exact ⟨this.1.1, this.1.2, this.2⟩
  · have := List.all_eq_true.1 h7 i hi
    simp only [Bool.and_eq_true, decide_eq_true_eq, bne_iff_ne] at this
    exact this
  · have := List.all_eq_true.1 h8 i (List.mem_range.2 hi)
    simp only [Bool.or_eq_true, List.contains_eq_mem, decide_eq_true_eq, beq_iff_eq] at this
    rcases this with (h | h) | h
    · exact .inl h
    · exact .inr (.inl h)
    · exact .inr (.inr h)
  · have h := List.all_eq_true.1 h9 i (List.mem_range.2 hi)
    simp only [Bool.or_eq_true, List.contains_eq_mem, decide_eq_true_eq] at h
    rcases h with h | h
    · exact absurd h hne
    · simp only [Bool.and_eq_true] at h
      obtain ⟨d, hd⟩ := Option.isSome_iff_exists.1 h.1
      refine ⟨d, hd, fun i' hi' hd' => ?_⟩
      have h' := List.all_eq_true.1 h.2 i' (List.mem_range.2 hi')
      simp only [Bool.or_eq_true, beq_iff_eq, bne_iff_ne] at h'
      rcases h' with h' | h'
      · exact h'.symm
      · exact absurd (hd.trans hd'.symm) h'
  · have h := List.all_eq_true.1 h10 i (List.mem_range.2 hi)
    rw [ho] at h
    simp only [Option.map_some, Option.getD_some] at h
    have h' := List.all_eq_true.1 (List.all_eq_true.1 h t ht) i' (List.mem_range.2 hi')
    simp only [Bool.or_eq_true, bne_iff_ne, Bool.and_eq_true, List.contains_eq_mem, decide_eq_true_eq] at h'
    rcases h' with h' | h'
    · exact absurd hd h'
    · exact ⟨h'.1, fun hn => h'.2.resolve_left hn⟩
  · have := List.all_eq_true.1 (List.all_eq_true.1 h11 e he) e' he'
    simp only [Bool.or_eq_true, decide_eq_true_eq] at this
    exact this.resolve_left (by omega)
  · have := List.all_eq_true.1 h12 e he
    simp only [Bool.or_eq_true, decide_eq_true_eq] at this
    exact this.resolve_left (by omega)
  · have := List.all_eq_true.1 h13 i hi
    rw [ho] at this
    simp only [Option.map_some, Option.getD_some, Bool.or_eq_true] at this
    rcases this with h | h
    · exact .inl h
    · exact .inr fun e he => List.all_eq_true.1 h e he
  · have := List.all_eq_true.1 h14 e he
    simpa using this

/-- The slots are there. -/
def slotsM (l : List Oper) (sz : Nat) : Bool := (List.range l.length).all fun i => ((dstAt l i).map fun d => decide (d < sz)).getD true

section
variable {F : Fence} {n : Nat} {P : Program} {l : List Oper} {qs es : List Nat} {j : Nat}
/-- The frame with the slots of the quiet operations S set. -/
structure DescM (l : List Oper) (qs : List Nat) (val : Nat → Value) (a0 : Act) (S : Nat → Bool) (a : Act) : Prop where
  defers : a.defers = a0.defers
  size : a.tmps.size = a0.tmps.size
  set_ : ∀ i ∈ qs, S i = true → ∀ d, dstAt l i = some d → a.tmps.getD d undef = val i
  other : ∀ t, (∀ i ∈ qs, S i = true → dstAt l i ≠ some t) → a.tmps.getD t undef = a0.tmps.getD t undef
def OwnQ (l : List Oper) (qs : List Nat) : Prop := ∀ i ∈ qs, ∃ d, dstAt l i = some d ∧ ∀ i' ∈ qs, dstAt l i' = some d → i' = i
theorem MixOk.ownQ (ok : MixOk l qs es j) : OwnQ l qs := fun i hi => by
  obtain ⟨d, hd, h⟩ := ok.own i (ok.q i hi).1 (ok.q i hi).2.2
  exact ⟨d, hd, fun i' hi' hd' => h i' (ok.q i' hi').1 hd'⟩
section
variable {val : Nat → Value} {a0 a a' : Act} {S S' : Nat → Bool}
theorem DescM.init (hS : ∀ i ∈ qs, S i = false) : DescM l qs val a0 S a0 := ⟨rfl, rfl, (fun i hi h => by rw [hS i hi] at h; cases h), fun _ _ => rfl⟩
theorem DescM.step (h : DescM l qs val a0 S a) (ho : OwnQ l qs) {i : Nat} (hi : i ∈ qs) {d : Tmp} (hd : dstAt l i = some d) (hsz : d < a0.tmps.size) : DescM l qs val a0 (done S i) (a.put (some d) (val i)) := by
  refine ⟨h.defers, by simp [Act.put, h.size], fun i' hi' hS d' hd' => ?_, fun t ht => ?_⟩
  · by_cases e : i' = i
    · subst e
      rw [hd] at hd'
      cases hd'
      exact getD_set_same _ _ _ (by rw [h.size]; exact hsz)
    · have hne : d ≠ d' := by
        intro e'
        subst e'
        obtain ⟨d2, h1, h2⟩ := ho i hi
        rw [hd] at h1
        cases h1
        exact e (h2 i' hi' hd')
      rw [show (a.put (some d) (val i)).tmps = a.tmps.setIfInBounds d (val i) from rfl, getD_set_other _ _ hne]
      exact h.set_ i' hi' (by simpa [done, e] using hS) d' hd'
  · have hne : d ≠ t := fun e => ht i hi (by simp [done]) (by rw [hd, e])
    rw [show (a.put (some d) (val i)).tmps = a.tmps.setIfInBounds d (val i) from rfl, getD_set_other _ _ hne]
    refine h.other t fun i' hi' hS => ht i' hi' ?_
    unfold done
    split
    · rfl
    · exact hS
theorem DescM.vals {val' : Nat → Value} (h : DescM l qs val a0 S a) (hv : ∀ i ∈ qs, S i = true → val i = val' i) : DescM l qs val' a0 S a := ⟨h.defers, h.size, fun i hi hs d hd => (h.set_ i hi hs d hd).trans (hv i hi hs), h.other⟩
theorem DescM.sets {S'' : Nat → Bool} (h : DescM l qs val a0 S a) (hv : ∀ i ∈ qs, S i = S'' i) : DescM l qs val a0 S'' a := ⟨h.defers, h.size, fun i hi hs => h.set_ i hi ((hv i hi).trans hs), fun t ht => h.other t fun i hi hs => ht i hi ((hv i hi).symm.trans hs)⟩
end

/-- What the walk of the quiet ones shows. -/
theorem quiet_yields (ok : MixOk l qs es j) {a0 AF : Act} {C : World → Prop} (hs : slotsM l a0.tmps.size = true)
    (h : wpQuietIn F n P l.toArray C (fun a2 => a2 = AF) (pick l qs) a0) :
    DescM l qs (valOf l AF) a0 (fun _ => true) AF ∧
    ∀ i ∈ qs, ∀ o, l[i]? = some o → ∃ LF, DescM l qs (valOf l AF) a0 (fun i' => decide (i' < i)) LF ∧ YieldsQuiet F n P l.toArray C o (valOf l AF i) LF := by
  have hslot : ∀ i ∈ qs, ∀ d, dstAt l i = some d → d < a0.tmps.size := fun i hi d hd => by
    have := List.all_eq_true.1 hs i (List.mem_range.2 (ok.q i hi).1)
    rw [hd] at this
    simpa using this
  obtain ⟨vs, l1, h2, y1⟩ := lex_vals _ _ h
  have hpick : ∀ (rs : List Nat), (∀ i ∈ rs, i < l.length) → pick l rs = rs.filterMap (fun i => l[i]?) ∧ (pick l rs).length = rs.length ∧ ∀ (m i : Nat), rs[m]? = some i → (pick l rs)[m]? = l[i]? := by
    intro rs
    induction rs with
    | nil => intro _; exact ⟨rfl, rfl, fun m i hm => by simp at hm⟩
    | cons r rs ih =>
      intro hr
      obtain ⟨_, i2, i3⟩ := ih (fun i hi => hr i (by simp [hi]))
      have hlt := hr r (by simp)
      have e : pick l (r :: rs) = l[r] :: pick l rs := by
        unfold pick
        rw [List.filterMap_cons, List.getElem?_eq_getElem hlt]
      refine ⟨rfl, by rw [e]; simp [i2], fun m i hm => ?_⟩
      rw [e]
      cases m with
      | zero => simp at hm; subst hm; simp [hlt]
      | succ m => simpa using i3 m i (by simpa using hm)
  obtain ⟨_, p2, p3⟩ := hpick qs (fun i hi => (ok.q i hi).1)
  have n1 : vs.length = qs.length := by rw [l1, p2]
  obtain ⟨val, hval⟩ : ∃ val : Nat → Value, val = fun i => vs.getD (qs.idxOf i) undef := ⟨_, rfl⟩
  have hnd : qs.Nodup := ok.up.imp (fun h e => by omega)
  have hidx : ∀ (m i : Nat), qs[m]? = some i → qs.idxOf i = m := fun m i hm => by
    obtain ⟨h1, h2⟩ := List.getElem?_eq_some_iff.1 hm
    rw [← h2]
    exact hnd.idxOf_getElem m h1
  have D1 : ∀ m, m ≤ qs.length → DescM l qs val a0 (fun i' => decide (qs.idxOf i' < m)) (putAll a0 ((pick l qs).take m) (vs.take m)) := by
    intro m
    induction m with
    | zero => intro _; simp only [List.take_zero, putAll]; exact DescM.init (fun i _ => by simp)
    | succ m ih =>
      intro hm
      have hqm : qs[m]? = some (qs[m]'(by omega)) := List.getElem?_eq_getElem _
      have hmem : qs[m]'(by omega) ∈ qs := List.getElem_mem _
      have hlt := (ok.q _ hmem).1
      have ho : (pick l qs)[m]? = some (l[qs[m]'(by omega)]'hlt) := by rw [p3 m _ hqm]; exact List.getElem?_eq_getElem _
      have hv : vs[m]? = some (vs[m]'(by omega)) := List.getElem?_eq_getElem _
      rw [putAll_snoc ho hv]
      obtain ⟨d, hd, _⟩ := ok.ownQ _ hmem
      have hdd : (l[qs[m]'(by omega)]'hlt).dst = some d := by
        unfold dstAt at hd
        rw [List.getElem?_eq_getElem hlt] at hd
        exact hd
      have hvm : val (qs[m]'(by omega)) = vs[m]'(by omega) := by rw [hval]; simp only; rw [hidx m _ hqm, List.getD_eq_getElem?_getD, hv]; rfl
      rw [hdd, ← hvm]
      refine ((ih (by omega)).step ok.ownQ hmem hd (hslot _ hmem d hd)).sets fun i hi => ?_
      obtain ⟨m', hm'⟩ := List.getElem?_of_mem hi
      have hi' := hidx m' i hm'
      unfold done
      by_cases e : i = qs[m]'(by omega)
      · rw [if_pos e, e, hidx m _ hqm]; simp
      · have hne : m' ≠ m := fun e' => by subst e'; exact e (by rw [hqm] at hm'; exact (Option.some.inj hm').symm)
        rw [if_neg e, hi', Bool.eq_iff_iff]; simp only [decide_eq_true_eq]; omega
  have hAF : putAll a0 (pick l qs) vs = AF := h2
  have DF : DescM l qs val a0 (fun _ => true) AF := by
    have h0 := D1 qs.length (Nat.le_refl _)
    have e1 : (pick l qs).take qs.length = pick l qs := List.take_of_length_le (by rw [p2]; exact Nat.le_refl _)
    have e2 : vs.take qs.length = vs := List.take_of_length_le (by omega)
    rw [e1, e2, hAF] at h0
    exact h0.sets fun i hi => by simp [List.idxOf_lt_length_iff.2 hi]
  have hvv : ∀ i ∈ qs, val i = valOf l AF i := fun i hi => by
    obtain ⟨d, hd, _⟩ := ok.ownQ i hi
    unfold valOf
    rw [hd]
    exact (DF.set_ i hi rfl d hd).symm
  refine ⟨DF.vals fun i hi _ => hvv i hi, fun i hi o ho => ?_⟩
  obtain ⟨m, hm⟩ := List.getElem?_of_mem hi
  have hml := (List.getElem?_eq_some_iff.1 hm).1
  have hv : vs[m]? = some (vs[m]'(by omega)) := List.getElem?_eq_getElem _
  have hy := y1 m o _ (by rw [p3 m i hm]; exact ho) hv
  have hvm : val i = vs[m]'(by omega) := by rw [hval]; simp only; rw [hidx m i hm, List.getD_eq_getElem?_getD, hv]; rfl
  rw [← hvm, hvv i hi] at hy
  refine ⟨_, ((D1 m (by omega)).vals fun i' hi' _ => hvv i' hi').sets fun i' hi' => ?_, hy⟩
  obtain ⟨m', hm'⟩ := List.getElem?_of_mem hi'
  rw [hidx m' i' hm', Bool.eq_iff_iff]
  simp only [decide_eq_true_eq]
  obtain ⟨a1, a2⟩ := List.getElem?_eq_some_iff.1 hm
  obtain ⟨b1, b2⟩ := List.getElem?_eq_some_iff.1 hm'
  have hp := List.pairwise_iff_getElem.1 ok.up
  constructor
  · intro h3
    have := hp m' m b1 a1 h3
    omega
  · intro h3
    rcases Nat.lt_trichotomy m' m with h4 | h4 | h4
    · exact h4
    · subst h4; rw [hm] at hm'; cases hm'; omega
    · have := hp m m' a1 b1 h4; omega

/-- Two frames that are alike but for some slots. -/
structure Rel (M : Tmp → Prop) (a A : Act) : Prop where
  defers : a.defers = A.defers
  size : a.tmps.size = A.tmps.size
  same : ∀ t, ¬ M t → a.tmps.getD t undef = A.tmps.getD t undef

theorem wpListIn_rel {ops : Array Oper} {o : Oper} {a A : Act} {W : World} {M : Tmp → Prop} {K K' : Act → World → Prop} {Q : Exit → Act → World → Prop} (hsel : ∀ cs b, o.op ≠ .select cs b) (hnd : ∀ c, o.op ≠ .defer c) (hdst : o.dst = none) (hR : Rel M a A) (hag : ∀ t ∈ o.looksAt ops, ¬ M t)
    (h : wpListIn F n P ops (Exit.then K (fun _ _ _ => False)) [o] A W) (hK : ∀ A' a' W', A'.tmps = A.tmps → a'.tmps = a.tmps → a'.defers = A'.defers → K A' W' → K' a' W') : wpListIn F n P ops (Exit.then K' Q) [o] a W := by
  have hag' : ∀ t ∈ o.looksAt ops, A.tmps.getD t undef = a.tmps.getD t undef := fun t ht => (hR.same t (hag t ht)).symm
  simp only [wpListIn] at h ⊢
  rw [wanted_agree hR.size.symm hag'] at h
  split
  · rename_i hw
    rw [if_pos hw] at h
    unfold Oper.wpIn at h ⊢
    rw [Oper.semAt_eq _ _ _ hnd] at h ⊢
    rw [execOp_agree hsel hag'] at h
    refine ⟨fun f hf => h.1 f (by rw [about_agree W hag']; exact hf), ?_⟩
    have h4 := h.2
    generalize (execOp a.eval o).run P W = r at h4 ⊢
    cases r with
    | ok x w' =>
      cases x <;> simp only [Oper.uponIn, Exit.then, hdst, Act.put] at h4 ⊢ <;>
        first
          | exact hK _ _ _ rfl rfl hR.defers h4
          | (refine hK _ _ _ ?_ ?_ ?_ h4 <;> simp [hR.defers]; done)
          | exact ⟨h4.1, CallsIn.mono h4.2 (fun e w'' he => by cases e <;> first | exact hK _ _ _ rfl rfl hR.defers he | exact False.elim he | (obtain ⟨_, _, he⟩ := he; exact False.elim he))⟩
          | exact ⟨h4.1, RoundIn.mono h4.2 (fun e w'' he => by cases e <;> first | exact hK _ _ _ rfl rfl hR.defers he | exact False.elim he | (obtain ⟨_, _, he⟩ := he; exact False.elim he))⟩
          | exact ⟨h4.1, RowsIn.mono h4.2 (fun v w'' he => hK _ _ _ rfl rfl hR.defers he)⟩
          | exact h4
          | exact False.elim h4
    | halt x w' => cases x <;> simp only [Oper.uponIn, Exit.then] at h4 ⊢ <;> first | exact h4 | exact False.elim h4
  · rename_i hw
    rw [if_neg hw] at h
    refine ⟨fun f hf => h.1 f (by rw [about_agree W hag']; exact hf), ?_⟩
    have h2 := h.2
    rw [hdst] at h2 ⊢
    exact hK _ _ _ rfl rfl hR.defers h2

/-- The effects, one behind the other, each in a world of the class, leaving one. -/
def wpE (F : Fence) (n : Nat) (P : Program) (ops : Array Oper) (CV : World → Prop) (Qn : Act → World → Prop) : List Oper → Act → World → Prop
  | [], a, w => Qn a w
  | o :: r, a, w => wpListIn F n P ops (Exit.then (fun a' w' => CV w' ∧ wpE F n P ops CV Qn r a' w') (fun _ _ _ => False)) [o] a w

theorem pick_cons {l : List Oper} {i : Nat} {o : Oper} {r : List Nat} (h : l[i]? = some o) : pick l (i :: r) = o :: pick l r := by
  unfold pick
  rw [List.filterMap_cons, h]

/-- THE LAW. -/
theorem wpIn_region_mix {Q : Exit → Act → World → Prop} {id : Nat} {a0 AF : Act} {w V : World} (fv : Nat → Value) (ty : TypeId) (cs : Array Value) (qs es : List Nat) (j : Nat) (dj : Tmp)
    (hm : P.follows .mixedOrders = true) (hB : mixB l qs es j = true) (hs : slotsM l a0.tmps.size = true) (hV : Below V.heap.size V w.drew)
    (hj : j < l.length → ∃ oj, l[j]? = some oj ∧ oj.dst = some dj ∧ oj.guard = none ∧ ∀ W, Below V.heap.size V W → (∀ f, oj.about P W AF.eval = some f → F.fn f) ∧ (execOp AF.eval oj).run P W = .ok (.value (fv W.heap.size)) (W.alloc (.cells cs ty)))
    (hq : ∀ C : World → Prop, (∃ W, C W) → (∀ W, C W → Below V.heap.size V W) → (∀ W W', C W → Below W.heap.size W W' → C W') → wpQuietIn F n P l.toArray C (fun a2 => a2 = AF) (pick l qs) a0)
    (htail : ∀ b W, Below V.heap.size V W → (j < l.length → V.heap.size ≤ b ∧ Blk W b ty cs) → wpE F n P l.toArray (fun W => Below V.heap.size V W) (Q .normal) (pick l es) (if j < l.length then AF.put (some dj) (fv b) else AF) W) :
    (Code.region id l.toArray true).wpIn F n P Q a0 w := by
  have ok := mixOk hB
  have hnd : noDefer l.toArray := noDefer_of ok.nodef
  have hyl : ∀ C : World → Prop, (∃ W, C W) → (∀ W, C W → Below V.heap.size V W) → (∀ W W', C W → Below W.heap.size W W' → C W') → _ := fun C h0 h1 h2 => quiet_yields ok hs (hq C h0 h1 h2)
  have DF := (hyl (fun W => Below V.heap.size V W) ⟨_, hV⟩ (fun _ h => h) (fun W W' h k => h.trans (k.mono h.size))).1
  have hslot : ∀ i, i < l.length → ∀ d, dstAt l i = some d → d < a0.tmps.size := fun i hi d hd => by
    have := List.all_eq_true.1 hs i (List.mem_range.2 hi)
    rw [hd] at this
    simpa using this
  have hje : j < l.length → j ∉ es := fun hlt he => (ok.e j he).2 rfl
  have hdj : j < l.length → dstAt l j = some dj := fun hlt => by
    obtain ⟨oj, h1, h2, _⟩ := hj hlt
    unfold dstAt; rw [h1]; exact h2
  let js : List Nat := if j < l.length then j :: qs else qs
  let vb : Option Nat → Nat → Value := fun ob i => if i = j then fv (ob.getD 0) else valOf l AF i
  have hjs : ∀ i, i ∈ js ↔ i ∈ qs ∨ (i = j ∧ j < l.length) := fun i => by
    show i ∈ (if j < l.length then j :: qs else qs) ↔ _
    by_cases h : j < l.length
    · rw [if_pos h]; simp [h]; exact Or.comm
    · rw [if_neg h]; simp [h]
  have hjlt : ∀ i ∈ js, i < l.length ∧ i ∉ es := fun i hi => by
    rcases (hjs i).1 hi with h | ⟨h1, h2⟩
    · exact ⟨(ok.q i h).1, (ok.q i h).2.2⟩
    · rw [h1]; exact ⟨h2, hje h2⟩
  have ownJ : OwnQ l js := fun i hi => by
    obtain ⟨d, hd, h⟩ := ok.own i (hjlt i hi).1 (hjlt i hi).2
    exact ⟨d, hd, fun i' hi' hd' => h i' (hjlt i' hi').1 hd'⟩
  have hvq : ∀ ob, ∀ i ∈ qs, vb ob i = valOf l AF i := fun ob i hi => by
    show (if i = j then _ else _) = _
    rw [if_neg (ok.q i hi).2.1]
  let CV : World → Prop := fun W => Below V.heap.size V W
  let Miss : Array Bool → Tmp → Prop := fun listed t => ∃ i ∈ qs, listed.getD i false = false ∧ dstAt l i = some t
  let Star : Act → Prop := fun A => A.tmps.size = a0.tmps.size ∧ (∀ i ∈ qs, ∀ d, dstAt l i = some d → A.tmps.getD d undef = valOf l AF i) ∧ ∀ t, (∀ i, i < l.length → dstAt l i ≠ some t) → A.tmps.getD t undef = a0.tmps.getD t undef
  let StA : Array Bool → Act → World → Prop := fun listed a W => listed.size = l.length ∧ (∀ e ∈ es, listed.getD e false = false) ∧ ∃ ob : Option Nat, (j < l.length → listed.getD j false = ob.isSome) ∧ (l.length ≤ j → ob = none) ∧ FCls V ty cs ob W ∧ DescM l js (vb ob) a0 (fun i => listed.getD i false) a
  let StB : Array Bool → Act → World → Prop := fun listed a W => ∃ (A : Act) (m : Nat), listed.size = l.length ∧ m ≤ es.length ∧ (∀ e ∈ es.take m, listed.getD e false = true) ∧ (∀ e ∈ es.drop m, listed.getD e false = false) ∧ (j < l.length → listed.getD j false = true) ∧ CV W ∧ Rel (Miss listed) a A ∧ Star A ∧
    (∀ i ∈ qs, listed.getD i false = false → ∀ o, l[i]? = some o → floatB o = true) ∧ wpE F n P l.toArray CV (Q .normal) (pick l (es.drop m)) A W
  have toB : ∀ listed a W, StA listed a W → (j < l.length → listed.getD j false = true) → (∀ i ∈ qs, listed.getD i false = false → ∀ o, l[i]? = some o → floatB o = true) → StB listed a W := by
    rintro listed a W ⟨hsz, hes, ob, h1, h2, hc, hD⟩ hjl hfl
    have hfacts : ∃ b, (j < l.length → ob = some b) ∧ (j < l.length → V.heap.size ≤ b ∧ Blk W b ty cs) := by
      by_cases h : j < l.length
      · have h3 := h1 h
        rw [hjl h] at h3
        obtain ⟨b, rfl⟩ := Option.isSome_iff_exists.1 h3.symm
        exact ⟨b, fun _ => rfl, fun _ => hc.2 b rfl⟩
      · exact ⟨0, fun h' => absurd h' h, fun h' => absurd h' h⟩
    obtain ⟨b, hob, hblk⟩ := hfacts
    have hw := htail b W hc.1 hblk
    refine ⟨_, 0, hsz, Nat.zero_le _, (fun e he => by simp at he), (fun e he => hes e (by simpa using he)), hjl, hc.1, ?_, ?_, hfl, by simpa using hw⟩
    · -- the frames
      by_cases h : j < l.length
      · rw [if_pos h]
        refine ⟨hD.defers.trans (show _ = (AF.put (some dj) (fv b)).defers from DF.defers.symm), by rw [hD.size]; simp [Act.put, DF.size], fun t ht => ?_⟩
        have hput : (AF.put (some dj) (fv b)).tmps = AF.tmps.setIfInBounds dj (fv b) := rfl
        by_cases e1 : t = dj
        · subst e1
          rw [hput, getD_set_same _ _ _ (by rw [DF.size]; exact hslot j h t (hdj h)), hD.set_ j ((hjs j).2 (.inr ⟨rfl, h⟩)) (hjl h) t (hdj h)]
          show (if j = j then _ else _) = _
          rw [if_pos rfl, hob h]; rfl
        · rw [hput, getD_set_other _ _ (Ne.symm e1)]
          by_cases hex : ∃ i ∈ qs, dstAt l i = some t
          · obtain ⟨i, hi, hd⟩ := hex
            have hl : listed.getD i false = true := by
              cases hc' : listed.getD i false with
              | true => rfl
              | false => exact absurd ⟨i, hi, hc', hd⟩ ht
            rw [hD.set_ i ((hjs i).2 (.inl hi)) hl t hd, hvq ob i hi, DF.set_ i hi rfl t hd]
          · rw [hD.other t (fun i hi hs hd => by
              rcases (hjs i).1 hi with h3 | ⟨h3, _⟩
              · exact hex ⟨i, h3, hd⟩
              · rw [h3, hdj h] at hd; exact e1 (Option.some.inj hd).symm), DF.other t (fun i hi _ hd => hex ⟨i, hi, hd⟩)]
      · rw [if_neg h]
        refine ⟨hD.defers.trans DF.defers.symm, hD.size.trans DF.size.symm, fun t ht => ?_⟩
        by_cases hex : ∃ i ∈ qs, dstAt l i = some t
        · obtain ⟨i, hi, hd⟩ := hex
          have hl : listed.getD i false = true := by
            cases hc' : listed.getD i false with
            | true => rfl
            | false => exact absurd ⟨i, hi, hc', hd⟩ ht
          rw [hD.set_ i ((hjs i).2 (.inl hi)) hl t hd, hvq ob i hi, DF.set_ i hi rfl t hd]
        · rw [hD.other t (fun i hi hs hd => by
            rcases (hjs i).1 hi with h3 | ⟨_, h3⟩
            · exact hex ⟨i, h3, hd⟩
            · exact h h3), DF.other t (fun i hi _ hd => hex ⟨i, hi, hd⟩)]
    · by_cases h : j < l.length
      · rw [if_pos h]
        have hput : (AF.put (some dj) (fv b)).tmps = AF.tmps.setIfInBounds dj (fv b) := rfl
        refine ⟨by rw [hput]; simp [DF.size], fun i hi d hd => ?_, fun t ht => ?_⟩
        · have hne : dj ≠ d := fun e => by
            obtain ⟨d2, h3, h4⟩ := ok.own j h (hje h)
            rw [hdj h] at h3
            cases h3
            exact (ok.q i hi).2.1 (h4 i (ok.q i hi).1 (by rw [hd, e]))
          rw [hput, getD_set_other _ _ hne]
          exact DF.set_ i hi rfl d hd
        · rw [hput, getD_set_other _ _ (fun e => ht j h (by rw [hdj h, e]))]
          exact DF.other t fun i hi _ => ht i (ok.q i hi).1
      · rw [if_neg h]
        exact ⟨DF.size, fun i hi d hd => DF.set_ i hi rfl d hd, fun t ht => DF.other t fun i hi _ => ht i (ok.q i hi).1⟩
  let St : Array Bool → Act → World → Prop := fun listed a W => StA listed a W ∨ StB listed a W
  have setD : ∀ (listed : Array Bool) (i i' : Nat), listed.size = l.length → i < l.length → (listed.setIfInBounds i true).getD i' false = done (fun i => listed.getD i false) i i' := fun listed i i' hsz hi => by
    unfold done
    by_cases e : i' = i
    · subst e
      rw [if_pos rfl, Array.getD_eq_getD_getElem?, Array.getElem?_setIfInBounds]
      have : i' < listed.size := by omega
      simp [this]
    · rw [if_neg e, getD_set_ne false (Ne.symm e)]
  have stepB : ∀ listed a W i o, l[i]? = some o → listed.getD i true = false → (∀ i', afterB l i i' = true → listed.getD i' false = true) → StB listed a W → wpListIn F n P l.toArray (Exit.then (St (listed.setIfInBounds i true)) Q) [o] a W := by
    rintro listed a W i o hol hu hwait ⟨A, m, hsz, hm', ht, hdp, hjl, hcv, hR, hSt, hfl, hwp⟩
    have hi : i < l.length := (List.getElem?_eq_some_iff.1 hol).1
    have hfalse : listed.getD i false = false := getD_both hu
    have hsel : ∀ cs b, o.op ≠ .select cs b := fun cs b => Region.noSelect_spec ok.nosel i o cs b (by simpa using hol)
    rcases ok.part i hi with hiq | hie | hij
    · obtain ⟨LF, hLF, hyq⟩ := (hyl CV ⟨_, hV⟩ (fun _ h => h) (fun W W' h k => h.trans (k.mono h.size))).2 i hiq o hol
      have hag : ∀ t ∈ o.looksAt l.toArray, LF.tmps.getD t undef = a.tmps.getD t undef := fun t ht' => by
        by_cases hex : ∃ i', i' < l.length ∧ dstAt l i' = some t
        · obtain ⟨i', hi', hd⟩ := hex
          obtain ⟨h1, h2⟩ := ok.deps i hi o hol t ht' i' hi' hd
          have h3 := h2 (ok.q i hiq).2.2
          have h4 := afterB_lt ok.back h1
          rw [hLF.set_ i' h3 (by simpa using h4) t hd, hR.same t (fun ⟨i2, h5, h6, h7⟩ => by
            obtain ⟨d, h8, h9⟩ := ok.ownQ i' h3
            rw [hd] at h8
            cases h8
            have := h9 i2 h5 h7
            subst this
            rw [hwait _ h1] at h6
            cases h6), hSt.2.1 i' h3 t hd]
        · have hno : ∀ i', i' < l.length → dstAt l i' ≠ some t := fun i' hi' hd => hex ⟨i', hi', hd⟩
          rw [hLF.other t (fun i' hi' _ => hno i' (ok.q i' hi').1), hR.same t (fun ⟨i2, h5, _, h7⟩ => hno i2 (ok.q i2 h5).1 h7), hSt.2.2 t hno]
      have hya := yields_agree hsel (hLF.size.trans (hSt.1.symm.trans hR.size.symm)) hag hyq
      obtain ⟨d, hdi, huniq⟩ := ok.ownQ i hiq
      have hdo : o.dst = some d := by unfold dstAt at hdi; rw [hol] at hdi; exact hdi
      have hnext : St (listed.setIfInBounds i true) (a.put o.dst (valOf l AF i)) W := by
        refine .inr ⟨A, m, by simpa using hsz, hm', fun e he => ?_, fun e he => ?_, fun h => ?_, hcv, ?_, hSt, fun i' hi' hf => ?_, hwp⟩
        · rw [setD _ _ _ hsz hi]; unfold done; split
          · rfl
          · exact ht e he
        · rw [setD _ _ _ hsz hi]; unfold done; rw [if_neg (fun e' => by subst e'; exact (ok.q e hiq).2.2 (List.mem_of_mem_drop he))]; exact hdp e he
        · rw [setD _ _ _ hsz hi]; unfold done; split
          · rfl
          · exact hjl h
        · rw [hdo]
          refine ⟨hR.defers, by rw [← hR.size]; simp [Act.put], fun t ht' => ?_⟩
          by_cases e : t = d
          · subst e
            rw [show (a.put (some t) (valOf l AF i)).tmps = a.tmps.setIfInBounds t (valOf l AF i) from rfl, getD_set_same _ _ _ (by rw [hR.size, hSt.1]; exact hslot i hi t hdi), hSt.2.1 i hiq t hdi]
          · rw [show (a.put (some d) (valOf l AF i)).tmps = a.tmps.setIfInBounds d (valOf l AF i) from rfl, getD_set_other _ _ (Ne.symm e)]
            refine hR.same t fun ⟨i2, h5, h6, h7⟩ => ht' ⟨i2, h5, ?_, h7⟩
            rw [setD _ _ _ hsz hi]; unfold done
            rw [if_neg (fun e' => by subst e'; rw [hdi] at h7; exact e (Option.some.inj h7).symm)]
            exact h6
        · rw [setD _ _ _ hsz hi] at hf
          unfold done at hf
          split at hf
          · cases hf
          · exact hfl i' hi' hf
      simp only [wpListIn]
      rcases hya.2 with ⟨hw, hv⟩ | ⟨hw, hv⟩
      · rw [if_pos hw]
        have h3 := hv W hcv
        unfold Oper.quietAtIn at h3
        unfold Oper.wpIn
        refine ⟨hya.1 W hcv, ?_⟩
        rw [Oper.semAt_eq _ _ _ (hnd i o (by simpa using hol))]
        have hne : ∀ f args w', (execOp a.eval o).run P W ≠ .ok (.enter f args) w' := fun f args w' h => float_noenter (hfl i hiq hfalse o hol) h
        generalize (execOp a.eval o).run P W = r at h3 hne ⊢
        cases r with
        | ok x w' =>
          cases x <;> simp only [Oper.quietUponIn] at h3 <;> simp only [Oper.uponIn]
          case value u =>
            obtain ⟨e1, e2⟩ := h3
            rw [e1, e2]
            exact hnext
          case skip =>
            obtain ⟨e1, e2⟩ := h3
            rw [e1, ← e2]
            exact hnext
          case enter f args => exact absurd rfl (hne f args w')
        | halt x w' => simp only [Oper.quietUponIn] at h3
      · rw [if_neg (by rw [hw]; simp)]
        refine ⟨hya.1 W hcv, ?_⟩
        rw [hv] at hnext
        exact hnext
    · have hmem : i ∈ es.drop m := by
        rcases (List.mem_append.1 (by rw [List.take_append_drop]; exact hie : i ∈ es.take m ++ es.drop m)) with h | h
        · rw [ht i h] at hfalse; cases hfalse
        · exact h
      have hml : m < es.length := by
        rcases Nat.lt_or_ge m es.length with h | h
        · exact h
        · rw [List.drop_of_length_le h] at hmem; cases hmem
      have hdrop : es.drop m = es[m] :: es.drop (m + 1) := List.drop_eq_getElem_cons hml
      have hie' : i = es[m] := by
        rw [hdrop] at hmem
        rcases List.mem_cons.1 hmem with h | h
        · exact h
        · exfalso
          have hlt : es[m] < i := by
            have hp := ok.upE.sublist (List.drop_sublist m es)
            rw [hdrop, List.pairwise_cons] at hp
            exact hp.1 i h
          have h1 := hwait _ (ok.chain i hie es[m] (List.getElem_mem _) hlt)
          rw [hdp es[m] (by rw [hdrop]; exact List.mem_cons_self)] at h1
          cases h1
      rw [hdrop, ← hie', pick_cons hol] at hwp
      have hdn : o.dst = none := by
        have := ok.edst i hie
        unfold dstAt at this
        rw [hol] at this
        exact this
      refine wpListIn_rel hsel (hnd i o (by simpa using hol)) hdn hR (fun t ht' => ?_) hwp ?_
      · rintro ⟨i2, h5, h6, h7⟩
        obtain ⟨h1, _⟩ := ok.deps i hi o hol t ht' i2 (ok.q i2 h5).1 h7
        rw [hwait _ h1] at h6
        cases h6
      · rintro A' a' W' eA ea ed ⟨hcv', hwp'⟩
        refine .inr ⟨A', m + 1, by simpa using hsz, hml, fun e he => ?_, fun e he => ?_, fun h => ?_, hcv', ?_, ?_, fun i' hi' hf => ?_, hwp'⟩
        · rw [setD _ _ _ hsz hi]; unfold done; split
          · rfl
          · rename_i hne
            rw [List.take_succ_eq_append_getElem hml] at he
            rcases List.mem_append.1 he with h | h
            · exact ht e h
            · exact absurd ((List.mem_singleton.1 h).trans hie'.symm) hne
        · rw [setD _ _ _ hsz hi]; unfold done
          have hne : e ≠ i := fun e' => by
            have hp := ok.upE.sublist (List.drop_sublist m es)
            rw [hdrop, List.pairwise_cons] at hp
            have := hp.1 e he
            omega
          rw [if_neg hne]
          exact hdp e (by rw [hdrop]; exact List.mem_cons_of_mem _ he)
        · rw [setD _ _ _ hsz hi]; unfold done; split
          · rfl
          · exact hjl h
        · refine ⟨ed, by rw [ea, eA]; exact hR.size, fun t ht' => ?_⟩
          rw [ea, eA]
          refine hR.same t fun ⟨i2, h5, h6, h7⟩ => ht' ⟨i2, h5, ?_, h7⟩
          rw [setD _ _ _ hsz hi]; unfold done
          rw [if_neg (fun e' => by subst e'; exact (ok.q i2 h5).2.2 hie)]
          exact h6
        · exact ⟨by rw [eA]; exact hSt.1, by rw [eA]; exact hSt.2.1, by rw [eA]; exact hSt.2.2⟩
        · rw [setD _ _ _ hsz hi] at hf
          unfold done at hf
          split at hf
          · cases hf
          · exact hfl i' hi' hf
    · subst hij
      rw [hjl hi] at hfalse
      cases hfalse
  refine wpIn_region_inv hm St ?_ ?_ ?_ ?_
  · rintro listed a W (⟨h, _⟩ | ⟨A, m, h, _⟩) <;> simpa using h
  · exact .inl ⟨by simp, fun e _ => getD_replicate_false _ _, none, fun _ => getD_replicate_false _ _, fun _ => rfl, ⟨hV, fun b e => by cases e⟩, DescM.init fun i _ => getD_replicate_false _ _⟩
  · rintro listed a W i o ho hu hd hst
    have hol : l[i]? = some o := by simpa using ho
    have hi : i < l.length := (List.getElem?_eq_some_iff.1 hol).1
    have hwait : ∀ i', afterB l i i' = true → listed.getD i' false = true := fun i' h => by
      unfold afterB at h
      rw [hol] at h
      obtain ⟨e, he, h2⟩ := List.any_eq_true.1 h
      simp only [Bool.and_eq_true, beq_iff_eq] at h2
      rw [← h2.1]
      exact hd e (by simpa using he) h2.2
    rcases hst with hA | hBB
    · have hA0 := hA
      obtain ⟨hsz, hes, ob, h1, h2, hc, hD⟩ := hA
      have hfalse : listed.getD i false = false := getD_both hu
      have hsel : ∀ cs b, o.op ≠ .select cs b := fun cs b => Region.noSelect_spec ok.nosel i o cs b ho
      rcases ok.part i hi with hiq | hie | hij
      · have hne : i ≠ j := (ok.q i hiq).2.1
        obtain ⟨LF, hLF, hyq⟩ := (hyl (FCls V ty cs ob) ⟨_, hc⟩ (fun _ h => h.1) (fun W W' h k => h.grow k)).2 i hiq o hol
        have hag : ∀ t ∈ o.looksAt l.toArray, LF.tmps.getD t undef = a.tmps.getD t undef := fun t ht' => by
          by_cases hex : ∃ i', i' < l.length ∧ dstAt l i' = some t
          · obtain ⟨i', hi', hd'⟩ := hex
            obtain ⟨h3, h4⟩ := ok.deps i hi o hol t ht' i' hi' hd'
            have h5 := h4 (ok.q i hiq).2.2
            rw [hLF.set_ i' h5 (by simpa using afterB_lt ok.back h3) t hd', hD.set_ i' ((hjs i').2 (.inl h5)) (hwait _ h3) t hd', hvq ob i' h5]
          · have hno : ∀ i', i' < l.length → dstAt l i' ≠ some t := fun i' hi' hd => hex ⟨i', hi', hd⟩
            rw [hLF.other t (fun i' hi' _ => hno i' (ok.q i' hi').1), hD.other t (fun i' hi' _ => hno i' (hjlt i' hi').1)]
        have hya := yields_agree hsel (hLF.size.trans hD.size.symm) hag hyq
        obtain ⟨d, hdi, _⟩ := ok.ownQ i hiq
        have hdo : o.dst = some d := by unfold dstAt at hdi; rw [hol] at hdi; exact hdi
        have hnext : ∀ W', FCls V ty cs ob W' → St (listed.setIfInBounds i true) (a.put o.dst (valOf l AF i)) W' := fun W' hW' => by
          refine .inl ⟨by simpa using hsz, fun e he => ?_, ob, fun h => ?_, h2, hW', ?_⟩
          · rw [setD _ _ _ hsz hi]; unfold done
            rw [if_neg (fun e' => by subst e'; exact (ok.q e hiq).2.2 he)]
            exact hes e he
          · rw [setD _ _ _ hsz hi]; unfold done
            rw [if_neg (Ne.symm hne)]
            exact h1 h
          · have h5 := hD.step ownJ ((hjs i).2 (.inl hiq)) hdi (hslot i hi d hdi)
            rw [hvq ob i hiq] at h5
            rw [hdo]
            exact h5.sets fun i' _ => (setD _ _ _ hsz hi).symm
        simp only [wpListIn]
        rcases hya.2 with ⟨hw, hv⟩ | ⟨hw, hv⟩
        · rw [if_pos hw]
          exact wpIn_of_quiet' (K := fun a' => a' = a.put o.dst (valOf l AF i)) (hnd i o ho) hc (fun a' W' hW' ha' => by subst ha'; exact hnext W' hW') hya.1 ⟨_, hv, rfl⟩
        · rw [if_neg (by rw [hw]; simp)]
          refine ⟨hya.1 W hc, ?_⟩
          have := hnext W hc
          rw [hv] at this
          exact this
      · refine stepB listed a W i o hol hu hwait (toB listed a W hA0 (fun h => hwait j (ok.fresh i hie h)) fun i' hi' hf o' ho' => ?_)
        rcases ok.floats i' hi' o' ho' with h | h
        · exact h
        · rw [hwait i' (h i hie)] at hf
          cases hf
      · subst hij
        obtain ⟨oj, hoj, hdd, hgj, hfr⟩ := hj hi
        obtain rfl : oj = o := Option.some.inj (hoj.symm.trans hol)
        have hag : ∀ t ∈ oj.looksAt l.toArray, a.tmps.getD t undef = AF.tmps.getD t undef := fun t ht' => by
          by_cases hex : ∃ i', i' < l.length ∧ dstAt l i' = some t
          · obtain ⟨i', hi', hd'⟩ := hex
            obtain ⟨h3, h4⟩ := ok.deps i hi oj hol t ht' i' hi' hd'
            have h5 := h4 (hje hi)
            rw [hD.set_ i' ((hjs i').2 (.inl h5)) (hwait _ h3) t hd', hvq ob i' h5, DF.set_ i' h5 rfl t hd']
          · have hno : ∀ i', i' < l.length → dstAt l i' ≠ some t := fun i' hi' hd => hex ⟨i', hi', hd⟩
            rw [hD.other t (fun i' hi' _ => hno i' (hjlt i' hi').1), DF.other t (fun i' hi' _ => hno i' (ok.q i' hi').1)]
        obtain ⟨hab, hrun⟩ := hfr W hc.1
        have hwant : Region.wanted oj (yielded l.toArray a.tmps) = true := by unfold Region.wanted; rw [hgj]
        simp only [wpListIn]
        rw [if_pos hwant]
        unfold Oper.wpIn
        refine ⟨fun f hf => hab f (by rw [← about_agree W hag]; exact hf), ?_⟩
        rw [Oper.semAt_eq _ _ _ (hnd i oj ho), execOp_agree hsel hag, hrun]
        show Exit.then _ Q .normal _ _
        have hob : ob = none := by
          have h3 := h1 hi
          rw [hfalse] at h3
          cases ob with
          | none => rfl
          | some b => cases h3
        subst hob
        refine .inl ⟨by simpa using hsz, fun e he => ?_, some W.heap.size, fun _ => ?_, fun h => absurd hi (by omega), ⟨hc.1.alloc hc.1.size _, fun b hb => by cases hb; exact ⟨hc.1.size, Blk.new W _ _⟩⟩, ?_⟩
        · rw [setD _ _ _ hsz hi]; unfold done
          rw [if_neg (fun e' => by subst e'; exact hje hi he)]
          exact hes e he
        · rw [setD _ _ _ hsz hi]; simp [done]
        · have hD' : DescM l js (vb (some W.heap.size)) a0 (fun i => listed.getD i false) a := hD.vals fun i' hi' hS => by
            have hne : i' ≠ i := fun e => by subst e; rw [hfalse] at hS; cases hS
            show (if i' = i then _ else _) = if i' = i then _ else _
            rw [if_neg hne, if_neg hne]
          have h5 := hD'.step ownJ ((hjs i).2 (.inr ⟨rfl, hi⟩)) (hdj hi) (hslot i hi dj (hdj hi))
          have hvj : vb (some W.heap.size) i = fv W.heap.size := by show (if i = i then _ else _) = _; rw [if_pos rfl]; rfl
          rw [hvj] at h5
          rw [hdd]
          exact h5.sets fun i' _ => (setD _ _ _ hsz hi).symm
    · exact stepB listed a W i o hol hu hwait hBB
  · rintro listed a W hr hst
    have hall : ∀ listed a W, St listed a W → Region.ready .any l.toArray listed = [] → ∀ i, i < l.length → listed.getD i false = true := by
      rintro listed a W (⟨h, _⟩ | ⟨A, m, h, _⟩) hr i hi <;> exact ready_nil_all ok.back (by simpa using h) hr i (by simpa using hi)
    have hal := hall listed a W hst hr
    have hBB : StB listed a W := by
      rcases hst with h | h
      · exact toB listed a W h (fun h' => hal j h') (fun i hi hf => by rw [hal i (ok.q i hi).1] at hf; cases hf)
      · exact h
    obtain ⟨A, m, hsz, hm', ht, hdp, hjl, hcv, hR, hSt, hfl, hwp⟩ := hBB
    have hnil : es.drop m = [] := by
      cases h : es.drop m with
      | nil => rfl
      | cons e r =>
        have h1 := hdp e (by rw [h]; simp)
        rw [hal e (ok.e e (List.mem_of_mem_drop (by rw [h]; simp))).1] at h1
        cases h1
    rw [hnil] at hwp
    have hEq : a = A := by
      obtain ⟨t, d⟩ := a
      obtain ⟨t', d'⟩ := A
      have e1 : d = d' := hR.defers
      have s1 : t.size = t'.size := hR.size
      have e2 : t = t' := by
        apply Array.ext s1
        intro i h1 h2
        have := hR.same i (fun ⟨i2, h5, h6, _⟩ => by rw [hal i2 (ok.q i2 h5).1] at h6; cases h6)
        simpa [h1, h2] using this
      rw [e1, e2]
    subst hEq
    exact hwp

/-- By a mask. -/
def pickB : List Oper → List Bool → List Oper
  | o :: l, true :: bs => o :: pickB l bs
  | _ :: l, false :: bs => pickB l bs
  | _, _ => []
theorem quiet_of {V : World} {AF a0 : Act} (hq : ∀ (σ : Type) (_ : Nonempty σ) (of : σ → World), (∀ z, Below V.heap.size V (of z)) → (∀ z W', Below (of z).heap.size (of z) W' → Cls of W') → wpQuietIn F n P l.toArray (Cls of) (fun a2 => a2 = AF) (pick l qs) a0) :
    ∀ C : World → Prop, (∃ W, C W) → (∀ W, C W → Below V.heap.size V W) → (∀ W W', C W → Below W.heap.size W W' → C W') → wpQuietIn F n P l.toArray C (fun a2 => a2 = AF) (pick l qs) a0 := by
  rintro C ⟨W0, h0⟩ h1 h2
  have e : C = Cls (fun z : { W : World // C W } => z.1) := by
    funext W
    exact propext ⟨fun h => ⟨⟨W, h⟩, rfl⟩, fun ⟨z, hz⟩ => by rw [hz]; exact z.2⟩
  rw [e]
  exact hq _ ⟨⟨W0, h0⟩⟩ _ (fun z => h1 _ z.2) (fun z W' hb => ⟨⟨W', h2 _ _ z.2 hb⟩, rfl⟩)

/-- THE LAW, a new block among the operations. -/
theorem wpIn_region_new {Q : Exit → Act → World → Prop} {id : Nat} {a0 AF : Act} {w V : World} {oj : Oper} {dj : Tmp} (fv : Nat → Value) (ty : TypeId) (cs : Array Value) (qs es : List Nat) (j : Nat) (mq me : List Bool) (hmq : pick l qs = pickB l mq) (hme : pick l es = pickB l me)
    (hm : P.follows .mixedOrders = true) (hB : (mixB l qs es j && decide (j < l.length)) = true) (hs : slotsM l a0.tmps.size = true) (hV : Below V.heap.size V w.drew) (hoj : l[j]? = some oj) (hdj : oj.dst = some dj) (hgj : oj.guard = none)
    (hq : ∀ (σ : Type) (_ : Nonempty σ) (of : σ → World), (∀ z, Below V.heap.size V (of z)) → (∀ z W', Below (of z).heap.size (of z) W' → Cls of W') → wpQuietIn F n P l.toArray (Cls of) (fun a2 => a2 = AF) (pickB l mq) a0)
    (hfresh : ∀ W, Below V.heap.size V W → (∀ f, oj.about P W AF.eval = some f → F.fn f) ∧ (execOp AF.eval oj).run P W = .ok (.value (fv W.heap.size)) (W.alloc (.cells cs ty)))
    (htail : ∀ b W, Below V.heap.size V W → V.heap.size ≤ b → Blk W b ty cs → wpE F n P l.toArray (fun W => Below V.heap.size V W) (Q .normal) (pickB l me) (AF.put (some dj) (fv b)) W) :
    (Code.region id l.toArray true).wpIn F n P Q a0 w := by
  rw [Bool.and_eq_true, decide_eq_true_eq] at hB
  rw [← hmq] at hq
  rw [← hme] at htail
  exact wpIn_region_mix fv ty cs qs es j dj hm hB.1 hs hV (fun _ => ⟨oj, hoj, hdj, hgj, hfresh⟩) (quiet_of hq) (fun b W h1 h2 => by rw [if_pos hB.2]; exact htail b W h1 (h2 hB.2).1 (h2 hB.2).2)

/-- THE LAW, without a new block. -/
theorem wpIn_region_old {Q : Exit → Act → World → Prop} {id : Nat} {a0 AF : Act} {w V : World} (qs es : List Nat) (mq me : List Bool) (hmq : pick l qs = pickB l mq) (hme : pick l es = pickB l me)
    (hm : P.follows .mixedOrders = true) (hB : mixB l qs es l.length = true) (hs : slotsM l a0.tmps.size = true) (hV : Below V.heap.size V w.drew)
    (hq : ∀ (σ : Type) (_ : Nonempty σ) (of : σ → World), (∀ z, Below V.heap.size V (of z)) → (∀ z W', Below (of z).heap.size (of z) W' → Cls of W') → wpQuietIn F n P l.toArray (Cls of) (fun a2 => a2 = AF) (pickB l mq) a0)
    (htail : ∀ W, Below V.heap.size V W → wpE F n P l.toArray (fun W => Below V.heap.size V W) (Q .normal) (pickB l me) AF W) :
    (Code.region id l.toArray true).wpIn F n P Q a0 w := by
  rw [← hmq] at hq
  rw [← hme] at htail
  exact wpIn_region_mix (fun _ => undef) 0 #[] qs es l.length 0 hm hB hs hV (fun h => absurd h (Nat.lt_irrefl _)) (quiet_of hq) (fun b W h1 _ => by rw [if_neg (Nat.lt_irrefl _)]; exact htail W h1)

theorem wpE_nil {ops : Array Oper} {CV : World → Prop} {Qn : Act → World → Prop} {a : Act} {w : World} (h : Qn a w) : wpE F n P ops CV Qn [] a w := h
theorem wpE_cons {ops : Array Oper} {CV : World → Prop} {Qn : Act → World → Prop} {o : Oper} {r : List Oper} {a : Act} {w : World} (h : wpListIn F n P ops (Exit.then (fun a' w' => CV w' ∧ wpE F n P ops CV Qn r a' w') (fun _ _ _ => False)) [o] a w) : wpE F n P ops CV Qn (o :: r) a w := h
end
end Go.Proofs.YtahkjagjcogeiaaDoor
/- A region that draws its order: quiet operations, calls that make memory (a chain, each with what it hands back), one that lays a new block (or none), and effects at the end. One walk by stages serves. -/
namespace Go.Proofs.YtahkjagjcogeiaaDoor
open Go.RowKit
set_option linter.unusedVariables false

/-- The numbers of a mask. -/
def idxs : Nat → List Bool → List Nat
  | _, [] => []
  | k, true :: m => k :: idxs (k + 1) m
  | k, false :: m => idxs (k + 1) m
theorem pickB_idxs : ∀ (l : List Oper) (m : List Bool) (pre : List Oper), m.length ≤ l.length → pickB l m = pick (pre ++ l) (idxs pre.length m)
  | [], [], pre, _ => by simp [pickB, idxs, pick]
  | o :: l, [], pre, _ => by simp [pickB, idxs, pick]
  | [], b :: m, pre, h => by simp at h
  | o :: l, true :: m, pre, h => by
    have ih := pickB_idxs l m (pre ++ [o]) (by simpa using h)
    have e : (pre ++ o :: l)[pre.length]? = some o := by simp
    rw [idxs, pick_cons e, pickB, ih]
    simp
  | o :: l, false :: m, pre, h => by
    have ih := pickB_idxs l m (pre ++ [o]) (by simpa using h)
    rw [idxs, pickB, ih]
    simp
theorem pickB_all (l : List Oper) (m : List Bool) (h : m.length ≤ l.length) : pickB l m = pick l (idxs 0 m) := by
  simpa using pickB_idxs l m [] h

/-- The order of the walk: stage by stage. -/
def xsOf : List (List Bool × Nat) → List Bool → List Nat
  | [], fin => idxs 0 fin
  | (m, x) :: r, fin => idxs 0 m ++ x :: xsOf r fin

/-- Operations that ask nothing of the world. -/
def lateB (o : Oper) : Bool := match o.op with
  | .move _ | .assign _ | .extract _ _ => true
  | _ => false
def readsB (l : List Oper) (i : Nat) (pre : List Nat) : Bool := ((l[i]?).map fun o => (o.looksAt l.toArray).all fun t => (List.range l.length).all fun i' => dstAt l i' != some t || (afterB l i i' && pre.contains i')).getD false
def depsB (l : List Oper) : List Nat → List Nat → Bool
  | _, [] => true
  | pre, i :: post => readsB l i pre && depsB l (pre ++ [i]) post
def ordB (l : List Oper) (ws : List Nat) : List Nat → Bool
  | [] => true
  | x :: post => (!ws.contains x || post.all fun i => (x :: post).any fun m => afterB l i m) && ordB l ws post
def flowB (l : List Oper) (xs ws es : List Nat) (j : Nat) : Bool :=
  upS es && backB l.toArray && Region.noSelect l.toArray && noDeferB l &&
  (xs.all fun i => decide (i < l.length) && i != j && !es.contains i) && (es.all fun i => decide (i < l.length) && i != j) &&
  ((List.range l.length).all fun i => xs.contains i || es.contains i || i == j) &&
  ((List.range l.length).all fun i => es.contains i || ((dstAt l i).isSome && ((List.range l.length).all fun i' => i == i' || dstAt l i != dstAt l i'))) &&
  depsB l [] xs && (es.all fun e => readsB l e (if j < l.length then j :: xs else xs)) &&
  (es.all fun e => es.all fun e' => decide (e ≤ e') || afterB l e e') && (es.all fun e => decide (l.length ≤ j) || afterB l e j) &&
  (xs.all fun i => (((l[i]?).map lateB).getD false && !ws.contains i) || es.all fun e => afterB l e i) && (es.all fun e => (dstAt l e).isNone) && ordB l ws xs && decide xs.Nodup
structure FlowOk (l : List Oper) (xs ws es : List Nat) (j : Nat) : Prop where
  upE : es.Pairwise (· < ·)
  back : backB l.toArray = true
  nosel : Region.noSelect l.toArray = true
  nodef : noDeferB l = true
  x : ∀ i ∈ xs, i < l.length ∧ i ≠ j ∧ i ∉ es
  e : ∀ i ∈ es, i < l.length ∧ i ≠ j
  part : ∀ i, i < l.length → i ∈ xs ∨ i ∈ es ∨ i = j
  own : ∀ i, i < l.length → i ∉ es → ∃ d, dstAt l i = some d ∧ ∀ i', i' < l.length → dstAt l i' = some d → i' = i
  deps : ∀ pre i post, xs = pre ++ i :: post → ∀ o, l[i]? = some o → ∀ t ∈ o.looksAt l.toArray, ∀ i', i' < l.length → dstAt l i' = some t → afterB l i i' = true ∧ i' ∈ pre
  depsE : ∀ i ∈ es, ∀ o, l[i]? = some o → ∀ t ∈ o.looksAt l.toArray, ∀ i', i' < l.length → dstAt l i' = some t → afterB l i i' = true
  chain : ∀ e ∈ es, ∀ e' ∈ es, e' < e → afterB l e e' = true
  fresh : ∀ e ∈ es, j < l.length → afterB l e j = true
  late : ∀ i ∈ xs, ∀ o, l[i]? = some o → (lateB o = true ∧ i ∉ ws) ∨ ∀ e ∈ es, afterB l e i = true
  edst : ∀ e ∈ es, dstAt l e = none
  ord : ∀ pre x post, xs = pre ++ x :: post → x ∈ ws → ∀ i ∈ post, ∃ m ∈ x :: post, afterB l i m = true
  nodup : xs.Nodup
theorem readsB_spec {l : List Oper} {i : Nat} {pre : List Nat} (h : readsB l i pre = true) : ∀ o, l[i]? = some o → ∀ t ∈ o.looksAt l.toArray, ∀ i', i' < l.length → dstAt l i' = some t → afterB l i i' = true ∧ i' ∈ pre := by
  intro o ho t ht i' hi' hd
  unfold readsB at h
  rw [ho] at h
  simp only [Option.map_some, Option.getD_some] at h
  have h' := List.all_eq_true.1 (List.all_eq_true.1 h t ht) i' (List.mem_range.2 hi')
  simp only [Bool.or_eq_true, bne_iff_ne, Bool.and_eq_true, List.contains_eq_mem, decide_eq_true_eq] at h'
  rcases h' with h' | h'
  · exact absurd hd h'
  · exact h'
theorem depsB_spec {l : List Oper} : ∀ (xs acc : List Nat), depsB l acc xs = true → ∀ pre i post, xs = pre ++ i :: post → readsB l i (acc ++ pre) = true
  | [], acc, _, pre, i, post, e => by simp at e
  | x :: xs, acc, h, pre, i, post, e => by
    simp only [depsB, Bool.and_eq_true] at h
    cases pre with
    | nil => simp at e; obtain ⟨rfl, rfl⟩ := e; simpa using h.1
    | cons p pre =>
      simp at e
      obtain ⟨rfl, rfl⟩ := e
      have := depsB_spec _ _ h.2 pre i post rfl
      simpa using this
theorem ordB_spec {l : List Oper} {ws : List Nat} : ∀ (xs : List Nat), ordB l ws xs = true → ∀ pre x post, xs = pre ++ x :: post → x ∈ ws → ∀ i ∈ post, ∃ m ∈ x :: post, afterB l i m = true
  | [], _, pre, x, post, e => by simp at e
  | y :: xs, h, pre, x, post, e => by
    simp only [ordB, Bool.and_eq_true] at h
    cases pre with
    | nil =>
      simp at e
      obtain ⟨rfl, rfl⟩ := e
      intro hx i hi
      have h1 := h.1
      simp only [Bool.or_eq_true, Bool.not_eq_true', List.contains_eq_mem, decide_eq_false_iff_not] at h1
      have h2 := h1.resolve_left (fun hn => hn hx)
      obtain ⟨m, hm, h3⟩ := List.any_eq_true.1 (List.all_eq_true.1 h2 i hi)
      exact ⟨m, hm, h3⟩
    | cons p pre =>
      simp at e
      obtain ⟨rfl, rfl⟩ := e
      exact ordB_spec _ h.2 pre x post rfl
theorem flowOk {l : List Oper} {xs ws es : List Nat} {j : Nat} (h : flowB l xs ws es j = true) : FlowOk l xs ws es j := by
  unfold flowB at h
  simp only [Bool.and_eq_true] at h
  obtain ⟨⟨⟨⟨⟨⟨⟨⟨⟨⟨⟨⟨⟨⟨⟨h1, h2⟩, h3⟩, h4⟩, h5⟩, h6⟩, h7⟩, h8⟩, h9⟩, h10⟩, h11⟩, h12⟩, h13⟩, h14⟩, h15⟩, h16⟩ := h
  refine ⟨upS_pair h1, h2, h3, h4, fun i hi => ?_, fun i hi => ?_, fun i hi => ?_, fun i hi hne => ?_, fun pre i post e o ho t ht i' hi' hd => ?_, fun i hi o ho t ht i' hi' hd => ?_, fun e he e' he' hlt => ?_, fun e he hj => ?_, fun i hi o ho => ?_, fun e he => ?_, ordB_spec _ h15, of_decide_eq_true h16⟩
  · have := List.all_eq_true.1 h5 i hi
    simp only [Bool.and_eq_true, decide_eq_true_eq, bne_iff_ne, Bool.not_eq_true', List.contains_eq_mem, decide_eq_false_iff_not] at this
    exact ⟨this.1.1, this.1.2, this.2⟩
  · have := List.all_eq_true.1 h6 i hi
    simp only [Bool.and_eq_true, decide_eq_true_eq, bne_iff_ne] at this
    exact this
  · have := List.all_eq_true.1 h7 i (List.mem_range.2 hi)
    simp only [Bool.or_eq_true, List.contains_eq_mem, decide_eq_true_eq, beq_iff_eq] at this
    rcases this with (h | h) | h
    · exact .inl h
    · exact .inr (.inl h)
    · exact .inr (.inr h)
  · have h := List.all_eq_true.1 h8 i (List.mem_range.2 hi)
    simp only [Bool.or_eq_true, List.contains_eq_mem, decide_eq_true_eq] at h
    rcases h with h | h
    · exact absurd h hne
    · simp only [Bool.and_eq_true] at h
      obtain ⟨d, hd⟩ := Option.isSome_iff_exists.1 h.1
      refine ⟨d, hd, fun i' hi' hd' => ?_⟩
      have h' := List.all_eq_true.1 h.2 i' (List.mem_range.2 hi')
      simp only [Bool.or_eq_true, beq_iff_eq, bne_iff_ne] at h'
      rcases h' with h' | h'
      · exact h'.symm
      · exact absurd (hd.trans hd'.symm) h'
  · exact readsB_spec (by simpa using depsB_spec _ _ h9 pre i post e) o ho t ht i' hi' hd
  · exact (readsB_spec (List.all_eq_true.1 h10 i hi) o ho t ht i' hi' hd).1
  · have := List.all_eq_true.1 (List.all_eq_true.1 h11 e he) e' he'
    simp only [Bool.or_eq_true, decide_eq_true_eq] at this
    exact this.resolve_left (by omega)
  · have := List.all_eq_true.1 h12 e he
    simp only [Bool.or_eq_true, decide_eq_true_eq] at this
    exact this.resolve_left (by omega)
  · have := List.all_eq_true.1 h13 i hi
    rw [ho] at this
    simp only [Option.map_some, Option.getD_some, Bool.or_eq_true, Bool.and_eq_true, Bool.not_eq_true', List.contains_eq_mem, decide_eq_false_iff_not] at this
    rcases this with h | h
    · exact .inl h
    · exact .inr fun e he => List.all_eq_true.1 h e he
  · have := List.all_eq_true.1 h14 e he
    simpa using this

/-- A frame: S's slots as in A, the others as in 'base'. -/
structure Mixed (l : List Oper) (S : Nat → Prop) (A base a : Act) : Prop where
  defers : a.defers = base.defers
  size : a.tmps.size = base.tmps.size
  in_ : ∀ i, S i → ∀ t, dstAt l i = some t → a.tmps.getD t undef = A.tmps.getD t undef
  out : ∀ t, (∀ i, S i → dstAt l i ≠ some t) → a.tmps.getD t undef = base.tmps.getD t undef

section
variable {F : Fence} {n : Nat} {P : Program} {l : List Oper}
section
variable {S S' : Nat → Prop} {A A' base a : Act}
theorem Mixed.nil (h : ∀ i, ¬ S i) : Mixed l S A base base := ⟨rfl, rfl, fun i hi => absurd hi (h i), fun _ _ => rfl⟩
theorem Mixed.congr (h : Mixed l S A base a) (hS : ∀ i, S i ↔ S' i) : Mixed l S' A base a := ⟨h.defers, h.size, fun i hi => h.in_ i ((hS i).2 hi), fun t ht => h.out t fun i hi => ht i ((hS i).1 hi)⟩
theorem Mixed.change (h : Mixed l S A base a) (hA : ∀ i, S i → ∀ t, dstAt l i = some t → A.tmps.getD t undef = A'.tmps.getD t undef) : Mixed l S A' base a := ⟨h.defers, h.size, fun i hi t ht => (h.in_ i hi t ht).trans (hA i hi t ht), h.out⟩
/-- One more. -/
theorem Mixed.step (h : Mixed l S A base a) {i : Nat} {d : Tmp} (hd : dstAt l i = some d) (hu : ∀ i', S i' → dstAt l i' = some d → i' = i) (hsz : d < base.tmps.size) : Mixed l (fun k => S k ∨ k = i) A base (a.put (some d) (A.tmps.getD d undef)) := by
  have hp : (a.put (some d) (A.tmps.getD d undef)).tmps = a.tmps.setIfInBounds d (A.tmps.getD d undef) := rfl
  refine ⟨h.defers, by rw [hp]; simpa using h.size, fun k hk t ht => ?_, fun t ht => ?_⟩
  · by_cases e : t = d
    · subst e
      rw [hp, getD_set_same _ _ _ (by rw [h.size]; exact hsz)]
    · rw [hp, getD_set_other _ _ (Ne.symm e)]
      rcases hk with hk | rfl
      · exact h.in_ k hk t ht
      · rw [hd] at ht; exact absurd (Option.some.inj ht).symm e
  · have e : d ≠ t := fun e => ht i (.inr rfl) (by rw [hd, e])
    rw [hp, getD_set_other _ _ e]
    exact h.out t fun k hk => ht k (.inl hk)
/-- Two of them, one on the other. -/
theorem Mixed.trans (h : Mixed l S A' A a) (k : Mixed l S' A' base A) : Mixed l (fun i => S i ∨ S' i) A' base a := by
  refine ⟨h.defers.trans k.defers, h.size.trans k.size, fun i hi t ht => ?_, fun t ht => ?_⟩
  · by_cases hex : ∃ i', S i' ∧ dstAt l i' = some t
    · obtain ⟨i', h1, h2⟩ := hex
      exact h.in_ i' h1 t h2
    · rw [h.out t (fun i' h1 h2 => hex ⟨i', h1, h2⟩)]
      rcases hi with hi | hi
      · exact absurd ⟨i, hi, ht⟩ hex
      · exact k.in_ i hi t ht
  · rw [h.out t (fun i hi => ht i (.inl hi))]
    exact k.out t fun i hi => ht i (.inr hi)
end

/-- The walk of a run of quiet operations. -/
theorem quiet_seq {C : World → Prop} {A : Act} : ∀ (qs : List Nat) (base : Act), (∀ i ∈ qs, i < l.length ∧ ∃ d, dstAt l i = some d ∧ d < base.tmps.size ∧ ∀ i' ∈ qs, dstAt l i' = some d → i' = i) → qs.Nodup →
    wpQuietIn F n P l.toArray C (fun a2 => a2 = A) (pick l qs) base →
    Mixed l (· ∈ qs) A base A ∧ ∀ pre i post, qs = pre ++ i :: post → ∀ o, l[i]? = some o → ∃ LF, Mixed l (· ∈ pre) A base LF ∧ YieldsQuiet F n P l.toArray C o (valOf l A i) LF
  | [], base, _, _, h => by
    have e : base = A := h
    subst e
    exact ⟨Mixed.nil (by simp), fun pre i post e => by simp at e⟩
  | i0 :: qs, base, hq, hnd, h => by
    obtain ⟨hlt, d, hd, hsz, hun⟩ := hq i0 (by simp)
    have ho : l[i0]? = some l[i0] := List.getElem?_eq_getElem hlt
    rw [pick_cons ho] at h
    have hdo : (l[i0]).dst = some d := by unfold dstAt at hd; rw [ho] at hd; exact hd
    have main : ∃ v, YieldsQuiet F n P l.toArray C l[i0] v base ∧ wpQuietIn F n P l.toArray C (fun a2 => a2 = A) (pick l qs) (base.put (some d) v) := by
      obtain ⟨ha, h2⟩ := h
      by_cases hw : Region.wanted l[i0] (yielded l.toArray base.tmps) = true
      · rw [if_pos hw] at h2
        obtain ⟨v, h3, h4⟩ := h2
        exact ⟨v, ⟨ha, .inl ⟨hw, h3⟩⟩, by rw [← hdo]; exact h4⟩
      · rw [if_neg hw] at h2
        exact ⟨undef, ⟨ha, .inr ⟨by simpa using hw, rfl⟩⟩, by rw [← hdo]; exact h2⟩
    obtain ⟨v, hy, hr⟩ := main
    rw [List.nodup_cons] at hnd
    have hbs : (base.put (some d) v).tmps.size = base.tmps.size := by simp [Act.put]
    have hpt : (base.put (some d) v).tmps = base.tmps.setIfInBounds d v := rfl
    obtain ⟨i1, i2⟩ := quiet_seq qs (base.put (some d) v) (fun i hi => by
      obtain ⟨g1, d', g2, g3, g4⟩ := hq i (by simp [hi])
      exact ⟨g1, d', g2, by rw [hbs]; exact g3, fun i' hi' => g4 i' (by simp [hi'])⟩) hnd.2 hr
    have hnod : ∀ i ∈ qs, dstAt l i ≠ some d := fun i hi e => by
      have := hun i (by simp [hi]) e
      subst this
      exact hnd.1 hi
    have hAd : A.tmps.getD d undef = v := by
      rw [i1.out d hnod, hpt, getD_set_same _ _ _ hsz]
    have hv : valOf l A i0 = v := by unfold valOf; rw [hd]; exact hAd
    have up : ∀ {S : Nat → Prop} {LF : Act}, (∀ i, S i → i ∈ qs) → Mixed l S A (base.put (some d) v) LF → Mixed l (fun k => k = i0 ∨ S k) A base LF := by
      intro S LF hS hm
      refine ⟨hm.defers, hm.size.trans hbs, fun i hi t ht => ?_, fun t ht => ?_⟩
      · rcases hi with rfl | hi
        · rw [hd] at ht; cases ht
          rw [hm.out d (fun i' hi' => hnod i' (hS i' hi')), hpt, getD_set_same _ _ _ hsz, hAd]
        · exact hm.in_ i hi t ht
      · have e : d ≠ t := fun e => ht i0 (.inl rfl) (by rw [hd, e])
        rw [hm.out t (fun i hi => ht i (.inr hi)), hpt, getD_set_other _ _ e]
    refine ⟨(up (fun i hi => hi) i1).congr (by simp), fun pre i post e o hol => ?_⟩
    cases pre with
    | nil =>
      simp at e
      obtain ⟨rfl, rfl⟩ := e
      rw [ho] at hol
      cases hol
      exact ⟨base, Mixed.nil (by simp), by rw [hv]; exact hy⟩
    | cons p pre =>
      simp at e
      obtain ⟨rfl, rfl⟩ := e
      obtain ⟨LF, h5, h6⟩ := i2 pre i post rfl o hol
      exact ⟨LF, (up (fun k hk => by simp [hk]) h5).congr (by simp), h6⟩

theorem wpListIn_relD {ops : Array Oper} {o : Oper} {a A : Act} {W : World} {K K' : Act → World → Prop} {Q : Exit → Act → World → Prop} (hsel : ∀ cs b, o.op ≠ .select cs b) (hnd : ∀ c, o.op ≠ .defer c) (hz : a.tmps.size = A.tmps.size) (hag : ∀ t ∈ o.looksAt ops, A.tmps.getD t undef = a.tmps.getD t undef)
    (h : wpListIn F n P ops (Exit.then K (fun _ _ _ => False)) [o] A W) (hK : ∀ A' a' W' v, A'.tmps = (A.put o.dst v).tmps → a'.tmps = (a.put o.dst v).tmps → (A'.defers = A.defers → a'.defers = a.defers) → K A' W' → K' a' W') : wpListIn F n P ops (Exit.then K' Q) [o] a W := by
  have pd : ∀ (x : Act) (v : Value), (x.put o.dst v).defers = x.defers := fun x v => by cases o.dst <;> rfl
  simp only [wpListIn] at h ⊢
  rw [wanted_agree hz.symm hag] at h
  split
  · rename_i hw
    rw [if_pos hw] at h
    unfold Oper.wpIn at h ⊢
    rw [Oper.semAt_eq _ _ _ hnd] at h ⊢
    rw [execOp_agree hsel hag] at h
    refine ⟨fun f hf => h.1 f (by rw [about_agree W hag]; exact hf), ?_⟩
    have h4 := h.2
    generalize (execOp a.eval o).run P W = r at h4 ⊢
    cases r with
    | ok x w' =>
      cases x <;> simp only [Oper.uponIn, Exit.then] at h4 ⊢ <;>
        first
          | exact hK _ _ _ _ rfl rfl (fun _ => pd a _) h4
          | exact hK _ _ _ undef (by cases o.dst <;> rfl) (by cases o.dst <;> rfl) (fun e => by
              have e2 : ∀ (x : Act) (v : Value), (x.put o.dst v).defers = x.defers := pd
              rw [e2] at e
              exact absurd e (by simp)) h4
          | exact ⟨h4.1, CallsIn.mono h4.2 (fun e w'' he => by cases e <;> first | exact hK _ _ _ _ rfl rfl (fun _ => pd a _) he | exact False.elim he | (obtain ⟨_, _, he⟩ := he; exact False.elim he))⟩
          | exact ⟨h4.1, RoundIn.mono h4.2 (fun e w'' he => by cases e <;> first | exact hK _ _ _ _ rfl rfl (fun _ => pd a _) he | exact False.elim he | (obtain ⟨_, _, he⟩ := he; exact False.elim he))⟩
          | exact ⟨h4.1, RowsIn.mono h4.2 (fun v w'' he => hK _ _ _ _ rfl rfl (fun _ => pd a _) he)⟩
          | exact h4
          | exact False.elim h4
    | halt x w' => cases x <;> simp only [Oper.uponIn, Exit.then] at h4 ⊢ <;> first | exact h4 | exact False.elim h4
  · rename_i hw
    rw [if_neg hw] at h
    refine ⟨fun f hf => h.1 f (by rw [about_agree W hag]; exact hf), ?_⟩
    exact hK _ _ _ undef rfl rfl (fun _ => pd a _) h.2

/-- What asks nothing of the world yields its value in every world. -/
def YieldsAll (F : Fence) (P : Program) (ops : Array Oper) (o : Oper) (v : Value) (a : Act) : Prop :=
  (∀ W f, o.about P W a.eval = some f → F.fn f) ∧ ((Region.wanted o (yielded ops a.tmps) = true ∧ ∀ W, (execOp a.eval o).run P W = .ok (.value v) W) ∨ (Region.wanted o (yielded ops a.tmps) = false ∧ v = undef))
theorem late_yields {ops : Array Oper} {C : World → Prop} {o : Oper} {v : Value} {a : Act} (hl : lateB o = true) (hC : ∃ W, C W) (hy : YieldsQuiet F n P ops C o v a) : YieldsAll F P ops o v a := by
  obtain ⟨W0, hW0⟩ := hC
  obtain ⟨dst, op, type, pos, after, guard⟩ := o
  refine ⟨fun W f hf => ?_, ?_⟩
  · unfold lateB at hl
    cases op <;> simp only at hl <;> first | (cases hl; done) | (have h0 : (none : Option FuncId) = some f := hf; cases h0)
  · rcases hy.2 with ⟨hw, hv⟩ | h
    · refine .inl ⟨hw, fun W => ?_⟩
      have h3 := hv W0 hW0
      unfold Oper.quietAtIn at h3
      unfold lateB at hl
      cases op <;> simp only at hl <;> first | (cases hl; done) | skip
      · simp only [execOp, Sem.run_pure, Oper.quietUponIn] at h3 ⊢
        rw [h3.2]
      · simp only [execOp, Sem.run_pure, Oper.quietUponIn] at h3 ⊢
        rw [h3.2]
      · rename_i t ix
        simp only [execOp] at h3 ⊢
        unfold Instr.extract at h3 ⊢
        cases hv : a.eval t <;> rw [hv] at h3 <;> simp only [Sem.run_bind] at h3 ⊢
        case tuple xs =>
          cases hx : xs[ix]? <;> simp [hx, Sem.run_pure, Result.andThen, Oper.quietUponIn] at h3 ⊢
          exact h3
        all_goals simp [Result.andThen, Oper.quietUponIn] at h3
    · exact .inr h
theorem YieldsAll.agree {ops : Array Oper} {o : Oper} {v : Value} {a a' : Act} (hy : YieldsAll F P ops o v a) (hs : ∀ cs b, o.op ≠ .select cs b) (hz : a.tmps.size = a'.tmps.size) (h : ∀ t ∈ o.looksAt ops, a.tmps.getD t undef = a'.tmps.getD t undef) : YieldsAll F P ops o v a' := by
  unfold YieldsAll at hy ⊢
  rw [← execOp_agree hs h, ← wanted_agree hz h]
  exact ⟨fun W f hf => hy.1 W f (by rw [about_agree W h]; exact hf), hy.2⟩
end
end Go.Proofs.YtahkjagjcogeiaaDoor
/- The law of a drawn region by stages. -/
namespace Go.Proofs.YtahkjagjcogeiaaDoor
open Go.RowKit
set_option linter.unusedVariables false

/-- A class of worlds above V that is shut under growth. -/
def Good (V : World) (C : World → Prop) : Prop := (∃ W, C W) ∧ (∀ W, C W → Below V.heap.size V W) ∧ ∀ W W', C W → Below W.heap.size W W' → C W'
theorem Good.above (V : World) : Good V fun W => Below V.heap.size V W := ⟨⟨V, Below.refl _ _⟩, fun _ h => h, fun _ _ h k => h.trans (k.mono h.size)⟩
theorem Good.up {V V' : World} {C : World → Prop} (h : Good V' C) (hb : Below V.heap.size V V') : Good V C := ⟨h.1, fun W hW => hb.trans ((h.2.1 W hW).mono hb.size), h.2.2⟩

section
variable {F : Fence} {n : Nat} {P : Program} {l : List Oper}
/-- Quiet operations, in whatever world above V. -/
def Quietly (F : Fence) (n : Nat) (P : Program) (l : List Oper) (V : World) (qs : List Oper) (a A : Act) : Prop :=
  ∀ (σ : Type) (_ : Nonempty σ) (of : σ → World), (∀ z, Below V.heap.size V (of z)) → (∀ z W', Below (of z).heap.size (of z) W' → Cls of W') → wpQuietIn F n P l.toArray (Cls of) (fun a2 => a2 = A) qs a
theorem Quietly.cls {V : World} {qs : List Oper} {a A : Act} (hq : Quietly F n P l V qs a A) {C : World → Prop} (hC : Good V C) : wpQuietIn F n P l.toArray C (fun a2 => a2 = A) qs a := by
  obtain ⟨⟨W0, h0⟩, h1, h2⟩ := hC
  have e : C = Cls (fun z : { W : World // C W } => z.1) := by
    funext W
    exact propext ⟨fun h => ⟨⟨W, h⟩, rfl⟩, fun ⟨z, hz⟩ => by rw [hz]; exact z.2⟩
  rw [e]
  exact hq _ ⟨⟨W0, h0⟩⟩ _ (fun z => h1 _ z.2) (fun z W' hb => ⟨⟨W', h2 _ _ z.2 hb⟩, rfl⟩)

theorem Quietly.none {V : World} {a : Act} : Quietly F n P l V (pickB l []) a a := fun _ _ _ _ _ => by cases l <;> exact rfl

/-- The effects, one behind the other. -/
def wpT (F : Fence) (n : Nat) (P : Program) (ops : Array Oper) (Qn : Act → World → Prop) : List Oper → Act → World → Prop
  | [], a, w => Qn a w
  | o :: r, a, w => wpListIn F n P ops (Exit.then (wpT F n P ops Qn r) (fun _ _ _ => False)) [o] a w
theorem wpT_nil {ops : Array Oper} {Qn : Act → World → Prop} {a : Act} {w : World} (h : Qn a w) : wpT F n P ops Qn [] a w := h
theorem wpT_cons {ops : Array Oper} {Qn : Act → World → Prop} {o : Oper} {r : List Oper} {a : Act} {w : World} (h : wpListIn F n P ops (Exit.then (wpT F n P ops Qn r) (fun _ _ _ => False)) [o] a w) : wpT F n P ops Qn (o :: r) a w := h

/-- Stage by stage: quiet operations, then one that may make memory. -/
def wpFlow (F : Fence) (n : Nat) (P : Program) (l : List Oper) (tail : List (Nat × Nat) → World → Act → Prop) : List (List Bool × Nat) → List Bool → List (Nat × Nat) → World → Act → Prop
  | [], fin, I, V, a => ∃ A, Quietly F n P l V (pickB l fin) a A ∧ tail I V A
  | (m, x) :: r, fin, I, V, a => ∃ A, Quietly F n P l V (pickB l m) a A ∧ ∃ o, l[x]? = some o ∧ ∀ W, Below V.heap.size V W →
      wpListIn F n P l.toArray (Exit.then (fun a' W' => a'.defers = A.defers ∧ Below W.heap.size W W' ∧ wpFlow F n P l tail r fin ((W.heap.size, W'.heap.size) :: I) W' a') (fun _ _ _ => False)) [o] A W
theorem wpFlow_nil {tail : List (Nat × Nat) → World → Act → Prop} {fin : List Bool} {I : List (Nat × Nat)} {V : World} {a A : Act} (hq : Quietly F n P l V (pickB l fin) a A) (h : tail I V A) : wpFlow F n P l tail [] fin I V a := ⟨A, hq, h⟩
theorem wpFlow_cons {tail : List (Nat × Nat) → World → Act → Prop} {m : List Bool} {x : Nat} {r : List (List Bool × Nat)} {fin : List Bool} {I : List (Nat × Nat)} {V : World} {a A : Act} {o : Oper} (ho : l[x]? = some o) (hq : Quietly F n P l V (pickB l m) a A)
    (h : ∀ W, Below V.heap.size V W → wpListIn F n P l.toArray (Exit.then (fun a' W' => a'.defers = A.defers ∧ Below W.heap.size W W' ∧ wpFlow F n P l tail r fin ((W.heap.size, W'.heap.size) :: I) W' a') (fun _ _ _ => False)) [o] A W) : wpFlow F n P l tail ((m, x) :: r) fin I V a := ⟨A, hq, o, ho, h⟩

/-- What is next. -/
def NextF (F : Fence) (n : Nat) (P : Program) (l : List Oper) (tail : List (Nat × Nat) → World → Act → Prop) (ws : List Nat) (fin : List Bool) (later : List Nat) (I : List (Nat × Nat)) (V : World) (A : Act) : Prop :=
  (later = [] ∧ tail I V A) ∨ ∃ x r o, later = x :: xsOf r fin ∧ x ∈ ws ∧ (∀ p ∈ r, p.2 ∈ ws ∧ p.1.length ≤ l.length) ∧ l[x]? = some o ∧ ∀ W, Below V.heap.size V W →
      wpListIn F n P l.toArray (Exit.then (fun a' W' => a'.defers = A.defers ∧ Below W.heap.size W W' ∧ wpFlow F n P l tail r fin ((W.heap.size, W'.heap.size) :: I) W' a') (fun _ _ _ => False)) [o] A W
/-- It may come up, and yields what A says. -/
def AvF (F : Fence) (n : Nat) (P : Program) (l : List Oper) (xs : List Nat) (a0 : Act) (ys : List Nat) (V : World) (A : Act) (i : Nat) : Prop :=
  ∀ o, l[i]? = some o → ∃ pre post, xs = pre ++ i :: post ∧ (∀ k ∈ pre, k ∈ ys) ∧ ∀ C, Good V C → ∃ LF, Mixed l (· ∈ pre) A a0 LF ∧ YieldsQuiet F n P l.toArray C o (valOf l A i) LF
section
variable {xs ws es : List Nat} {j : Nat} {a0 : Act} {tail : List (Nat × Nat) → World → Act → Prop} {fin : List Bool}
theorem enter_core (ok : FlowOk l xs ws es j) (hs : slotsM l a0.tmps.size = true) {ys qs rest : List Nat} {V : World} {A1 A : Act} (hx : xs = ys ++ (qs ++ rest)) (hA1 : Mixed l (· ∈ ys) A1 a0 A1) (hq : Quietly F n P l V (pick l qs) A1 A) :
    Mixed l (· ∈ ys ++ qs) A a0 A ∧ (∀ i ∈ ys, ∀ t, dstAt l i = some t → A1.tmps.getD t undef = A.tmps.getD t undef) ∧ ∀ i ∈ qs, AvF F n P l xs a0 (ys ++ qs) V A i := by
  have hslot : ∀ i, i < l.length → ∀ d, dstAt l i = some d → d < a0.tmps.size := fun i hi d hd => by
    have := List.all_eq_true.1 hs i (List.mem_range.2 hi)
    rw [hd] at this
    simpa using this
  have hnd := ok.nodup
  rw [hx, List.nodup_append] at hnd
  obtain ⟨_, hnd2, hdis⟩ := hnd
  have hqx : ∀ i ∈ qs, i ∈ xs := fun i hi => by rw [hx]; simp [hi]
  have hyx : ∀ i ∈ ys, i ∈ xs := fun i hi => by rw [hx]; simp [hi]
  have hcond : ∀ i ∈ qs, i < l.length ∧ ∃ d, dstAt l i = some d ∧ d < A1.tmps.size ∧ ∀ i' ∈ qs, dstAt l i' = some d → i' = i := fun i hi => by
    obtain ⟨h1, h2, h3⟩ := ok.x i (hqx i hi)
    obtain ⟨d, h4, h5⟩ := ok.own i h1 h3
    exact ⟨h1, d, h4, by rw [hA1.size]; exact hslot i h1 d h4, fun i' hi' hd' => h5 i' (ok.x i' (hqx i' hi')).1 hd'⟩
  have hnq : qs.Nodup := (List.nodup_append.1 hnd2).1
  have S := fun (C : World → Prop) (hC : Good V C) => quiet_seq (F := F) (n := n) (P := P) (l := l) (C := C) (A := A) qs A1 hcond hnq (hq.cls hC)
  obtain ⟨M, _⟩ := S _ (Good.above V)
  have same : ∀ i ∈ ys, ∀ t, dstAt l i = some t → A1.tmps.getD t undef = A.tmps.getD t undef := fun i hi t ht => by
    refine (M.out t fun i' hi' hd' => ?_).symm
    obtain ⟨h1, h2, h3⟩ := ok.x i (hyx i hi)
    obtain ⟨d, h4, h5⟩ := ok.own i h1 h3
    rw [ht] at h4
    cases h4
    have := h5 i' (ok.x i' (hqx i' hi')).1 hd'
    subst this
    exact hdis i' hi i' (by simp [hi']) rfl
  have B := hA1.change same
  refine ⟨(M.trans B).congr (fun i => by simp [or_comm]), same, fun i hi o ho => ?_⟩
  obtain ⟨pre, post, e⟩ := List.append_of_mem hi
  refine ⟨ys ++ pre, post ++ rest, by rw [hx, e]; simp, fun k hk => ?_, fun C hC => ?_⟩
  · rw [e]
    rcases List.mem_append.1 hk with h | h <;> simp [h]
  · obtain ⟨LF, h1, h2⟩ := (S C hC).2 pre i post e o ho
    exact ⟨LF, (h1.trans B).congr (fun k => by simp [or_comm]), h2⟩
theorem flow_enter (ok : FlowOk l xs ws es j) (hs : slotsM l a0.tmps.size = true) (hfin : fin.length ≤ l.length) (r : List (List Bool × Nat)) (hr : ∀ p ∈ r, p.2 ∈ ws ∧ p.1.length ≤ l.length) {ys : List Nat} {I : List (Nat × Nat)} {V : World} {A1 : Act} (h : wpFlow F n P l tail r fin I V A1) (hx : xs = ys ++ xsOf r fin) (hA1 : Mixed l (· ∈ ys) A1 a0 A1) :
    ∃ qs later A, xs = (ys ++ qs) ++ later ∧ Mixed l (· ∈ ys ++ qs) A a0 A ∧ (∀ i ∈ ys, ∀ t, dstAt l i = some t → A1.tmps.getD t undef = A.tmps.getD t undef) ∧ (∀ i ∈ qs, AvF F n P l xs a0 (ys ++ qs) V A i) ∧ NextF F n P l tail ws fin later I V A := by
  cases r with
  | nil =>
    obtain ⟨A, hq, ht⟩ := h
    rw [pickB_all l fin hfin] at hq
    obtain ⟨h1, h2, h3⟩ := enter_core ok hs (rest := []) (by rw [hx]; simp [xsOf]) hA1 hq
    exact ⟨idxs 0 fin, [], A, by rw [hx]; simp [xsOf], h1, h2, h3, .inl ⟨rfl, ht⟩⟩
  | cons p r =>
    obtain ⟨m, x⟩ := p
    obtain ⟨A, hq, o, ho, hw⟩ := h
    obtain ⟨hxw, hm⟩ := hr (m, x) (by simp)
    rw [pickB_all l m hm] at hq
    obtain ⟨h1, h2, h3⟩ := enter_core ok hs (rest := x :: xsOf r fin) (by rw [hx]; simp [xsOf]) hA1 hq
    exact ⟨idxs 0 m, x :: xsOf r fin, A, by rw [hx]; simp [xsOf], h1, h2, h3, .inr ⟨x, r, o, rfl, hxw, fun p hp => hr p (by simp [hp]), ho, hw⟩⟩
end

/-- What the end is given: the new block's place. -/
def tailF (F : Fence) (n : Nat) (P : Program) (l : List Oper) (es : List Bool) (j : Nat) (dj : Tmp) (fv : Nat → Value) (ty : TypeId) (cs : Array Value) (V0 : World) (Qn : Act → World → Prop) : List (Nat × Nat) → World → Act → Prop := fun I V A =>
  ∀ b W, Below V.heap.size V W → (j < l.length → V0.heap.size ≤ b ∧ Blk W b ty cs ∧ ∀ p ∈ I, b < p.1 ∨ p.2 ≤ b) → wpT F n P l.toArray Qn (pickB l es) (if j < l.length then A.put (some dj) (fv b) else A) W

/-- THE LAW. -/
theorem wpIn_region_flow {Q : Exit → Act → World → Prop} {id : Nat} {a0 : Act} {w V0 : World} (stages : List (List Bool × Nat)) (fin em : List Bool) (j : Nat) (dj : Tmp) (fv : Nat → Value) (ty : TypeId) (cs : Array Value)
    (hm : P.follows .mixedOrders = true) (hB : (flowB l (xsOf stages fin) (stages.map (·.2)) (idxs 0 em) j && stages.all (fun p => decide (p.1.length ≤ l.length)) && decide (fin.length ≤ l.length) && decide (em.length ≤ l.length)) = true)
    (hs : slotsM l a0.tmps.size = true) (hV : Below V0.heap.size V0 w.drew)
    (hj : j < l.length → ∃ oj, l[j]? = some oj ∧ oj.dst = some dj ∧ oj.guard = none ∧ (∀ ρ W, oj.about P W ρ = none) ∧ ∀ ρ W, (execOp ρ oj).run P W = .ok (.value (fv W.heap.size)) (W.alloc (.cells cs ty)))
    (h : wpFlow F n P l (tailF F n P l em j dj fv ty cs V0 (Q .normal)) stages fin [] V0 a0) : (Code.region id l.toArray true).wpIn F n P Q a0 w := by
  simp only [Bool.and_eq_true, decide_eq_true_eq] at hB
  obtain ⟨⟨⟨hB, hst⟩, hfin⟩, hem⟩ := hB
  have ok := flowOk hB
  obtain ⟨xs, hxs⟩ : ∃ xs, xsOf stages fin = xs := ⟨_, rfl⟩
  obtain ⟨ws, hws⟩ : ∃ ws, stages.map (·.2) = ws := ⟨_, rfl⟩
  obtain ⟨es, hes⟩ : ∃ es, idxs 0 em = es := ⟨_, rfl⟩
  rw [hxs, hws, hes] at ok
  have hpe : pickB l em = pick l es := by rw [← hes]; exact pickB_all l em hem
  have hr0 : ∀ p ∈ stages, p.2 ∈ ws ∧ p.1.length ≤ l.length := fun p hp => ⟨by rw [← hws]; exact List.mem_map.2 ⟨p, hp, rfl⟩, by simpa using List.all_eq_true.1 hst p hp⟩
  have hnd : noDefer l.toArray := noDefer_of ok.nodef
  have hslot : ∀ i, i < l.length → ∀ d, dstAt l i = some d → d < a0.tmps.size := fun i hi d hd => by
    have := List.all_eq_true.1 hs i (List.mem_range.2 hi)
    rw [hd] at this
    simpa using this
  have hje : j < l.length → j ∉ es := fun hlt he => (ok.e j he).2 rfl
  have hdj : j < l.length → dstAt l j = some dj := fun hlt => by
    obtain ⟨oj, h1, h2, _⟩ := hj hlt
    unfold dstAt; rw [h1]; exact h2
  have hjd : j < l.length → ∀ i, i < l.length → dstAt l i = some dj → i = j := fun hlt i hi hd => by
    obtain ⟨d, h1, h2⟩ := ok.own j hlt (hje hlt)
    rw [hdj hlt] at h1
    cases h1
    exact h2 i hi hd
  let tail := tailF F n P l em j dj fv ty cs V0 (Q .normal)
  let cls : List (Nat × Nat) → World → Option Nat → World → Prop := fun I V ob W => Below V.heap.size V W ∧ ∀ b, ob = some b → V0.heap.size ≤ b ∧ Blk W b ty cs ∧ ∀ p ∈ I, b < p.1 ∨ p.2 ≤ b
  have growC : ∀ {I V ob W W'}, cls I V ob W → Below W.heap.size W W' → cls I V ob W' := fun hc hb => ⟨hc.1.trans (hb.mono hc.1.size), fun b e => ⟨(hc.2 b e).1, (hc.2 b e).2.1.below hb (hc.2 b e).2.1.lt, (hc.2 b e).2.2⟩⟩
  let wJ : Option Nat → Act → Act := fun ob a => match ob with
    | some b => a.put (some dj) (fv b)
    | none => a
  have wJs : ∀ ob a, (wJ ob a).tmps.size = a.tmps.size := fun ob a => by cases ob <;> simp [wJ, Act.put]
  have wJd : ∀ ob a, (wJ ob a).defers = a.defers := fun ob a => by cases ob <;> simp [wJ, Act.put]
  have wJo : ∀ ob a t, (ob.isSome = true → dj ≠ t) → (wJ ob a).tmps.getD t undef = a.tmps.getD t undef := fun ob a t ht => by
    cases ob with
    | none => rfl
    | some b => exact getD_set_other a.tmps (fv b) (ht rfl)
  have wJp : ∀ ob a d v, (ob.isSome = true → d ≠ dj) → (wJ ob a).put (some d) v = wJ ob (a.put (some d) v) := fun ob a d v hd => by
    cases ob with
    | none => rfl
    | some b => exact Act.put_comm a (x := some dj) (y := some d) (fv b) v (fun d' e => by cases e; intro e'; exact hd rfl (Option.some.inj e'))
  let StA : Array Bool → Act → World → Prop := fun listed a W => listed.size = l.length ∧ (∀ e ∈ es, listed.getD e false = false) ∧ ∃ (ys later : List Nat) (A : Act) (V : World) (I : List (Nat × Nat)) (ob : Option Nat) (a1 : Act), xs = ys ++ later ∧ (∀ i ∈ later, listed.getD i false = false) ∧ Mixed l (· ∈ ys) A a0 A ∧
    Mixed l (fun i => i ∈ xs ∧ listed.getD i false = true) A a0 a1 ∧ a = wJ ob a1 ∧ (∀ i ∈ ys, listed.getD i false = false → AvF F n P l xs a0 ys V A i) ∧ (j < l.length → listed.getD j false = ob.isSome) ∧ (l.length ≤ j → ob = none) ∧ cls I V ob W ∧ (∀ p ∈ I, p.2 ≤ V.heap.size) ∧ V0.heap.size ≤ V.heap.size ∧ NextF F n P l tail ws fin later I V A
  let Miss : Array Bool → Tmp → Prop := fun listed t => ∃ i ∈ xs, listed.getD i false = false ∧ dstAt l i = some t
  let StB : Array Bool → Act → World → Prop := fun listed a W => listed.size = l.length ∧ ∃ (A Ac : Act) (m : Nat), m ≤ es.length ∧ (∀ e ∈ es.take m, listed.getD e false = true) ∧ (∀ e ∈ es.drop m, listed.getD e false = false) ∧ (j < l.length → listed.getD j false = true) ∧ Rel (Miss listed) a Ac ∧ Ac.tmps.size = a0.tmps.size ∧
    (∀ i ∈ xs, ∀ t, dstAt l i = some t → Ac.tmps.getD t undef = A.tmps.getD t undef) ∧ (∀ t, (∀ i, i < l.length → dstAt l i ≠ some t) → Ac.tmps.getD t undef = a0.tmps.getD t undef) ∧
    (∀ i ∈ xs, listed.getD i false = false → ∀ o, l[i]? = some o → ∃ pre post LF, xs = pre ++ i :: post ∧ Mixed l (· ∈ pre) A a0 LF ∧ YieldsAll F P l.toArray o (valOf l A i) LF) ∧ wpT F n P l.toArray (Q .normal) (pick l (es.drop m)) Ac W
  have setD : ∀ (listed : Array Bool) (i i' : Nat), listed.size = l.length → i < l.length → (listed.setIfInBounds i true).getD i' false = done (fun i => listed.getD i false) i i' := fun listed i i' hsz hi => by
    unfold done
    by_cases e : i' = i
    · subst e
      rw [if_pos rfl, Array.getD_eq_getD_getElem?, Array.getElem?_setIfInBounds]
      have : i' < listed.size := by omega
      simp [this]
    · rw [if_neg e, getD_set_ne false (Ne.symm e)]
  have mixS : ∀ (listed : Array Bool) (i : Nat), listed.size = l.length → i < l.length → i ∈ xs → ∀ k, ((k ∈ xs ∧ listed.getD k false = true) ∨ k = i) ↔ (k ∈ xs ∧ (listed.setIfInBounds i true).getD k false = true) := fun listed i hsz hi hix k => by
    rw [setD listed i k hsz hi]
    unfold done
    by_cases e : k = i
    · subst e; simp [hix]
    · simp [e]
  have obJ : ∀ {ob : Option Nat}, (l.length ≤ j → ob = none) → ob.isSome = true → j < l.length := fun h h' => by
    rcases Nat.lt_or_ge j l.length with h1 | h1
    · exact h1
    · rw [h h1] at h'; cases h'
  -- what an operation reads
  have agreeA : ∀ {listed : Array Bool} {A LF a1 : Act} {ob : Option Nat} {pre post : List Nat} {i : Nat} {o : Oper}, l[i]? = some o → xs = pre ++ i :: post → (∀ i', afterB l i i' = true → listed.getD i' false = true) → (l.length ≤ j → ob = none) →
      Mixed l (· ∈ pre) A a0 LF → Mixed l (fun i => i ∈ xs ∧ listed.getD i false = true) A a0 a1 → ∀ t ∈ o.looksAt l.toArray, LF.tmps.getD t undef = (wJ ob a1).tmps.getD t undef := by
    intro listed A LF a1 ob pre post i o hol hx hwait hob hLF hM t ht
    by_cases hex : ∃ i', i' < l.length ∧ dstAt l i' = some t
    · obtain ⟨i', hi', hd⟩ := hex
      obtain ⟨h1, h2⟩ := ok.deps pre i post hx o hol t ht i' hi' hd
      have hix : i' ∈ xs := by rw [hx]; simp [h2]
      rw [wJo ob a1 t (fun hsm e => by
        have hlt := obJ hob hsm
        subst e
        exact (ok.x i' hix).2.1 (hjd hlt i' hi' hd)), hLF.in_ i' h2 t hd, hM.in_ i' ⟨hix, hwait i' h1⟩ t hd]
    · have hno : ∀ i', i' < l.length → dstAt l i' ≠ some t := fun i' hi' hd => hex ⟨i', hi', hd⟩
      rw [wJo ob a1 t (fun hsm e => by
        have hlt := obJ hob hsm
        subst e
        exact hno j hlt (hdj hlt)), hLF.out t (fun i' hi' => hno i' (ok.x i' (by rw [hx]; simp [hi'])).1), hM.out t (fun i' hi' => hno i' (ok.x i' hi'.1).1)]
  have toB : ∀ listed a W, StA listed a W → (j < l.length → listed.getD j false = true) → (∀ i ∈ xs, listed.getD i false = false → ∀ o, l[i]? = some o → lateB o = true ∧ i ∉ ws) → StB listed a W := by
    rintro listed a W ⟨hsz, hesl, ys, later, A, V, I, ob, a1, hx, hlater, hA, hM, rfl, hav, h1, h2, hc, hI, hVV, hnext⟩ hjl hfl
    have hlt : later = [] ∧ tail I V A := by
      rcases hnext with h | ⟨x, r, o, e, hxw, _, ho, _⟩
      · exact h
      · exact absurd hxw (hfl x (by rw [hx, e]; simp) (hlater x (by rw [e]; simp)) o ho).2
    obtain ⟨rfl, ht⟩ := hlt
    rw [List.append_nil] at hx
    have hyx : ∀ i, i ∈ ys ↔ i ∈ xs := fun i => by rw [hx]
    have hfacts : ∃ b, (j < l.length → ob = some b) ∧ (j < l.length → V0.heap.size ≤ b ∧ Blk W b ty cs ∧ ∀ p ∈ I, b < p.1 ∨ p.2 ≤ b) := by
      by_cases h : j < l.length
      · have h3 := h1 h
        rw [hjl h] at h3
        obtain ⟨b, rfl⟩ := Option.isSome_iff_exists.1 h3.symm
        exact ⟨b, fun _ => rfl, fun _ => hc.2 b rfl⟩
      · exact ⟨0, fun h' => absurd h' h, fun h' => absurd h' h⟩
    obtain ⟨b, hob, hblk⟩ := hfacts
    have hw := ht b W hc.1 hblk
    have hAc : (if j < l.length then A.put (some dj) (fv b) else A) = wJ ob A := by
      by_cases h : j < l.length
      · rw [if_pos h, hob h]
      · rw [if_neg h, h2 (by omega)]
    rw [hAc, hpe] at hw
    refine ⟨hsz, A, _, 0, Nat.zero_le _, (fun e he => by simp at he), (fun e he => hesl e (by simpa using he)), hjl, ⟨?_, ?_, fun t ht' => ?_⟩, ?_, fun i hi t hd => ?_, fun t hno => ?_, fun i hi hf o ho => ?_, by simpa using hw⟩
    · rw [wJd, wJd, hM.defers, hA.defers]
    · rw [wJs, wJs, hM.size, hA.size]
    · by_cases e : ob.isSome = true ∧ dj = t
      · obtain ⟨e1, rfl⟩ := e
        obtain ⟨b', rfl⟩ := Option.isSome_iff_exists.1 e1
        have hlt := obJ h2 e1
        show (a1.tmps.setIfInBounds dj (fv b')).getD dj undef = (A.tmps.setIfInBounds dj (fv b')).getD dj undef
        rw [getD_set_same _ _ _ (by rw [hM.size]; exact hslot j hlt dj (hdj hlt)), getD_set_same _ _ _ (by rw [hA.size]; exact hslot j hlt dj (hdj hlt))]
      · rw [wJo ob a1 t (fun h3 h4 => e ⟨h3, h4⟩), wJo ob A t (fun h3 h4 => e ⟨h3, h4⟩)]
        by_cases hex : ∃ i ∈ xs, dstAt l i = some t
        · obtain ⟨i, hi, hd⟩ := hex
          have hl : listed.getD i false = true := by
            cases hc' : listed.getD i false with
            | true => rfl
            | false => exact absurd ⟨i, hi, hc', hd⟩ ht'
          exact hM.in_ i ⟨hi, hl⟩ t hd
        · rw [hM.out t (fun i hi hd => hex ⟨i, hi.1, hd⟩), hA.out t (fun i hi hd => hex ⟨i, (hyx i).1 hi, hd⟩)]
    · rw [wJs, hA.size]
    · exact wJo ob A t (fun h3 h4 => (ok.x i hi).2.1 (hjd (obJ h2 h3) i (ok.x i hi).1 (by rw [hd, h4])))
    · rw [wJo ob A t (fun h3 h4 => hno j (obJ h2 h3) (by rw [hdj (obJ h2 h3), h4]))]
      exact hA.out t fun i hi => hno i (ok.x i ((hyx i).1 hi)).1
    · obtain ⟨pre, post, e1, e2, e3⟩ := hav i ((hyx i).2 hi) hf o ho
      obtain ⟨LF, h3, h4⟩ := e3 _ (Good.above V)
      exact ⟨pre, post, LF, e1, h3, late_yields (hfl i hi hf o ho).1 ⟨V, Below.refl _ _⟩ h4⟩
  let St : Array Bool → Act → World → Prop := fun listed a W => StA listed a W ∨ StB listed a W
  have stepB : ∀ listed a W i o, l[i]? = some o → listed.getD i true = false → (∀ i', afterB l i i' = true → listed.getD i' false = true) → StB listed a W → wpListIn F n P l.toArray (Exit.then (St (listed.setIfInBounds i true)) Q) [o] a W := by
    rintro listed a W i o hol hu hwait ⟨hsz, A, Ac, m, hm', ht, hdp, hjl, hR, hAcs, hAcx, hAco, hfl, hwp⟩
    have hi : i < l.length := (List.getElem?_eq_some_iff.1 hol).1
    have hfalse : listed.getD i false = false := getD_both hu
    have hsel : ∀ cs b, o.op ≠ .select cs b := fun cs b => Region.noSelect_spec ok.nosel i o cs b (by simpa using hol)
    rcases ok.part i hi with hix | hie | hij
    · obtain ⟨pre, post, LF, hx, hLF, hy⟩ := hfl i hix hfalse o hol
      have hag : ∀ t ∈ o.looksAt l.toArray, LF.tmps.getD t undef = a.tmps.getD t undef := fun t ht' => by
        by_cases hex : ∃ i', i' < l.length ∧ dstAt l i' = some t
        · obtain ⟨i', hi', hd⟩ := hex
          obtain ⟨h1, h2⟩ := ok.deps pre i post hx o hol t ht' i' hi' hd
          have hix' : i' ∈ xs := by rw [hx]; simp [h2]
          rw [hLF.in_ i' h2 t hd, hR.same t (fun ⟨i2, h5, h6, h7⟩ => by
            obtain ⟨d, h8, h9⟩ := ok.own i' hi' (ok.x i' hix').2.2
            rw [hd] at h8
            cases h8
            have := h9 i2 (ok.x i2 h5).1 h7
            subst this
            rw [hwait _ h1] at h6
            cases h6), hAcx i' hix' t hd]
        · have hno : ∀ i', i' < l.length → dstAt l i' ≠ some t := fun i' hi' hd => hex ⟨i', hi', hd⟩
          rw [hLF.out t (fun i' hi' => hno i' (ok.x i' (by rw [hx]; simp [hi'])).1), hR.same t (fun ⟨i2, h5, _, h7⟩ => hno i2 (ok.x i2 h5).1 h7), hAco t hno]
      have hya := hy.agree hsel (hLF.size.trans (hAcs.symm.trans hR.size.symm)) hag
      obtain ⟨d, hdi, huniq⟩ := ok.own i hi (ok.x i hix).2.2
      have hdo : o.dst = some d := by unfold dstAt at hdi; rw [hol] at hdi; exact hdi
      have hnext : St (listed.setIfInBounds i true) (a.put o.dst (valOf l A i)) W := by
        refine .inr ⟨by simpa using hsz, A, Ac, m, hm', fun e he => ?_, fun e he => ?_, fun h => ?_, ?_, hAcs, hAcx, hAco, fun i' hi' hf => ?_, hwp⟩
        · rw [setD _ _ _ hsz hi]; unfold done; split
          · rfl
          · exact ht e he
        · rw [setD _ _ _ hsz hi]; unfold done; rw [if_neg (fun e' => by subst e'; exact (ok.x e hix).2.2 (List.mem_of_mem_drop he))]; exact hdp e he
        · rw [setD _ _ _ hsz hi]; unfold done; split
          · rfl
          · exact hjl h
        · rw [hdo]
          refine ⟨hR.defers, by rw [← hR.size]; simp [Act.put], fun t ht' => ?_⟩
          by_cases e : t = d
          · subst e
            rw [show (a.put (some t) (valOf l A i)).tmps = a.tmps.setIfInBounds t (valOf l A i) from rfl, getD_set_same _ _ _ (by rw [hR.size, hAcs]; exact hslot i hi t hdi), hAcx i hix t hdi]
            unfold valOf; rw [hdi]; rfl
          · rw [show (a.put (some d) (valOf l A i)).tmps = a.tmps.setIfInBounds d (valOf l A i) from rfl, getD_set_other _ _ (Ne.symm e)]
            refine hR.same t fun ⟨i2, h5, h6, h7⟩ => ht' ⟨i2, h5, ?_, h7⟩
            rw [setD _ _ _ hsz hi]; unfold done
            rw [if_neg (fun e' => by subst e'; rw [hdi] at h7; exact e (Option.some.inj h7).symm)]
            exact h6
        · rw [setD _ _ _ hsz hi] at hf
          unfold done at hf
          split at hf
          · cases hf
          · exact hfl i' hi' hf
      simp only [wpListIn]
      rcases hya.2 with ⟨hw, hv⟩ | ⟨hw, hv⟩
      · rw [if_pos hw]
        unfold Oper.wpIn
        refine ⟨hya.1 W, ?_⟩
        rw [Oper.semAt_eq _ _ _ (hnd i o (by simpa using hol)), hv W]
        exact hnext
      · rw [if_neg (by rw [hw]; simp)]
        refine ⟨hya.1 W, ?_⟩
        rw [hv] at hnext
        exact hnext
    · have hmem : i ∈ es.drop m := by
        rcases (List.mem_append.1 (by rw [List.take_append_drop]; exact hie : i ∈ es.take m ++ es.drop m)) with h | h
        · rw [ht i h] at hfalse; cases hfalse
        · exact h
      have hml : m < es.length := by
        rcases Nat.lt_or_ge m es.length with h | h
        · exact h
        · rw [List.drop_of_length_le h] at hmem; cases hmem
      have hdrop : es.drop m = es[m] :: es.drop (m + 1) := List.drop_eq_getElem_cons hml
      have hie' : i = es[m] := by
        rw [hdrop] at hmem
        rcases List.mem_cons.1 hmem with h | h
        · exact h
        · exfalso
          have hlt : es[m] < i := by
            have hp := ok.upE.sublist (List.drop_sublist m es)
            rw [hdrop, List.pairwise_cons] at hp
            exact hp.1 i h
          have h1 := hwait _ (ok.chain i hie es[m] (List.getElem_mem _) hlt)
          rw [hdp es[m] (by rw [hdrop]; exact List.mem_cons_self)] at h1
          cases h1
      rw [hdrop, ← hie', pick_cons hol] at hwp
      have hdn : o.dst = none := by
        have := ok.edst i hie
        unfold dstAt at this
        rw [hol] at this
        exact this
      refine wpListIn_rel hsel (hnd i o (by simpa using hol)) hdn hR (fun t ht' => ?_) hwp ?_
      · rintro ⟨i2, h5, h6, h7⟩
        rw [hwait _ (ok.depsE i hie o hol t ht' i2 (ok.x i2 h5).1 h7)] at h6
        cases h6
      · rintro A' a' W' eA ea ed hwp'
        refine .inr ⟨by simpa using hsz, A, A', m + 1, hml, fun e he => ?_, fun e he => ?_, fun h => ?_, ?_, by rw [eA]; exact hAcs, by rw [eA]; exact hAcx, by rw [eA]; exact hAco, fun i' hi' hf => ?_, hwp'⟩
        · rw [setD _ _ _ hsz hi]; unfold done; split
          · rfl
          · rename_i hne
            rw [List.take_succ_eq_append_getElem hml] at he
            rcases List.mem_append.1 he with h | h
            · exact ht e h
            · exact absurd ((List.mem_singleton.1 h).trans hie'.symm) hne
        · rw [setD _ _ _ hsz hi]; unfold done
          have hne : e ≠ i := fun e' => by
            have hp := ok.upE.sublist (List.drop_sublist m es)
            rw [hdrop, List.pairwise_cons] at hp
            have := hp.1 e he
            omega
          rw [if_neg hne]
          exact hdp e (by rw [hdrop]; exact List.mem_cons_of_mem _ he)
        · rw [setD _ _ _ hsz hi]; unfold done; split
          · rfl
          · exact hjl h
        · refine ⟨ed, by rw [ea, eA]; exact hR.size, fun t ht' => ?_⟩
          rw [ea, eA]
          refine hR.same t fun ⟨i2, h5, h6, h7⟩ => ht' ⟨i2, h5, ?_, h7⟩
          rw [setD _ _ _ hsz hi]; unfold done
          rw [if_neg (fun e' => by subst e'; exact (ok.x i2 h5).2.2 hie)]
          exact h6
        · rw [setD _ _ _ hsz hi] at hf
          unfold done at hf
          split at hf
          · cases hf
          · exact hfl i' hi' hf
    · subst hij
      rw [hjl hi] at hfalse
      cases hfalse
  refine wpIn_region_inv hm St ?_ ?_ ?_ ?_
  · rintro listed a W (⟨h, _⟩ | ⟨h, _⟩) <;> simpa using h
  · obtain ⟨qs, later, A, hx, hA, _, hav, hnext⟩ := flow_enter (F := F) (n := n) (P := P) (tail := tail) (a0 := a0) ok hs hfin stages hr0 (ys := []) h (by simpa using hxs.symm) (Mixed.nil (by simp))
    have hrep : ∀ i, (Array.replicate l.toArray.size false).getD i false = false := fun i => getD_replicate_false _ _
    refine .inl ⟨by simp, fun e _ => hrep e, qs, later, A, V0, [], none, a0, by simpa using hx, fun i _ => hrep i, by simpa using hA, Mixed.nil (fun i hi => by rw [hrep i] at hi; cases hi.2), rfl, fun i hi _ => by simpa using hav i hi, fun _ => hrep j, fun _ => rfl, ⟨hV, fun b e => by cases e⟩, fun p hp => by simp at hp, Nat.le_refl _, hnext⟩
  · rintro listed a W i o ho hu hd hst
    have hol : l[i]? = some o := by simpa using ho
    have hi : i < l.length := (List.getElem?_eq_some_iff.1 hol).1
    have hwait : ∀ i', afterB l i i' = true → listed.getD i' false = true := fun i' h => by
      unfold afterB at h
      rw [hol] at h
      obtain ⟨e, he, h2⟩ := List.any_eq_true.1 h
      simp only [Bool.and_eq_true, beq_iff_eq] at h2
      rw [← h2.1]
      exact hd e (by simpa using he) h2.2
    rcases hst with hA0 | hBB
    · obtain ⟨hsz, hesl, ys, later, A, V, I, ob, a1, hx, hlater, hA, hM, rfl, hav, h1, h2, hc, hI, hVV, hnext⟩ := hA0
      have hfalse : listed.getD i false = false := getD_both hu
      have hsel : ∀ cs b, o.op ≠ .select cs b := fun cs b => Region.noSelect_spec ok.nosel i o cs b ho
      rcases ok.part i hi with hix | hie | hij
      · have hij : i ≠ j := (ok.x i hix).2.1
        obtain ⟨d, hdi, hun⟩ := ok.own i hi (ok.x i hix).2.2
        have hdo : o.dst = some d := by unfold dstAt at hdi; rw [hol] at hdi; exact hdi
        have hdd : ob.isSome = true → d ≠ dj := fun hsm e => by subst e; exact hij (hjd (obJ h2 hsm) i hi hdi)
        have e1 : ∀ e ∈ es, (listed.setIfInBounds i true).getD e false = false := fun e he => by
          rw [setD _ _ _ hsz hi]; unfold done
          rw [if_neg (fun e' => by subst e'; exact (ok.x e hix).2.2 he)]
          exact hesl e he
        have e2 : j < l.length → (listed.setIfInBounds i true).getD j false = ob.isSome := fun h => by
          rw [setD _ _ _ hsz hi]; unfold done
          rw [if_neg (Ne.symm hij)]
          exact h1 h
        have hmem : i ∈ ys ∨ i ∈ later := by rw [hx] at hix; exact List.mem_append.1 hix
        rcases hmem with hy | hlt
        · -- quiet
          obtain ⟨pre, post, hp1, hp2, hp3⟩ := hav i hy hfalse o hol
          obtain ⟨LF, hLF, hyq⟩ := hp3 (cls I V ob) ⟨⟨W, hc⟩, fun _ h => h.1, fun W W' h k => growC h k⟩
          have hag := agreeA hol hp1 hwait h2 hLF hM
          have hya := yields_agree hsel (hLF.size.trans ((wJs ob a1).trans hM.size).symm) hag hyq
          have hval : valOf l A i = A.tmps.getD d undef := by unfold valOf; rw [hdi]; rfl
          have hnx : ∀ W', cls I V ob W' → St (listed.setIfInBounds i true) ((wJ ob a1).put o.dst (valOf l A i)) W' := fun W' hW' => by
            refine .inl ⟨by simpa using hsz, e1, ys, later, A, V, I, ob, a1.put (some d) (A.tmps.getD d undef), hx, fun k hk => ?_, hA, (hM.step hdi (fun i' hi' hd' => hun i' (ok.x i' hi'.1).1 hd') (hslot i hi d hdi)).congr (mixS listed i hsz hi hix), by rw [hdo, hval]; exact wJp ob a1 d _ hdd, fun k hk hf => ?_, e2, h2, hW', hI, hVV, hnext⟩
            · rw [setD _ _ _ hsz hi]; unfold done
              rw [if_neg (fun e' => by
                subst e'
                have := ok.nodup
                rw [hx, List.nodup_append] at this
                exact this.2.2 k hy k hk rfl)]
              exact hlater k hk
            · rw [setD _ _ _ hsz hi] at hf
              unfold done at hf
              split at hf
              · cases hf
              · exact hav k hk hf
          simp only [wpListIn]
          rcases hya.2 with ⟨hw, hv⟩ | ⟨hw, hv⟩
          · rw [if_pos hw]
            exact wpIn_of_quiet' (K := fun a' => a' = (wJ ob a1).put o.dst (valOf l A i)) (hnd i o ho) hc (fun a' W' hW' ha' => by subst ha'; exact hnx W' hW') hya.1 ⟨_, hv, rfl⟩
          · rw [if_neg (by rw [hw]; simp)]
            refine ⟨hya.1 W hc, ?_⟩
            have := hnx W hc
            rw [hv] at this
            exact this
        · rcases hnext with ⟨h3, _⟩ | ⟨x, r, ox, he, hxw, hr, hox, hwx⟩
          · rw [h3] at hlt; cases hlt
          rw [he] at hlt
          rcases List.mem_cons.1 hlt with rfl | hlt
          · -- the next call
            obtain rfl : ox = o := Option.some.inj (hox.symm.trans hol)
            have hp1 : xs = ys ++ i :: xsOf r fin := by rw [hx, he]
            have hag := agreeA hol hp1 hwait h2 hA hM
            refine wpListIn_relD hsel (hnd i ox ho) (by rw [wJs, hM.size, hA.size]) hag (hwx W hc.1) ?_
            rintro A' a' W' v eA ea ed ⟨hdf, hbW, hfl⟩
            have hpd : ∀ (z : Act) (u : Value), (z.put ox.dst u).defers = z.defers := fun z u => by cases ox.dst <;> rfl
            have eA' : A' = A.put (some d) v := by
              obtain ⟨t1, d1⟩ := A'
              rw [hdo] at eA
              simp only at eA hdf
              subst eA hdf
              rfl
            have ea' : a' = (wJ ob a1).put (some d) v := by
              obtain ⟨t1, d1⟩ := a'
              rw [hdo] at ea
              have h5 := ed hdf
              simp only at ea h5
              subst ea h5
              rfl
            rw [eA'] at hfl
            have hA1 : Mixed l (· ∈ ys ++ [i]) (A.put (some d) v) a0 (A.put (some d) v) := by
              have hpt : (A.put (some d) v).tmps = A.tmps.setIfInBounds d v := rfl
              refine ⟨hA.defers, by rw [hpt]; simpa using hA.size, fun _ _ _ _ => rfl, fun t ht => ?_⟩
              rw [hpt, getD_set_other _ _ (fun e => ht i (by simp) (by rw [hdi, e]))]
              exact hA.out t fun k hk => ht k (by simp [hk])
            obtain ⟨qs, later', A2, hx2, hA2, hsame, hav2, hnext2⟩ := flow_enter (F := F) (n := n) (P := P) (tail := tail) (a0 := a0) ok hs hfin r hr (ys := ys ++ [i]) hfl (by rw [hp1]; simp) hA1
            have hbV : Below V.heap.size V W' := hc.1.trans (hbW.mono hc.1.size)
            have hdv : (A.put (some d) v).tmps.getD d undef = v := getD_set_same _ _ _ (by rw [hA.size]; exact hslot i hi d hdi)
            have hold : ∀ k ∈ ys, ∀ t, dstAt l k = some t → A.tmps.getD t undef = A2.tmps.getD t undef := fun k hk t hd => by
              rw [← hsame k (by simp [hk]) t hd]
              refine (getD_set_other _ _ (fun e => ?_)).symm
              subst e
              have hkx : k ∈ xs := by rw [hx]; simp [hk]
              have := hun k (ok.x k hkx).1 hd
              subst this
              have h6 := ok.nodup
              rw [hp1, List.nodup_append] at h6
              exact h6.2.2 k hk k (by simp) rfl
            have hlat : ∀ k ∈ later', k ∈ later := fun k hk => by
              have h6 : xs = ys ++ (i :: (qs ++ later')) := by rw [hx2]; simp
              rw [hp1] at h6
              have h7 := List.append_cancel_left h6
              rw [he, h7]
              simp [hk]
            have hlist : ∀ k, k ∈ xs ∧ listed.getD k false = true → k ∈ ys := fun k hk => by
              have := hk.1
              rw [hx] at this
              rcases List.mem_append.1 this with h | h
              · exact h
              · rw [hlater k h] at hk; cases hk.2
            have hM2 : Mixed l (fun k => k ∈ xs ∧ (listed.setIfInBounds i true).getD k false = true) A2 a0 (a1.put (some d) v) := by
              have h6 := (hM.change (A' := A2) (fun k hk t hd => hold k (hlist k hk) t hd)).step hdi (fun i' hi' hd' => hun i' (ok.x i' hi'.1).1 hd') (hslot i hi d hdi)
              have h7 : A2.tmps.getD d undef = v := by rw [← hsame i (by simp) d hdi]; exact hdv
              rw [h7] at h6
              exact h6.congr (mixS listed i hsz hi hix)
            refine .inl ⟨by simpa using hsz, e1, ys ++ [i] ++ qs, later', A2, W', (W.heap.size, W'.heap.size) :: I, ob, a1.put (some d) v, hx2, fun k hk => ?_, hA2, hM2, by rw [ea']; exact wJp ob a1 d v hdd, fun k hk hf => ?_, e2, h2, ⟨Below.refl _ _, fun b e => ?_⟩, fun p hp => ?_, Nat.le_trans hVV hbV.size, hnext2⟩
            · rw [setD _ _ _ hsz hi]; unfold done
              rw [if_neg (fun e' => by
                subst e'
                have := ok.nodup
                rw [hx2, List.nodup_append] at this
                exact this.2.2 k (by simp) k hk rfl)]
              exact hlater k (hlat k hk)
            · rw [setD _ _ _ hsz hi] at hf
              unfold done at hf
              split at hf
              · cases hf
              · rename_i hki
                rcases List.mem_append.1 hk with hk | hk
                · have hk' : k ∈ ys := by
                    rcases List.mem_append.1 hk with h | h
                    · exact h
                    · exact absurd (List.mem_singleton.1 h) hki
                  intro o' ho'
                  obtain ⟨pre, post, q1, q2, q3⟩ := hav k hk' hf o' ho'
                  refine ⟨pre, post, q1, fun k' hk2 => by simp [q2 k' hk2], fun C hC => ?_⟩
                  obtain ⟨LF, q4, q5⟩ := q3 C (hC.up hbV)
                  have hkv : valOf l A k = valOf l A2 k := by
                    have hkx : k ∈ xs := by rw [hx]; simp [hk']
                    obtain ⟨dk, g1, _⟩ := ok.own k (ok.x k hkx).1 (ok.x k hkx).2.2
                    unfold valOf
                    rw [g1]
                    exact hold k hk' dk g1
                  exact ⟨LF, q4.change (fun k2 hk2 t hd => hold k2 (q2 k2 hk2) t hd), by rw [← hkv]; exact q5⟩
                · exact hav2 k hk
            · obtain ⟨g1, g2, g3⟩ := hc.2 b e
              refine ⟨g1, g2.below hbW g2.lt, fun p hp => ?_⟩
              rcases List.mem_cons.1 hp with rfl | hp
              · exact .inl g2.lt
              · exact g3 p hp
            · rcases List.mem_cons.1 hp with rfl | hp
              · exact Nat.le_refl _
              · exact Nat.le_trans (hI p hp) hbV.size
          · -- not yet
            exfalso
            have hp1 : xs = ys ++ x :: xsOf r fin := by rw [hx, he]
            obtain ⟨m, hm1, hm2⟩ := ok.ord ys x _ hp1 hxw i hlt
            have := hwait m hm2
            rw [hlater m (by rw [he]; exact hm1)] at this
            cases this
      · refine stepB listed _ W i o hol hu hwait (toB listed _ W ⟨hsz, hesl, ys, later, A, V, I, ob, a1, hx, hlater, hA, hM, rfl, hav, h1, h2, hc, hI, hVV, hnext⟩ (fun h => hwait j (ok.fresh i hie h)) fun i' hi' hf o' ho' => ?_)
        rcases ok.late i' hi' o' ho' with h | h
        · exact h
        · rw [hwait i' (h i hie)] at hf
          cases hf
      · subst hij
        obtain ⟨oj, hoj, hdd, hgj, hab, hrun⟩ := hj hi
        obtain rfl : oj = o := Option.some.inj (hoj.symm.trans hol)
        have hob : ob = none := by
          have h3 := h1 hi
          rw [hfalse] at h3
          cases ob with
          | none => rfl
          | some b => cases h3
        subst hob
        have hwant : Region.wanted oj (yielded l.toArray (wJ none a1).tmps) = true := by unfold Region.wanted; rw [hgj]
        simp only [wpListIn]
        rw [if_pos hwant]
        unfold Oper.wpIn
        refine ⟨fun f hf => (by rw [hab] at hf; cases hf), ?_⟩
        rw [Oper.semAt_eq _ _ _ (hnd i oj ho), hrun]
        show Exit.then _ Q .normal _ _
        refine .inl ⟨by simpa using hsz, fun e he => ?_, ys, later, A, V, I, some W.heap.size, a1, hx, fun k hk => ?_, hA, hM.congr (fun k => ?_), by rw [hdd], fun k hk hf => ?_, fun _ => ?_, fun h => absurd hi (by omega), ⟨hc.1.alloc hc.1.size _, fun b hb => ?_⟩, hI, hVV, hnext⟩
        · rw [setD _ _ _ hsz hi]; unfold done
          rw [if_neg (fun e' => by subst e'; exact hje hi he)]
          exact hesl e he
        · rw [setD _ _ _ hsz hi]; unfold done
          rw [if_neg (fun e' => by subst e'; exact (ok.x k (by rw [hx]; simp [hk])).2.1 rfl)]
          exact hlater k hk
        · rw [setD _ _ _ hsz hi]; unfold done
          by_cases e : k = i
          · subst e
            simp only
            exact ⟨fun h => absurd rfl (ok.x k h.1).2.1, fun h => absurd rfl (ok.x k h.1).2.1⟩
          · rw [if_neg e]
        · rw [setD _ _ _ hsz hi] at hf
          unfold done at hf
          split at hf
          · cases hf
          · exact hav k hk hf
        · rw [setD _ _ _ hsz hi]; simp [done]
        · cases hb
          exact ⟨Nat.le_trans hVV hc.1.size, Blk.new W _ _, fun p hp => .inr (Nat.le_trans (hI p hp) hc.1.size)⟩
    · exact stepB listed a W i o hol hu hwait hBB
  · rintro listed a W hr hst
    have hal : ∀ i, i < l.length → listed.getD i false = true := by
      rcases hst with ⟨h, _⟩ | ⟨h, _⟩ <;> exact fun i hi => ready_nil_all ok.back (by simpa using h) hr i (by simpa using hi)
    have hBB : StB listed a W := by
      rcases hst with h | h
      · exact toB listed a W h (fun h' => hal j h') (fun i hi hf => by rw [hal i (ok.x i hi).1] at hf; cases hf)
      · exact h
    obtain ⟨hsz, A, Ac, m, hm', ht, hdp, hjl, hR, hAcs, hAcx, hAco, hfl, hwp⟩ := hBB
    have hnil : es.drop m = [] := by
      cases h : es.drop m with
      | nil => rfl
      | cons e r =>
        have h1 := hdp e (by rw [h]; simp)
        rw [hal e (ok.e e (List.mem_of_mem_drop (by rw [h]; simp))).1] at h1
        cases h1
    rw [hnil] at hwp
    have hEq : a = Ac := by
      obtain ⟨t, d⟩ := a
      obtain ⟨t', d'⟩ := Ac
      have e1 : d = d' := hR.defers
      have s1 : t.size = t'.size := hR.size
      have e2 : t = t' := by
        apply Array.ext s1
        intro i h1 h2
        have := hR.same i (fun ⟨i2, h5, h6, _⟩ => by rw [hal i2 (ok.x i2 h5).1] at h6; cases h6)
        simpa [h1, h2] using this
      rw [e1, e2]
    subst hEq
    exact hwp

/-- THE LAW, a new block among the operations ('alloc'). -/
theorem wpIn_flow_new {Q : Exit → Act → World → Prop} {id : Nat} {a0 : Act} {w V0 : World} {oj : Oper} {dj : Tmp} (stages : List (List Bool × Nat)) (fin em : List Bool) (j : Nat) (fv : Nat → Value) (ty : TypeId) (cs : Array Value)
    (hm : P.follows .mixedOrders = true) (hB : ((flowB l (xsOf stages fin) (stages.map (·.2)) (idxs 0 em) j && stages.all (fun p => decide (p.1.length ≤ l.length)) && decide (fin.length ≤ l.length) && decide (em.length ≤ l.length)) && decide (j < l.length)) = true)
    (hs : slotsM l a0.tmps.size = true) (hV : Below V0.heap.size V0 w.drew) (hoj : l[j]? = some oj) (hdj : oj.dst = some dj) (hgj : oj.guard = none) (hab : ∀ ρ W, oj.about P W ρ = none)
    (hrun : ∀ ρ W, (execOp ρ oj).run P W = .ok (.value (fv W.heap.size)) (W.alloc (.cells cs ty)))
    (h : wpFlow F n P l (fun I V A => ∀ b W, Below V.heap.size V W → V0.heap.size ≤ b → Blk W b ty cs → (∀ p ∈ I, b < p.1 ∨ p.2 ≤ b) → wpT F n P l.toArray (Q .normal) (pickB l em) (A.put (some dj) (fv b)) W) stages fin [] V0 a0) : (Code.region id l.toArray true).wpIn F n P Q a0 w := by
  rw [Bool.and_eq_true, decide_eq_true_eq] at hB
  refine wpIn_region_flow stages fin em j dj fv ty cs hm hB.1 hs hV (fun _ => ⟨oj, hoj, hdj, hgj, hab, hrun⟩) ?_
  have e : tailF F n P l em j dj fv ty cs V0 (Q .normal) = fun I V A => ∀ b W, Below V.heap.size V W → V0.heap.size ≤ b → Blk W b ty cs → (∀ p ∈ I, b < p.1 ∨ p.2 ≤ b) → wpT F n P l.toArray (Q .normal) (pickB l em) (A.put (some dj) (fv b)) W := by
    funext I V A
    unfold tailF
    exact propext ⟨fun k b W h1 h2 h3 h4 => by have := k b W h1 (fun _ => ⟨h2, h3, h4⟩); rwa [if_pos hB.2] at this, fun k b W h1 h2 => by rw [if_pos hB.2]; exact k b W h1 (h2 hB.2).1 (h2 hB.2).2.1 (h2 hB.2).2.2⟩
  rw [e]
  exact h

/-- THE LAW, without a new block. -/
theorem wpIn_flow_old {Q : Exit → Act → World → Prop} {id : Nat} {a0 : Act} {w V0 : World} (stages : List (List Bool × Nat)) (fin em : List Bool)
    (hm : P.follows .mixedOrders = true) (hB : (flowB l (xsOf stages fin) (stages.map (·.2)) (idxs 0 em) l.length && stages.all (fun p => decide (p.1.length ≤ l.length)) && decide (fin.length ≤ l.length) && decide (em.length ≤ l.length)) = true)
    (hs : slotsM l a0.tmps.size = true) (hV : Below V0.heap.size V0 w.drew)
    (h : wpFlow F n P l (fun I V A => ∀ W, Below V.heap.size V W → wpT F n P l.toArray (Q .normal) (pickB l em) A W) stages fin [] V0 a0) : (Code.region id l.toArray true).wpIn F n P Q a0 w := by
  refine wpIn_region_flow stages fin em l.length 0 (fun _ => undef) 0 #[] hm hB hs hV (fun h => absurd h (Nat.lt_irrefl _)) ?_
  have e : tailF F n P l em l.length 0 (fun _ => undef) 0 #[] V0 (Q .normal) = fun I V A => ∀ W, Below V.heap.size V W → wpT F n P l.toArray (Q .normal) (pickB l em) A W := by
    funext I V A
    unfold tailF
    exact propext ⟨fun k W h1 => by have := k 0 W h1 (fun h => absurd h (Nat.lt_irrefl _)); rwa [if_neg (Nat.lt_irrefl _)] at this, fun k b W h1 _ => by rw [if_neg (Nat.lt_irrefl _)]; exact k W h1⟩
  rw [e]
  exact h
end
end Go.Proofs.YtahkjagjcogeiaaDoor
/- What lies in memory, block by block. -/
namespace Go.Proofs.YtahkjagjcogeiaaDoor
open Go.RowKit
set_option linter.unusedVariables false

/-- Below w's end all is as in w; and these blocks lie behind it. -/
def Lay (w W : World) (bs : List (Nat × TypeId × Array Value)) : Prop := Below w.heap.size w W ∧ ∀ b ∈ bs, w.heap.size ≤ b.1 ∧ Blk W b.1 b.2.1 b.2.2
section
variable {w W W' : World} {bs : List (Nat × TypeId × Array Value)}
theorem Lay.nil (w : World) : Lay w w [] := ⟨Below.refl _ _, fun b hb => by simp at hb⟩
theorem Lay.bel (h : Lay w W bs) : Below w.heap.size w W := h.1
theorem Lay.below (h : Lay w W bs) (hb : Below W.heap.size W W') : Lay w W' bs := ⟨h.1.trans (hb.mono h.1.size), fun b k => ⟨(h.2 b k).1, (h.2 b k).2.below hb (h.2 b k).2.lt⟩⟩
theorem Lay.blk (h : Lay w W bs) (i : Nat) {g : Nat} {t : TypeId} {cs : Array Value} (hi : bs[i]? = some (g, t, cs)) : Blk W g t cs := (h.2 _ (List.mem_of_getElem? hi)).2
theorem Lay.ge (h : Lay w W bs) (i : Nat) {g : Nat} {t : TypeId} {cs : Array Value} (hi : bs[i]? = some (g, t, cs)) : w.heap.size ≤ g := (h.2 _ (List.mem_of_getElem? hi)).1
theorem Lay.lt (h : Lay w W bs) (i : Nat) {g : Nat} {t : TypeId} {cs : Array Value} (hi : bs[i]? = some (g, t, cs)) : g < W.heap.size := (h.blk i hi).lt
theorem Lay.alloc (h : Lay w W bs) (t : TypeId) (cs : Array Value) : Lay w (W.alloc (.cells cs t)) (bs ++ [(W.heap.size, t, cs)]) := by
  have hb : Below W.heap.size W (W.alloc (.cells cs t)) := (Below.refl _ _).alloc (Nat.le_refl _) _
  refine ⟨(h.below hb).1, fun b k => ?_⟩
  rcases List.mem_append.1 k with k | k
  · exact (h.below hb).2 b k
  · obtain rfl := List.mem_singleton.1 k
    exact ⟨h.1.size, Blk.new W t cs⟩
/-- One more block that is known. -/
theorem Lay.add (h : Lay w W bs) {g : Nat} {t : TypeId} {cs : Array Value} (hg : w.heap.size ≤ g) (hb : Blk W g t cs) : Lay w W (bs ++ [(g, t, cs)]) := ⟨h.1, fun b k => by
  rcases List.mem_append.1 k with k | k
  · exact h.2 b k
  · obtain rfl := List.mem_singleton.1 k
    exact ⟨hg, hb⟩⟩
theorem Lay.sub (h : Lay w W bs) {bs' : List (Nat × TypeId × Array Value)} (hs : ∀ b ∈ bs', b ∈ bs) : Lay w W bs' := ⟨h.1, fun b k => h.2 b (hs b k)⟩
/-- A block turned. -/
theorem Lay.turn (h : Lay w W bs) {g : Nat} {t : TypeId} {cs : Array Value} (hk : ∀ i, i ≠ g → i < W.heap.size → W'.heap[i]? = W.heap[i]?) (hz : W.heap.size ≤ W'.heap.size) (hos : W'.os = W.os) (htp : W'.tape = W.tape) (hop : W'.output = W.output) (hg : w.heap.size ≤ g) (hb : Blk W' g t cs) {bs' : List (Nat × TypeId × Array Value)} (hs : ∀ b ∈ bs', (b ∈ bs ∧ b.1 ≠ g) ∨ b = (g, t, cs)) : Lay w W' bs' := by
  refine ⟨⟨hos.trans h.1.os, htp.trans h.1.tape, hop.trans h.1.output, Nat.le_trans h.1.size hz, fun i hi => (hk i (by omega) (Nat.lt_of_lt_of_le hi h.1.size)).trans (h.1.block i hi)⟩, fun b k => ?_⟩
  rcases hs b k with ⟨k1, k2⟩ | rfl
  · exact ⟨(h.2 b k1).1, (hk _ k2 (h.2 b k1).2.lt).trans (h.2 b k1).2⟩
  · exact ⟨hg, hb⟩
end
theorem Lay.setLast {w W : World} {bs : List (Nat × TypeId × Array Value)} {g : Nat} {t : TypeId} {cs : Array Value} (h : Lay w W (bs ++ [(g, t, cs)])) (hne : ∀ p ∈ bs, p.1 ≠ g) (k : Nat) (v : Value) : Lay w (W.setCell ⟨g, k, none⟩ v) (bs ++ [(g, t, cs.setIfInBounds k v)]) := by
  have hg := h.2 (g, t, cs) (by simp)
  refine ⟨h.1.setCell (p := ⟨g, k, none⟩) hg.1 v, fun b hb => ?_⟩
  rcases List.mem_append.1 hb with hb | hb
  · have := h.2 b (by simp [hb])
    exact ⟨this.1, this.2.far (p := ⟨g, k, none⟩) (hne b hb) v⟩
  · obtain rfl := List.mem_singleton.1 hb
    exact ⟨hg.1, hg.2.set_ k v⟩
theorem Lay.one (w : World) (t : TypeId) (X : Array Value) : Lay w (w.alloc (.cells X t)) [(w.heap.size, t, X)] := (Lay.nil w).alloc t X
theorem Lay.two (w : World) (t : TypeId) (X : Array Value) (t2 : TypeId) (X2 : Array Value) : Lay w ((w.alloc (.cells X t)).alloc (.cells X2 t2)) [(w.heap.size, t, X), (w.heap.size + 1, t2, X2)] := by
  have h := (Lay.one w t X).alloc t2 X2
  rwa [World.size_alloc] at h
theorem Lay.three (w : World) (t : TypeId) (X : Array Value) (t2 : TypeId) (X2 : Array Value) (t3 : TypeId) (X3 : Array Value) : Lay w (((w.alloc (.cells X t)).alloc (.cells X2 t2)).alloc (.cells X3 t3)) [(w.heap.size, t, X), (w.heap.size + 1, t2, X2), (w.heap.size + 1 + 1, t3, X3)] := by
  have h := (Lay.two w t X t2 X2).alloc t3 X3
  rwa [World.size_alloc, World.size_alloc] at h
theorem Lay.four (w : World) (t : TypeId) (X : Array Value) (t2 : TypeId) (X2 : Array Value) (t3 : TypeId) (X3 : Array Value) (t4 : TypeId) (X4 : Array Value) : Lay w ((((w.alloc (.cells X t)).alloc (.cells X2 t2)).alloc (.cells X3 t3)).alloc (.cells X4 t4)) [(w.heap.size, t, X), (w.heap.size + 1, t2, X2), (w.heap.size + 1 + 1, t3, X3), (w.heap.size + 1 + 1 + 1, t4, X4)] := by
  have h := (Lay.three w t X t2 X2 t3 X3).alloc t4 X4
  rwa [World.size_alloc, World.size_alloc, World.size_alloc] at h
theorem Lay.drewN {w W : World} {bs : List (Nat × TypeId × Array Value)} (h : Lay w W bs) (k : Nat) : Lay w (W.drewN k) bs := ⟨below_drewN h.1 k, h.2⟩

/-- A block of two cells written anew. -/
theorem ret2 {w W : World} {B g : Nat} {t : TypeId} {z0 z1 : Value} (R : Blk W g t #[z0, z1]) (L : Below B w W) (hg : B ≤ g) (v0 v1 : Value) :
    Blk ((W.setCell ⟨g, 0, none⟩ v0).setCell ⟨g, 1, none⟩ v1) g t #[v0, v1] ∧ Below B w ((W.setCell ⟨g, 0, none⟩ v0).setCell ⟨g, 1, none⟩ v1) :=
  ⟨(R.set_ 0 v0).set_ 1 v1, (L.setCell (p := ⟨g, 0, none⟩) hg _).setCell (p := ⟨g, 1, none⟩) hg _⟩
theorem ret6' {w W : World} {B g : Nat} {t : TypeId} {z0 z1 z2 z3 z4 z5 : Value} (R : Blk W g t #[z0, z1, z2, z3, z4, z5]) (L : Below B w W) (hg : B ≤ g) (v0 v1 v2 v3 v4 v5 : Value) :
    Blk ((((((W.setCell ⟨g, 0, none⟩ v0).setCell ⟨g, 1, none⟩ v1).setCell ⟨g, 2, none⟩ v2).setCell ⟨g, 3, none⟩ v3).setCell ⟨g, 4, none⟩ v4).setCell ⟨g, 5, none⟩ v5) g t #[v0, v1, v2, v3, v4, v5] ∧
    Below B w ((((((W.setCell ⟨g, 0, none⟩ v0).setCell ⟨g, 1, none⟩ v1).setCell ⟨g, 2, none⟩ v2).setCell ⟨g, 3, none⟩ v3).setCell ⟨g, 4, none⟩ v4).setCell ⟨g, 5, none⟩ v5) ∧
    W.grownBy ((((((W.setCell ⟨g, 0, none⟩ v0).setCell ⟨g, 1, none⟩ v1).setCell ⟨g, 2, none⟩ v2).setCell ⟨g, 3, none⟩ v3).setCell ⟨g, 4, none⟩ v4).setCell ⟨g, 5, none⟩ v5) (some g) := by
  refine ⟨(((((R.set_ 0 v0).set_ 1 v1).set_ 2 v2).set_ 3 v3).set_ 4 v4).set_ 5 v5, (((((L.setCell (p := ⟨g, 0, none⟩) hg _).setCell (p := ⟨g, 1, none⟩) hg _).setCell (p := ⟨g, 2, none⟩) hg _).setCell (p := ⟨g, 3, none⟩) hg _).setCell (p := ⟨g, 4, none⟩) hg _).setCell (p := ⟨g, 5, none⟩) hg _, ?_⟩
  exact grown_setCell (grown_setCell (grown_setCell (grown_setCell (grown_setCell (grown_setCell (grown_refl W (some g)) (p := ⟨g, 0, none⟩) (.inl rfl) v0) (p := ⟨g, 1, none⟩) (.inl rfl) v1) (p := ⟨g, 2, none⟩) (.inl rfl) v2) (p := ⟨g, 3, none⟩) (.inl rfl) v3) (p := ⟨g, 4, none⟩) (.inl rfl) v4) (p := ⟨g, 5, none⟩) (.inl rfl) v5
theorem ret4' {w W : World} {B g : Nat} {t : TypeId} {z0 z1 z2 z3 : Value} (R : Blk W g t #[z0, z1, z2, z3]) (L : Below B w W) (hg : B ≤ g) (v0 v1 v2 v3 : Value) :
    Blk ((((W.setCell ⟨g, 0, none⟩ v0).setCell ⟨g, 1, none⟩ v1).setCell ⟨g, 2, none⟩ v2).setCell ⟨g, 3, none⟩ v3) g t #[v0, v1, v2, v3] ∧ Below B w ((((W.setCell ⟨g, 0, none⟩ v0).setCell ⟨g, 1, none⟩ v1).setCell ⟨g, 2, none⟩ v2).setCell ⟨g, 3, none⟩ v3) ∧
    W.grownBy ((((W.setCell ⟨g, 0, none⟩ v0).setCell ⟨g, 1, none⟩ v1).setCell ⟨g, 2, none⟩ v2).setCell ⟨g, 3, none⟩ v3) (some g) := by
  refine ⟨(((R.set_ 0 v0).set_ 1 v1).set_ 2 v2).set_ 3 v3, (((L.setCell (p := ⟨g, 0, none⟩) hg _).setCell (p := ⟨g, 1, none⟩) hg _).setCell (p := ⟨g, 2, none⟩) hg _).setCell (p := ⟨g, 3, none⟩) hg _, ?_⟩
  exact grown_setCell (grown_setCell (grown_setCell (grown_setCell (grown_refl W (some g)) (p := ⟨g, 0, none⟩) (.inl rfl) v0) (p := ⟨g, 1, none⟩) (.inl rfl) v1) (p := ⟨g, 2, none⟩) (.inl rfl) v2) (p := ⟨g, 3, none⟩) (.inl rfl) v3
/-- A turn of another block: what reads ints, stays. -/
theorem ints_off {W W' : World} {n b : Nat} {A : Option Addr} {l : List Int} (h : IntsAt W W.heap.size A n l) (hne : ∀ a, A = some a → a.block ≠ b) (hg : W.grownBy W' (some b)) : IntsAt W' W'.heap.size A n l :=
  (Reads.grown h hg (Nat.le_refl _) (fun a ha e => hne a ha (Option.some.inj e))).more hg.size
theorem ints_up {W W' : World} {n : Nat} {A : Option Addr} {l : List Int} (h : IntsAt W W.heap.size A n l) (hb : Below W.heap.size W W') : IntsAt W' W'.heap.size A n l := (h.below hb).more hb.size
theorem ret2' {w W : World} {B g : Nat} {t : TypeId} {z0 z1 : Value} (R : Blk W g t #[z0, z1]) (L : Below B w W) (hg : B ≤ g) (v0 v1 : Value) :
    Blk ((W.setCell ⟨g, 0, none⟩ v0).setCell ⟨g, 1, none⟩ v1) g t #[v0, v1] ∧ Below B w ((W.setCell ⟨g, 0, none⟩ v0).setCell ⟨g, 1, none⟩ v1) ∧ W.grownBy ((W.setCell ⟨g, 0, none⟩ v0).setCell ⟨g, 1, none⟩ v1) (some g) :=
  ⟨(R.set_ 0 v0).set_ 1 v1, (L.setCell (p := ⟨g, 0, none⟩) hg _).setCell (p := ⟨g, 1, none⟩) hg _, grown_setCell (grown_setCell (grown_refl W (some g)) (p := ⟨g, 0, none⟩) (.inl rfl) v0) (p := ⟨g, 1, none⟩) (.inl rfl) v1⟩
theorem blk_ne {W : World} {g g' : Nat} {t t' : TypeId} {cs cs' : Array Value} (h : Blk W g t cs) (h' : Blk W g' t' cs') (ht : t ≠ t') : g ≠ g' := fun e => by
  subst e
  unfold Blk at h h'
  rw [h] at h'
  simp at h'
  exact ht h'.2
end Go.Proofs.YtahkjagjcogeiaaDoor
/- climb.between: what is asked first of a walk, by two prices. -/
namespace Go.Proofs.YtahkjagjcogeiaaDoor
open Go.RowKit
set_option linter.unusedVariables false

theorem leads_fst (dk : Bool) (p p' : Price) (x : Link) (u : Int) : (leads dk p x u).map Prod.fst = (leads dk p' x u).map Prod.fst := by
  unfold leads
  split
  · rfl
  · split
    · rfl
    · split <;> rfl
theorem stepF_fst (t : Town) (p p' : Price) (u i : Int) : (stepF t p u i).map Prod.fst = (stepF t p' u i).map Prod.fst := by
  unfold stepF
  induction t.links with
  | nil => rfl
  | cons x xs ih =>
    rw [List.findSome?_cons, List.findSome?_cons]
    by_cases e : x.id = i
    · rw [if_pos e, if_pos e]
      have h := leads_fst false p p' x u
      cases h1 : leads false p x u <;> cases h2 : leads false p' x u <;> rw [h1, h2] at h <;> simp at h
      · exact ih
      · simp [h]
    · rw [if_neg e, if_neg e]
      exact ih
theorem walkS_fst (t : Town) (p p' : Price) : ∀ (l : List Int) (s s' : Int × Cost), s.1 = s'.1 → (walkS t p s l).map Prod.fst = (walkS t p' s' l).map Prod.fst
  | [], s, s', h => by simp [walkS, h]
  | i :: r, s, s', h => by
    have h1 := stepF_fst t p p' s.1 i
    unfold walkS
    rw [h] at h1 ⊢
    cases h2 : stepF t p s'.1 i <;> cases h3 : stepF t p' s'.1 i <;> rw [h2, h3] at h1 <;> simp at h1
    · exact walkS_fst t p p' r _ _ h1
theorem walkedF_fst (t : Town) (p p' : Price) (u : Int) (l : List Int) : (walkedF t p u l).map Prod.fst = (walkedF t p' u l).map Prod.fst := by
  unfold walkedF
  split
  · rfl
  · exact walkS_fst t p p' l _ _ rfl
theorem walkedF_isSome (t : Town) (p p' : Price) (u : Int) (l : List Int) : (walkedF t p u l).isSome = (walkedF t p' u l).isSome := by
  have h := walkedF_fst t p p' u l
  cases h1 : walkedF t p u l <;> cases h2 : walkedF t p' u l <;> rw [h1, h2] at h <;> simp at h ⊢

theorem walkS_walk {t : Town} {p : Price} : ∀ (l : List Int) (u v : Int) (c c' : Cost), walkS t p (u, c) l = some (v, c') → ∃ d, Walk t false p u v d l ∧ c' = addC c d
  | [], u, v, c, c', h => by
    simp only [walkS, Option.some.injEq, Prod.mk.injEq] at h
    obtain ⟨rfl, rfl⟩ := h
    exact ⟨zeroC, .nil u, (addC_zero c).symm⟩
  | i :: r, u, v, c, c', h => by
    unfold walkS at h
    cases hs : stepF t p u i with
    | none => simp only [hs] at h; cases h
    | some q =>
      obtain ⟨m, cx⟩ := q
      simp only [hs] at h
      obtain ⟨x, hx, rfl, hl⟩ := stepF_some hs
      obtain ⟨d, hw, he⟩ := walkS_walk r m v _ _ h
      exact ⟨addC cx d, .cons hx hl hw, by rw [he, addC_assoc]⟩
theorem walkedF_walk {t : Town} {p : Price} {u v : Int} {l : List Int} {c : Cost} (h : walkedF t p u l = some (v, c)) : Walk t false p u v c l ∧ l.length ≤ 40 := by
  unfold walkedF at h
  split at h
  · cases h
  · obtain ⟨d, hw, he⟩ := walkS_walk l u v _ _ h
    rw [zero_addC] at he
    subst he
    exact ⟨hw, by omega⟩

/-- What is asked first of a walk: 0 if it is none. -/
def firstA (t : Town) (p : Price) (u : Int) (l : List Int) : Int := match walkedF t p u l with
  | some q => q.2.a
  | none => 0
def betE (t : Town) (u : Int) (l : List Int) : Int := if (walkedF t ⟨0, 0, 0⟩ u l).isSome then 0 else 32
theorem firstA_none {t : Town} {p : Price} {u : Int} {l : List Int} (h : (walkedF t p u l).isSome = false) : firstA t p u l = 0 := by
  unfold firstA
  cases h1 : walkedF t p u l
  · rfl
  · rw [h1] at h; cases h

theorem firstA_bound {t : Town} {p : Price} (hf : Fine t) (hp : Fair p) (u : Int) (l : List Int) : 0 ≤ firstA t p u l ∧ firstA t p u l ≤ 5000000 := by
  unfold firstA
  cases h : walkedF t p u l with
  | none => simp
  | some q =>
    obtain ⟨v, c⟩ := q
    obtain ⟨hw, hl⟩ := walkedF_walk h
    have := hw.bound hf hp
    simp only
    omega

theorem walked_all (A : Option Addr) (nn c : Nat) (A' : Option Addr) (m d : Nat) (F : FuncId) (C : Array Value) (p : Price) (t : Town) (place : Int) (A2 : Option Addr) (k2 c2 : Nat) (l : List Int) (w : World)
    (hm : m ≤ 20) (hk2 : k2 ≤ 1000) (ht : LinksAt w w.heap.size A' m t.links) (hp : PriceAt w p F C) (hfine : Fine t) (hfair : Fair p) (hr : IntsAt w w.heap.size A2 k2 l) :
    Calls Tryd.prog 89 #[.agg #[.slice A nn c, .slice A' m d, .bool false, .func (.func F) #[] C], .int .i64 place, .slice A2 k2 c2] w (WalkedOut w (walkedF t p place l)) := by
  rcases Nat.lt_or_ge 40 k2 with h | h
  · exact walked_long A nn c A' m d F C p t place A2 k2 c2 l w h hk2 hr
  · exact walked_any A nn c A' m d F C p t place A2 k2 c2 l w hm h ht hp hfine hfair hr

set_option maxRecDepth 100000 in
set_option maxHeartbeats 2000000 in
theorem between_any (A : Option Addr) (n c : Nat) (A' : Option Addr) (m d : Nat) (F1 : FuncId) (C1 : Array Value) (F2 : FuncId) (C2 : Array Value) (p1 p2 : Price) (t : Town) (place : Int) (A2 : Option Addr) (k2 c2 : Nat) (l : List Int) (w : World)
    (hm : m ≤ 20) (hk2 : k2 ≤ 1000) (ht : LinksAt w w.heap.size A' m t.links) (hp1 : PriceAt w p1 F1 C1) (hp2 : PriceAt w p2 F2 C2) (hfine : Fine t) (hf1 : Fair p1) (hf2 : Fair p2) (hr : IntsAt w w.heap.size A2 k2 l) :
    Calls Tryd.prog 50 #[.agg #[.slice A n c, .slice A' m d], .int .i64 place, .slice A2 k2 c2, .func (.func F1) #[] C1, .func (.func F2) #[] C2] w fun e w' => e = .returned (.tuple #[.agg #[.int .i64 (firstA t p1 place l), .int .i64 (firstA t p2 place l)], .int .i64 (betE t place l)]) ∧ Below w.heap.size w w' := by
  have HT := Lib.hid ht
  have HP1 := Lib.hid hp1
  have HP2 := Lib.hid hp2
  have HFI := Lib.hid hfine
  have HF1 := Lib.hid hf1
  have HF2 := Lib.hid hf2
  have HR := Lib.hid hr
  have HS1 := Lib.hid (walkedF_isSome t p1 ⟨0, 0, 0⟩ place l)
  have HS2 := Lib.hid (walkedF_isSome t p2 ⟨0, 0, 0⟩ place l)
  clear ht hp1 hp2 hfine hf1 hf2 hr
  go_enter Tryd.func50, Tryd.ntmps50
  go_wp2_with fail
  have X0 := (Blk.new w 25 #[.slice A n c, .slice A' m d]).alloc (.cells #[.int .i64 0, .int .i64 0] 27)
  have Y0 := Blk.new (w.alloc (.cells #[.slice A n c, .slice A' m d] 25)) 27 #[.int .i64 0, .int .i64 0]
  have B0 : Below w.heap.size w ((w.alloc (.cells #[.slice A n c, .slice A' m d] 25)).alloc (.cells #[.int .i64 0, .int .i64 0] 27)) := ((Below.refl _ _).alloc (Nat.le_refl _) _).alloc (by simp) _
  rw [World.size_alloc] at Y0
  generalize ((w.alloc (.cells #[.slice A n c, .slice A' m d] 25)).alloc (.cells #[.int .i64 0, .int .i64 0] 27)) = w0 at *
  refine (walked_all A n c A' m d F1 C1 p1 t place A2 k2 c2 l w0 hm hk2 ((HT.out.below B0).more B0.size) (HP1.out.below B0) HFI.out HF1.out ((HR.out.below B0).more B0.size)).mono ?_
  rintro e w1 ⟨x1, co1, rfl, hq1, hb1⟩
  have HQ1 := Lib.hid hq1
  have X1 := X0.below hb1 X0.lt
  have Y1 := Y0.below hb1 Y0.lt
  have B1 := B0.trans (hb1.mono B0.size)
  have x0 := X1.cell 0
  have xx := X1.cell 1
  have y0 := Y1.cell 0
  have y1 := Y1.cell 1
  have z0 := Y1.frozen 0
  have z1 := Y1.frozen 1
  have hl1 := X1.lt
  have hl2 := Y1.lt
  have HX1 := Lib.hid X1
  have HY1 := Lib.hid Y1
  clear hq1 hb1 X0 Y0 X1 Y1
  cases h1 : (walkedF t p1 place l).isSome with
  | false =>
    have H1 := Lib.hid h1
    clear h1
    go_wp2_with fail
    have R1 := ret2 HY1.out B1 (by omega) (.int .i64 0) (.int .i64 0)
    have R2 := R1.1.alloc (.cells #[.int .i64 x1, .int .i64 co1.a, .int .i64 co1.b, .int .i64 co1.c, .int .i64 co1.d, .slice none 0 0] 111)
    have r0 := R2.cell 0
    have r1 := R2.cell 1
    refine bodyPost_ret (v := .tuple #[.agg #[.int .i64 0, .int .i64 0], .int .i64 32]) (by simp [results, Tryd.results50, go_sem, r0, r1]) rfl ⟨?_, R1.2.alloc R1.2.size _⟩
    rw [firstA_none H1.out, firstA_none (HS2.out.trans (HS1.out.symm.trans H1.out))]
    unfold betE
    rw [← HS1.out, H1.out]
    rfl
  | true =>
    obtain ⟨q1, e1⟩ := Option.isSome_iff_exists.1 h1
    have hco1 : firstA t p1 place l = co1.a := by
      unfold firstA
      rw [e1, HQ1.out q1 e1]
    have H1 := Lib.hid h1
    have HC1 := Lib.hid hco1
    clear h1 e1 hco1
    go_wp2_with fail
    have BB := (Below.refl w1.heap.size w1).alloc (Nat.le_refl _) (.cells #[.int .i64 x1, .int .i64 co1.a, .int .i64 co1.b, .int .i64 co1.c, .int .i64 co1.d, .slice none 0 0] 111)
    have HX2 := Lib.hid (HX1.out.below BB HX1.out.lt)
    have HY2 := Lib.hid (HY1.out.below BB HY1.out.lt)
    have B2 := B1.trans (BB.mono B1.size)
    have Z2 := Blk.new w1 111 #[.int .i64 x1, .int .i64 co1.a, .int .i64 co1.b, .int .i64 co1.c, .int .i64 co1.d, .slice none 0 0]
    obtain ⟨Z, hZ⟩ : ∃ Z, w1.heap.size = Z := ⟨_, rfl⟩
    rw [hZ] at Z2 hl1 hl2 ⊢
    have HZ2 := Lib.hid Z2
    clear Z2 BB x0 xx y0 y1 z0 z1
    generalize (w1.alloc (.cells #[.int .i64 x1, .int .i64 co1.a, .int .i64 co1.b, .int .i64 co1.c, .int .i64 co1.d, .slice none 0 0] 111)) = w2 at *
    clear hZ
    refine (walked_all A n c A' m d F2 C2 p2 t place A2 k2 c2 l w2 hm hk2 ((HT.out.below B2).more B2.size) (HP2.out.below B2) HFI.out HF2.out ((HR.out.below B2).more B2.size)).mono ?_
    rintro e w3 ⟨x2, co2, rfl, hq2, hb3⟩
    have h2 : (walkedF t p2 place l).isSome = true := HS2.out.trans (HS1.out.symm.trans H1.out)
    obtain ⟨q2, e2⟩ := Option.isSome_iff_exists.1 h2
    have hco2 : firstA t p2 place l = co2.a := by
      unfold firstA
      rw [e2, hq2 q2 e2]
    have HC2 := Lib.hid hco2
    rw [h2]
    have HY3 := Lib.hid (HY2.out.below hb3 HY2.out.lt)
    have HZ3 := Lib.hid (HZ2.out.below hb3 HZ2.out.lt)
    have B3 := B2.trans (hb3.mono B2.size)
    clear hq2 e2 hco2 h2 hb3
    have y0 := HY3.out.cell 0
    have y1 := HY3.out.cell 1
    have z0 := HY3.out.frozen 0
    have z1 := HY3.out.frozen 1
    have v1 := HZ3.out.cell 1
    have hl3 := HY3.out.lt
    have hl4 := HZ3.out.lt
    go_wp2_with fail
    have R1 := ret2 HY3.out B3 (by omega) (.int .i64 co1.a) (.int .i64 co2.a)
    have R2 := R1.1.alloc (.cells #[.int .i64 x2, .int .i64 co2.a, .int .i64 co2.b, .int .i64 co2.c, .int .i64 co2.d, .slice none 0 0] 111)
    have r0 := R2.cell 0
    have r1 := R2.cell 1
    refine bodyPost_ret (v := .tuple #[.agg #[.int .i64 co1.a, .int .i64 co2.a], .int .i64 0]) (by simp [results, Tryd.results50, go_sem, r0, r1]) rfl ⟨?_, R1.2.alloc R1.2.size _⟩
    rw [HC1.out, HC2.out]
    unfold betE
    rw [← HS1.out, H1.out]
    rfl
end Go.Proofs.YtahkjagjcogeiaaDoor
/- Spans: climb.spanned, dry, slow. -/
namespace Go.Proofs.YtahkjagjcogeiaaDoor
open Go.RowKit
set_option linter.unusedVariables false

structure Span where
  lo : Int
  hi : Int
  deriving DecidableEq
def Span.vals (x : Span) : List Value := [.int .i64 x.lo, .int .i64 x.hi]
def SpansAt (w : World) (B : Nat) (A : Option Addr) (n : Nat) (l : List Span) : Prop := Reads w B 2 A n (l.flatMap Span.vals)
section
variable {w w' : World} {B B' n : Nat} {A : Option Addr} {l : List Span}
theorem SpansAt.len (h : SpansAt w B A n l) : l.length = n := by have := h.1; rw [flat_len' (size := 2) (fun _ => rfl)] at this; omega
theorem SpansAt.below (h : SpansAt w B A n l) (hb : Below B w w') : SpansAt w' B A n l := Reads.below h hb
theorem SpansAt.more (h : SpansAt w B A n l) (hB : B ≤ B') : SpansAt w B' A n l := Reads.more h hB
theorem SpansAt.cell (h : SpansAt w B A n l) {k : Nat} (hk : k < n) : ∃ b off x, A = some ⟨b, off, none⟩ ∧ b < B ∧ l[k]? = some x ∧
    w.cell? ⟨b, off + k * 2, none⟩ = some (.int .i64 x.lo) ∧ w.cell? ⟨b, off + k * 2 + 1, none⟩ = some (.int .i64 x.hi) := by
  have hl := h.len
  obtain ⟨b, off, e, hb, hc⟩ := Reads.plain h (by rw [flat_len' (size := 2) (fun _ => rfl)]; omega)
  have hx : l[k]? = some l[k] := List.getElem?_eq_getElem (by omega)
  refine ⟨b, off, _, e, hb, hx, ?_, ?_⟩
  · have := hc (k * 2 + 0) (.int .i64 l[k].lo) (by rw [flat_at' (size := 2) (fun _ => rfl) hx (by omega)]; rfl); exact this
  · have := hc (k * 2 + 1) (.int .i64 l[k].hi) (by rw [flat_at' (size := 2) (fun _ => rfl) hx (by omega)]; rfl); exact this
end

set_option maxRecDepth 100000 in
set_option maxHeartbeats 2000000 in
theorem indexFunc_span (F : FuncId) (C : Array Value) (p : Span → Bool) (A : Option Addr) (n c : Nat) (l : List Span) (w : World) (hr : SpansAt w w.heap.size A n l) (hn : n ≤ maxLen)
    (hE : ∀ args W, (callFunc F args).run Tryd.prog W = .ok (.enter F args) W)
    (hF : ∀ x, ∀ W, Below w.heap.size w W → Calls Tryd.prog F (#[.agg #[.int .i64 x.lo, .int .i64 x.hi]] ++ C) W fun e w' => e = .returned (.bool (p x)) ∧ Below W.heap.size W w') :
    Calls Tryd.prog 157 #[.slice A n c, .func (.func F) #[] C] w fun e w' => e = .returned (.int .i64 (idxL p l)) ∧ Below w.heap.size w w' := by
  unfold maxLen at hn
  have HF := Lib.hid hF
  clear hF
  go_enter Tryd.func157, Tryd.ntmps157
  go_wp2_with fail
  go_loopw [8, 5] (fun i j wr => ∃ k : Nat, k ≤ n ∧ i = .int .i64 k ∧ (∀ y ∈ l.take k, p y = false) ∧ Below w.heap.size w wr)
    (fun i _ _ => n - (intOf i).toNat)
  case atStart => exact ⟨0, by omega, rfl, by simp, Below.refl _ _⟩
  case round =>
    obtain ⟨k, hk, rfl, hno, hb⟩ := hrel
    have HN := Lib.hid hno
    clear hno
    by_cases hlt : k < n
    · obtain ⟨b, off, x, rfl, hbB, hx, hc0, hc1⟩ := (hr.below hb).cell hlt
      have HX := Lib.hid hx
      clear hx
      go_wp2_with fail
      refine (HF.out x _ hb).mono ?_
      rintro e w' ⟨rfl, hb'⟩
      cases hp : p x with
      | true =>
        have HP := Lib.hid hp
        clear hp
        go_wp2_with fail
        go_ret
        exact ⟨ret_int (idxL_some HX.out HP.out HN.out).symm, hb.trans (hb'.mono hb.size)⟩
      | false =>
        have HP := Lib.hid hp
        clear hp
        go_wp2_with fail
        go_roundw
        case rel => exact ⟨k + 1, by omega, by go_num, take_snoc_all HX.out HP.out HN.out, hb.trans (hb'.mono hb.size)⟩
        case measure => simp [intOf]; omega
    · go_wp2_with fail
      go_ret
      exact ⟨ret_int (idxL_none (by
        have := HN.out
        rwa [List.take_of_length_le (by have := hr.len; omega)] at this)).symm, hb⟩

theorem idxL_ge {α : Type} {p : α → Bool} {l : List α} : decide (0 ≤ idxL p l) = l.any p := by
  unfold idxL
  cases h : l.any p <;> simp

set_option maxHeartbeats 1000000 in
theorem containsFunc_span (F : FuncId) (C : Array Value) (p : Span → Bool) (A : Option Addr) (n c : Nat) (l : List Span) (w : World) (hr : SpansAt w w.heap.size A n l) (hn : n ≤ maxLen)
    (hE : ∀ args W, (callFunc F args).run Tryd.prog W = .ok (.enter F args) W)
    (hF : ∀ x, ∀ W, Below w.heap.size w W → Calls Tryd.prog F (#[.agg #[.int .i64 x.lo, .int .i64 x.hi]] ++ C) W fun e w' => e = .returned (.bool (p x)) ∧ Below W.heap.size W w') :
    Calls Tryd.prog 138 #[.slice A n c, .func (.func F) #[] C] w fun e w' => e = .returned (.bool (l.any p)) ∧ Below w.heap.size w w' := by
  have H := Lib.hid (indexFunc_span F C p A n c l w hr hn hE hF)
  clear hE hF
  go_enter Tryd.func138, Tryd.ntmps138
  go_wp2_with fail
  refine H.out.mono ?_
  rintro e w' ⟨rfl, hb⟩
  go_wp2_with fail
  go_ret
  exact ⟨ret_bool idxL_ge, hb⟩

/-- A span within a limit. -/
def spanB (most : Int) (x : Span) : Bool := inB 0 most [x.lo, x.hi] && decide (x.lo ≤ x.hi)

theorem two_ints {W : World} {g : Nat} {t : TypeId} {x y : Int} (h : Blk W g t #[.int .i64 x, .int .i64 y]) : IntsAt W W.heap.size (some ⟨g, 0, none⟩) 2 [x, y] :=
  ⟨rfl, fun _ => ⟨_, rfl, h.lt, fun j u hu => by
    match j, hu with
    | 0, hu => simp at hu; rw [← hu]; simpa [Addr.add] using h.cell 0
    | 1, hu => simp at hu; rw [← hu]; simpa [Addr.add] using h.cell 1⟩⟩

set_option maxRecDepth 100000 in
set_option maxHeartbeats 2000000 in
theorem spanned1_any (x : Span) (most : Int) (g : Nat) (w : World) (hg : g < w.heap.size) (hc : w.cell? ⟨g, 0, none⟩ = some (.int .i64 most)) :
    Calls Tryd.prog 139 (#[.agg #[.int .i64 x.lo, .int .i64 x.hi]] ++ #[.pointer (some ⟨g, 0, none⟩)]) w fun e w' => e = .returned (.bool (!spanB most x)) ∧ Below w.heap.size w w' := by
  go_enter Tryd.func139, Tryd.ntmps139
  go_wp2_with fail
  have X0 := (Blk.new w 27 #[.int .i64 x.lo, .int .i64 x.hi]).alloc (.cells #[.int .i64 x.lo, .int .i64 x.hi] 3)
  have Y0 := Blk.new (w.alloc (.cells #[.int .i64 x.lo, .int .i64 x.hi] 27)) 3 #[.int .i64 x.lo, .int .i64 x.hi]
  have B0 : Below w.heap.size w ((w.alloc (.cells #[.int .i64 x.lo, .int .i64 x.hi] 27)).alloc (.cells #[.int .i64 x.lo, .int .i64 x.hi] 3)) := ((Below.refl _ _).alloc (Nat.le_refl _) _).alloc (by simp) _
  rw [World.size_alloc] at Y0
  generalize ((w.alloc (.cells #[.int .i64 x.lo, .int .i64 x.hi] 27)).alloc (.cells #[.int .i64 x.lo, .int .i64 x.hi] 3)) = w0 at *
  refine (in_any 0 most _ 2 2 [x.lo, x.hi] w0 (two_ints Y0) (by decide)).mono ?_
  rintro e w1 ⟨rfl, hb1⟩
  have X1 := X0.below hb1 X0.lt
  have B1 := B0.trans (hb1.mono B0.size)
  have x0 := X1.cell 0
  have x1 := X1.cell 1
  clear X0 Y0 hb1 X1
  cases hi : inB 0 most [x.lo, x.hi] with
  | false =>
    have HI := Lib.hid hi
    clear hi
    go_wp2_with fail
    go_ret
    exact ⟨ret_bool (by unfold spanB; rw [HI.out]; rfl), B1⟩
  | true =>
    have HI := Lib.hid hi
    clear hi
    go_wp2_with fail
    go_ret
    refine ⟨ret_bool ?_, B1⟩
    unfold spanB
    rw [HI.out]
    by_cases h : x.lo ≤ x.hi
    · simp [h]
    · simp [h]; omega

def spansB (most : Int) (l : List Span) : Bool := !l.any fun x => !spanB most x
theorem enters_sp1 (args : Array Value) (W : World) : (callFunc 139 args).run Tryd.prog W = .ok (.enter 139 args) W := by
  simp [go_sem]

set_option maxRecDepth 100000 in
set_option maxHeartbeats 2000000 in
theorem spanned_any (most : Int) (A : Option Addr) (n c : Nat) (l : List Span) (w : World) (hr : SpansAt w w.heap.size A n l) (hn : n ≤ maxLen) :
    Calls Tryd.prog 107 #[.int .i64 most, .slice A n c] w fun e w' => e = .returned (.bool (spansB most l)) ∧ Below w.heap.size w w' := by
  have hmf : ∀ (fn : Fn) (first cap : Array Value) (w : World), (Instr.makeFunc fn first cap).run Tryd.prog w = .ok (.func fn first cap) w := fun _ _ _ _ => rfl
  go_enter Tryd.func107, Tryd.ntmps107
  go_wp2_with fail
  have hb : Below w.heap.size w (w.alloc (.cells #[.int .i64 most] 3)) := (Below.refl _ _).alloc (Nat.le_refl _) _
  refine (containsFunc_span 139 _ (fun x => !spanB most x) A n c l _ ((hr.below hb).more (by simp)) hn enters_sp1 ?_).mono ?_
  · intro x W hW
    exact spanned1_any x most _ W (Nat.lt_of_lt_of_le (by simp) hW.size) ((hW.cell (p := ⟨w.heap.size, 0, none⟩) (by simp)).trans (by simp [go_sem]))
  · rintro e w' ⟨rfl, hb'⟩
    go_wp2_with fail
    go_ret
    exact ⟨rfl, hb.trans (hb'.mono (by simp))⟩

structure Skin where
  drops : Int
  pace : Span
  step : Span
structure Gait where
  pace : Span
  step : Span
def skinB (s : Skin) : Bool := inB 0 100000 [s.drops] && spansB 50 [s.pace, s.step]
def gaitB (g : Gait) : Bool := spansB 20 [g.pace, g.step]
def slowE (g : Gait) : Int := if gaitB g then 0 else 35
def dryE (s : Skin) : Int := if skinB s then 0 else 36
theorem two_spans {W : World} {g : Nat} {t : TypeId} {x y : Span} (h : Blk W g t #[.int .i64 x.lo, .int .i64 x.hi, .int .i64 y.lo, .int .i64 y.hi]) : SpansAt W W.heap.size (some ⟨g, 0, none⟩) 2 [x, y] :=
  ⟨rfl, fun _ => ⟨_, rfl, h.lt, fun j u hu => by
    match j, hu with
    | 0, hu => simp [Span.vals] at hu; rw [← hu]; simpa [Addr.add] using h.cell 0
    | 1, hu => simp [Span.vals] at hu; rw [← hu]; simpa [Addr.add] using h.cell 1
    | 2, hu => simp [Span.vals] at hu; rw [← hu]; simpa [Addr.add] using h.cell 2
    | 3, hu => simp [Span.vals] at hu; rw [← hu]; simpa [Addr.add] using h.cell 3⟩⟩

set_option maxRecDepth 100000 in
set_option maxHeartbeats 2000000 in
theorem slow_any (s : Gait) (w : World) :
    Calls Tryd.prog 83 #[.agg #[.int .i64 s.pace.lo, .int .i64 s.pace.hi, .int .i64 s.step.lo, .int .i64 s.step.hi]] w fun e w' => e = .returned (.int .i64 (slowE s)) ∧ Below w.heap.size w w' := by
  go_enter Tryd.func83, Tryd.ntmps83
  go_wp2_with fail
  have Y0 := Blk.new (w.alloc (.cells #[.int .i64 s.pace.lo, .int .i64 s.pace.hi, .int .i64 s.step.lo, .int .i64 s.step.hi] 66)) 27 #[.int .i64 s.pace.lo, .int .i64 s.pace.hi, .int .i64 s.step.lo, .int .i64 s.step.hi]
  have B0 : Below w.heap.size w ((w.alloc (.cells #[.int .i64 s.pace.lo, .int .i64 s.pace.hi, .int .i64 s.step.lo, .int .i64 s.step.hi] 66)).alloc (.cells #[.int .i64 s.pace.lo, .int .i64 s.pace.hi, .int .i64 s.step.lo, .int .i64 s.step.hi] 27)) := ((Below.refl _ _).alloc (Nat.le_refl _) _).alloc (by simp) _
  rw [World.size_alloc] at Y0
  refine (spanned_any 20 _ 2 2 [s.pace, s.step] _ (two_spans Y0) (by decide)).mono ?_
  rintro e w1 ⟨rfl, hb1⟩
  have B1 := B0.trans (hb1.mono B0.size)
  clear Y0 hb1 B0
  cases hi : spansB 20 [s.pace, s.step] with
  | false =>
    have HI := Lib.hid hi
    clear hi
    go_wp2_with fail
    go_ret
    exact ⟨ret_int (by unfold slowE gaitB; rw [HI.out]; rfl), B1⟩
  | true =>
    have HI := Lib.hid hi
    clear hi
    go_wp2_with fail
    go_ret
    exact ⟨ret_int (by unfold slowE gaitB; rw [HI.out]; rfl), B1⟩
set_option maxRecDepth 100000 in
set_option maxHeartbeats 2000000 in
theorem dry_any (s : Skin) (w : World) :
    Calls Tryd.prog 49 #[.agg #[.int .i64 s.drops, .int .i64 s.pace.lo, .int .i64 s.pace.hi, .int .i64 s.step.lo, .int .i64 s.step.hi]] w fun e w' => e = .returned (.int .i64 (dryE s)) ∧ Below w.heap.size w w' := by
  go_enter Tryd.func49, Tryd.ntmps49
  go_wp2_with fail
  have X0 := (Blk.new w 29 #[.int .i64 s.drops, .int .i64 s.pace.lo, .int .i64 s.pace.hi, .int .i64 s.step.lo, .int .i64 s.step.hi]).alloc (.cells #[.int .i64 s.drops] 3)
  have B0 : Below w.heap.size w ((w.alloc (.cells #[.int .i64 s.drops, .int .i64 s.pace.lo, .int .i64 s.pace.hi, .int .i64 s.step.lo, .int .i64 s.step.hi] 29)).alloc (.cells #[.int .i64 s.drops] 3)) := ((Below.refl _ _).alloc (Nat.le_refl _) _).alloc (by simp) _
  refine (in1_any 0 100000 s.drops _ _ (by simp) (by simp [go_sem])).mono ?_
  rintro e w1 ⟨rfl, hb1⟩
  have X1 := X0.below hb1 X0.lt
  have B1 := B0.trans (hb1.mono B0.size)
  have x1 := X1.cell 1
  have x2 := X1.cell 2
  have x3 := X1.cell 3
  have x4 := X1.cell 4
  clear X0 hb1 B0 X1
  cases hi : inB 0 100000 [s.drops] with
  | false =>
    have HI := Lib.hid hi
    clear hi
    go_wp2_with fail
    go_ret
    exact ⟨ret_int (by unfold dryE skinB; rw [HI.out]; rfl), B1⟩
  | true =>
    have HI := Lib.hid hi
    clear hi
    go_wp2_with fail
    have Y1 := Blk.new w1 27 #[.int .i64 s.pace.lo, .int .i64 s.pace.hi, .int .i64 s.step.lo, .int .i64 s.step.hi]
    refine (spanned_any 50 _ 2 2 [s.pace, s.step] _ (two_spans Y1) (by decide)).mono ?_
    rintro e w2 ⟨rfl, hb2⟩
    have B2 := (B1.alloc B1.size (.cells #[.int .i64 s.pace.lo, .int .i64 s.pace.hi, .int .i64 s.step.lo, .int .i64 s.step.hi] 27)).trans (hb2.mono (by simp; have := B1.size; omega))
    clear Y1 hb2 x1 x2 x3 x4
    cases hj : spansB 50 [s.pace, s.step] with
    | false =>
      have HJ := Lib.hid hj
      clear hj
      go_wp2_with fail
      go_ret
      exact ⟨ret_int (by unfold dryE skinB; rw [HI.out, HJ.out]; rfl), B2⟩
    | true =>
      have HJ := Lib.hid hj
      clear hj
      go_wp2_with fail
      go_ret
      exact ⟨ret_int (by unfold dryE skinB; rw [HI.out, HJ.out]; rfl), B2⟩
end Go.Proofs.YtahkjagjcogeiaaDoor
/- climb.asked; cmp.Or at errors. -/
namespace Go.Proofs.YtahkjagjcogeiaaDoor
open Go.RowKit
set_option linter.unusedVariables false

/-- The error of a town, and of places. -/
def askE (t : Town) (l : List Int) : Int := if townB t then (if hasB t l then 0 else 31) else 30

set_option maxRecDepth 100000 in
set_option maxHeartbeats 2000000 in
theorem asked_any (A : Option Addr) (n c : Nat) (A' : Option Addr) (m d : Nat) (t : Town) (A2 : Option Addr) (k e : Nat) (l : List Int) (w : World) (hn : n ≤ maxLen) (hm : m ≤ maxLen) (hk : k ≤ maxLen) (ht : TownAt w w.heap.size A n A' m t) (hr : IntsAt w w.heap.size A2 k l) (hL : Laid w) :
    Calls Tryd.prog 48 #[.agg #[.slice A n c, .slice A' m d], .slice A2 k e] w fun e w' => e = .returned (.int .i64 (askE t l)) ∧ Below w.heap.size w w' := by
  have HT := Lib.hid ht
  have HR := Lib.hid hr
  have HL := Lib.hid hL
  clear ht hr hL
  go_enter Tryd.func48, Tryd.ntmps48
  go_wp2_with fail
  have X0 := Blk.new w 25 #[.slice A n c, .slice A' m d]
  have B0 : Below w.heap.size w (w.alloc (.cells #[.slice A n c, .slice A' m d] 25)) := (Below.refl _ _).alloc (Nat.le_refl _) _
  generalize (w.alloc (.cells #[.slice A n c, .slice A' m d] 25)) = w0 at *
  have hl0 := HL.out.2.2.2
  refine (check_any A n c A' m d t w0 hn hm ((HT.out.below B0).more B0.size) (HL.out.below B0 hl0)).mono ?_
  rintro e w1 ⟨rfl, hb1⟩
  have X1 := X0.below hb1 X0.lt
  have B1 := B0.trans (hb1.mono B0.size)
  have x0 := X1.cell 0
  have x1 := X1.cell 1
  clear X0 B0 hb1 X1
  unfold chk
  cases ht : townB t with
  | false =>
    have HTB := Lib.hid ht
    clear ht
    go_wp2_with fail
    go_ret
    exact ⟨ret_int (by unfold askE; rw [HTB.out]; rfl), B1⟩
  | true =>
    have HTB := Lib.hid ht
    clear ht
    go_wp2_with fail
    refine (has_any A n c A' m d t A2 k e l w1 hn hk ((HT.out.below B1).more B1.size) ((HR.out.below B1).more B1.size)).mono ?_
    rintro e w2 ⟨rfl, hb2⟩
    have B2 := B1.trans (hb2.mono B1.size)
    cases hh : hasB t l with
    | false =>
      have HH := Lib.hid hh
      clear hh
      go_wp2_with fail
      go_ret
      exact ⟨ret_int (by unfold askE; rw [HTB.out, HH.out]; rfl), B2⟩
    | true =>
      have HH := Lib.hid hh
      clear hh
      go_wp2_with fail
      go_ret
      exact ⟨ret_int (by unfold askE; rw [HTB.out, HH.out]; rfl), B2⟩

/-- The first that is no zero. -/
def or2 (a b : Int) : Int := if a = 0 then b else a
set_option maxRecDepth 100000 in
set_option maxHeartbeats 2000000 in
theorem or_any (a b : Int) (g : Nat) (w : World) (hg : Blk w g 32 #[.int .i64 a, .int .i64 b]) :
    Calls Tryd.prog 47 #[.slice (some ⟨g, 0, none⟩) 2 2] w fun e w' => e = .returned (.int .i64 (or2 a b)) ∧ w' = w := by
  have c0 := hg.cell 0
  have c1 := hg.cell 1
  have hlt := hg.lt
  clear hg
  go_enter Tryd.func47, Tryd.ntmps47
  go_wp2_with fail
  go_loop [8, 5] (fun i x => ∃ k : Nat, k ≤ 2 ∧ i = .int .i64 k ∧ Hid ((0 < k → a = 0) ∧ (1 < k → b = 0))) (fun i _ => 2 - (intOf i).toNat)
  case atStart => exact ⟨0, by omega, rfl, Lib.hid ⟨fun h => absurd h (by omega), fun h => absurd h (by omega)⟩⟩
  case round =>
    obtain ⟨k, hk, rfl, HP⟩ := hrel
    have hk' : k = 0 ∨ k = 1 ∨ k = 2 := by omega
    rcases hk' with rfl | rfl | rfl
    · by_cases ha : a = 0
      · have ha' : (a == 0) = true := by simpa using ha
        have ha2 : (a != 0) = false := by simpa using ha
        have HA := Lib.hid ha
        clear ha
        go_wp2_with fail
        go_round
        case rel => exact ⟨1, by omega, by go_num, Lib.hid ⟨fun _ => HA.out, fun h => absurd h (by omega)⟩⟩
        case measure => simp [intOf]
      · have ha' : (a == 0) = false := by simpa using ha
        have ha2 : (a != 0) = true := by simpa using ha
        have HA := Lib.hid ha
        clear ha
        go_wp2_with fail
        go_ret
        exact ⟨ret_int (by unfold or2; rw [if_neg HA.out]), rfl⟩
    · by_cases hb : b = 0
      · have hb' : (b == 0) = true := by simpa using hb
        have hb2 : (b != 0) = false := by simpa using hb
        have HB := Lib.hid hb
        clear hb
        go_wp2_with fail
        go_round
        case rel => exact ⟨2, by omega, by go_num, Lib.hid ⟨fun _ => HP.out.1 (by omega), fun _ => HB.out⟩⟩
        case measure => simp [intOf]
      · have hb' : (b == 0) = false := by simpa using hb
        have hb2 : (b != 0) = true := by simpa using hb
        have HB := Lib.hid hb
        clear hb
        go_wp2_with fail
        go_ret
        exact ⟨ret_int (by unfold or2; rw [if_pos (HP.out.1 (by omega))]), rfl⟩
    · go_wp2_with fail
      go_ret
      exact ⟨ret_int (by unfold or2; rw [if_pos (HP.out.1 (by omega)), HP.out.2 (by omega)]), rfl⟩
end Go.Proofs.YtahkjagjcogeiaaDoor
/- The answer's costs: plus, less. -/
namespace Go.Proofs.YtahkjagjcogeiaaDoor
open Go.RowKit
set_option linter.unusedVariables false

def mixZ (k : Nat) (x y : Cost) : Cost := ⟨if 0 < k then x.a + y.a else 0, if 1 < k then x.b + y.b else 0, if 2 < k then x.c + y.c else 0, if 3 < k then x.d + y.d else 0⟩

set_option maxRecDepth 100000 in
set_option maxHeartbeats 4000000 in
theorem rplus_any (x y : Cost) (w : World) (hx : Small x) (hy : Small y) :
    Calls Tryd.prog 113 #[costV x, costV y] w fun e w' => e = .returned (costV (addC x y)) ∧ Below w.heap.size w w' := by
  have HX := Lib.hid hx
  have HY := Lib.hid hy
  clear hx hy
  go_enter Tryd.func113, Tryd.ntmps113
  go_wp2_with fail
  have X1 := (((Blk.new w 103 #[.int .i64 x.a, .int .i64 x.b, .int .i64 x.c, .int .i64 x.d]).alloc (.cells #[.int .i64 y.a, .int .i64 y.b, .int .i64 y.c, .int .i64 y.d] 103)).alloc (.cells #[.int .i64 0, .int .i64 0, .int .i64 0, .int .i64 0] 103)).alloc (.cells #[.int .i64 0, .int .i64 0, .int .i64 0, .int .i64 0] 103)
  have Y1 := ((Blk.new (w.alloc (.cells #[.int .i64 x.a, .int .i64 x.b, .int .i64 x.c, .int .i64 x.d] 103)) 103 #[.int .i64 y.a, .int .i64 y.b, .int .i64 y.c, .int .i64 y.d]).alloc (.cells #[.int .i64 0, .int .i64 0, .int .i64 0, .int .i64 0] 103)).alloc (.cells #[.int .i64 0, .int .i64 0, .int .i64 0, .int .i64 0] 103)
  have R1 := (Blk.new ((w.alloc (.cells #[.int .i64 x.a, .int .i64 x.b, .int .i64 x.c, .int .i64 x.d] 103)).alloc (.cells #[.int .i64 y.a, .int .i64 y.b, .int .i64 y.c, .int .i64 y.d] 103)) 103 #[.int .i64 0, .int .i64 0, .int .i64 0, .int .i64 0]).alloc (.cells #[.int .i64 0, .int .i64 0, .int .i64 0, .int .i64 0] 103)
  have Z1 := Blk.new (((w.alloc (.cells #[.int .i64 x.a, .int .i64 x.b, .int .i64 x.c, .int .i64 x.d] 103)).alloc (.cells #[.int .i64 y.a, .int .i64 y.b, .int .i64 y.c, .int .i64 y.d] 103)).alloc (.cells #[.int .i64 0, .int .i64 0, .int .i64 0, .int .i64 0] 103)) 103 #[.int .i64 0, .int .i64 0, .int .i64 0, .int .i64 0]
  have B1 : Below w.heap.size w ((((w.alloc (.cells #[.int .i64 x.a, .int .i64 x.b, .int .i64 x.c, .int .i64 x.d] 103)).alloc (.cells #[.int .i64 y.a, .int .i64 y.b, .int .i64 y.c, .int .i64 y.d] 103)).alloc (.cells #[.int .i64 0, .int .i64 0, .int .i64 0, .int .i64 0] 103)).alloc (.cells #[.int .i64 0, .int .i64 0, .int .i64 0, .int .i64 0] 103)) := ((((Below.refl _ _).alloc (Nat.le_refl _) _).alloc (by simp) _).alloc (by simp; omega) _).alloc (by simp; omega) _
  rw [World.size_alloc] at Y1
  rw [World.size_alloc, World.size_alloc] at R1
  rw [World.size_alloc, World.size_alloc, World.size_alloc] at Z1
  generalize ((((w.alloc (.cells #[.int .i64 x.a, .int .i64 x.b, .int .i64 x.c, .int .i64 x.d] 103)).alloc (.cells #[.int .i64 y.a, .int .i64 y.b, .int .i64 y.c, .int .i64 y.d] 103)).alloc (.cells #[.int .i64 0, .int .i64 0, .int .i64 0, .int .i64 0] 103)).alloc (.cells #[.int .i64 0, .int .i64 0, .int .i64 0, .int .i64 0] 103)) = w0 at *
  go_loopw [6] (fun i wr => ∃ k : Nat, k ≤ 4 ∧ i = .int .i64 k ∧ Blk wr w.heap.size 103 #[.int .i64 x.a, .int .i64 x.b, .int .i64 x.c, .int .i64 x.d] ∧ Blk wr (w.heap.size + 1) 103 #[.int .i64 y.a, .int .i64 y.b, .int .i64 y.c, .int .i64 y.d] ∧ Blk wr (w.heap.size + 1 + 1) 103 #[.int .i64 0, .int .i64 0, .int .i64 0, .int .i64 0] ∧ Blk wr (w.heap.size + 1 + 1 + 1) 103 #[.int .i64 (mixZ k x y).a, .int .i64 (mixZ k x y).b, .int .i64 (mixZ k x y).c, .int .i64 (mixZ k x y).d] ∧ Below w.heap.size w wr)
    (fun i _ => 4 - (intOf i).toNat)
  case atStart => exact ⟨0, by omega, rfl, X1, Y1, R1, Z1, B1⟩
  case round =>
    obtain ⟨k, hk, rfl, hX, hY, hR, hZ, hbel⟩ := hrel
    have x0 := hX.cell 0
    have x1 := hX.cell 1
    have x2 := hX.cell 2
    have x3 := hX.cell 3
    have y0 := hY.cell 0
    have y1 := hY.cell 1
    have y2 := hY.cell 2
    have y3 := hY.cell 3
    have c0 := hR.cell 0
    have c1 := hR.cell 1
    have c2 := hR.cell 2
    have c3 := hR.cell 3
    have z0 := hZ.cell 0
    have z1 := hZ.cell 1
    have z2 := hZ.cell 2
    have z3 := hZ.cell 3
    have p0 := hR.frozen 0
    have p1 := hR.frozen 1
    have p2 := hR.frozen 2
    have p3 := hR.frozen 3
    have q0 := hZ.frozen 0
    have q1 := hZ.frozen 1
    have q2 := hZ.frozen 2
    have q3 := hZ.frozen 3
    have hlZ := hZ.lt
    have HX' := Lib.hid hX
    have HY' := Lib.hid hY
    have HR' := Lib.hid hR
    have HZ' := Lib.hid hZ
    clear hX hY hR hZ X1 Y1 R1 Z1 B1
    simp only [List.getElem?_toArray, List.getElem?_cons_zero, List.getElem?_cons_succ] at x0 x1 x2 x3 y0 y1 y2 y3 c0 c1 c2 c3 z0 z1 z2 z3
    rcases (show k = 0 ∨ k = 1 ∨ k = 2 ∨ k = 3 ∨ k = 4 by omega) with rfl | rfl | rfl | rfl | rfl
    · obtain ⟨hx1, hx2⟩ := HX.out.a
      obtain ⟨hy1, hy2⟩ := HY.out.a
      replace z0 : wr.cell? ⟨w.heap.size + 1 + 1 + 1, 0, none⟩ = some (.int .i64 0) := z0
      go_wp2_with fail
      go_region
      go_wp2_with fail
      go_roundw
      case rel => exact ⟨1, by omega, by go_num, (HX'.out.far (p := ⟨w.heap.size + 1 + 1 + 1, 0, none⟩) (by show _ ≠ w.heap.size + 1 + 1 + 1; omega) _).drewN 1, (HY'.out.far (p := ⟨w.heap.size + 1 + 1 + 1, 0, none⟩) (by show _ ≠ w.heap.size + 1 + 1 + 1; omega) _).drewN 1, (HR'.out.far (p := ⟨w.heap.size + 1 + 1 + 1, 0, none⟩) (by show _ ≠ w.heap.size + 1 + 1 + 1; omega) _).drewN 1, (HZ'.out.set_ 0 (.int .i64 (x.a + y.a))).drewN 1, below_drewN (hbel.setCell (p := ⟨w.heap.size + 1 + 1 + 1, 0, none⟩) (by simp; omega) _) 1⟩
      case measure => simp [intOf]
    · obtain ⟨hx1, hx2⟩ := HX.out.b
      obtain ⟨hy1, hy2⟩ := HY.out.b
      replace z1 : wr.cell? ⟨w.heap.size + 1 + 1 + 1, 1, none⟩ = some (.int .i64 0) := z1
      go_wp2_with fail
      go_region
      go_wp2_with fail
      go_roundw
      case rel => exact ⟨2, by omega, by go_num, (HX'.out.far (p := ⟨w.heap.size + 1 + 1 + 1, 1, none⟩) (by show _ ≠ w.heap.size + 1 + 1 + 1; omega) _).drewN 1, (HY'.out.far (p := ⟨w.heap.size + 1 + 1 + 1, 1, none⟩) (by show _ ≠ w.heap.size + 1 + 1 + 1; omega) _).drewN 1, (HR'.out.far (p := ⟨w.heap.size + 1 + 1 + 1, 1, none⟩) (by show _ ≠ w.heap.size + 1 + 1 + 1; omega) _).drewN 1, (HZ'.out.set_ 1 (.int .i64 (x.b + y.b))).drewN 1, below_drewN (hbel.setCell (p := ⟨w.heap.size + 1 + 1 + 1, 1, none⟩) (by simp; omega) _) 1⟩
      case measure => simp [intOf]
    · obtain ⟨hx1, hx2⟩ := HX.out.c
      obtain ⟨hy1, hy2⟩ := HY.out.c
      replace z2 : wr.cell? ⟨w.heap.size + 1 + 1 + 1, 2, none⟩ = some (.int .i64 0) := z2
      go_wp2_with fail
      go_region
      go_wp2_with fail
      go_roundw
      case rel => exact ⟨3, by omega, by go_num, (HX'.out.far (p := ⟨w.heap.size + 1 + 1 + 1, 2, none⟩) (by show _ ≠ w.heap.size + 1 + 1 + 1; omega) _).drewN 1, (HY'.out.far (p := ⟨w.heap.size + 1 + 1 + 1, 2, none⟩) (by show _ ≠ w.heap.size + 1 + 1 + 1; omega) _).drewN 1, (HR'.out.far (p := ⟨w.heap.size + 1 + 1 + 1, 2, none⟩) (by show _ ≠ w.heap.size + 1 + 1 + 1; omega) _).drewN 1, (HZ'.out.set_ 2 (.int .i64 (x.c + y.c))).drewN 1, below_drewN (hbel.setCell (p := ⟨w.heap.size + 1 + 1 + 1, 2, none⟩) (by simp; omega) _) 1⟩
      case measure => simp [intOf]
    · obtain ⟨hx1, hx2⟩ := HX.out.d
      obtain ⟨hy1, hy2⟩ := HY.out.d
      replace z3 : wr.cell? ⟨w.heap.size + 1 + 1 + 1, 3, none⟩ = some (.int .i64 0) := z3
      go_wp2_with fail
      go_region
      go_wp2_with fail
      go_roundw
      case rel => exact ⟨4, by omega, by go_num, (HX'.out.far (p := ⟨w.heap.size + 1 + 1 + 1, 3, none⟩) (by show _ ≠ w.heap.size + 1 + 1 + 1; omega) _).drewN 1, (HY'.out.far (p := ⟨w.heap.size + 1 + 1 + 1, 3, none⟩) (by show _ ≠ w.heap.size + 1 + 1 + 1; omega) _).drewN 1, (HR'.out.far (p := ⟨w.heap.size + 1 + 1 + 1, 3, none⟩) (by show _ ≠ w.heap.size + 1 + 1 + 1; omega) _).drewN 1, (HZ'.out.set_ 3 (.int .i64 (x.d + y.d))).drewN 1, below_drewN (hbel.setCell (p := ⟨w.heap.size + 1 + 1 + 1, 3, none⟩) (by simp; omega) _) 1⟩
      case measure => simp [intOf]
    · replace z0 : wr.cell? ⟨w.heap.size + 1 + 1 + 1, 0, none⟩ = some (.int .i64 (x.a + y.a)) := z0
      replace z1 : wr.cell? ⟨w.heap.size + 1 + 1 + 1, 1, none⟩ = some (.int .i64 (x.b + y.b)) := z1
      replace z2 : wr.cell? ⟨w.heap.size + 1 + 1 + 1, 2, none⟩ = some (.int .i64 (x.c + y.c)) := z2
      replace z3 : wr.cell? ⟨w.heap.size + 1 + 1 + 1, 3, none⟩ = some (.int .i64 (x.d + y.d)) := z3
      go_wp2_with fail
      exact bodyPost_ret (v := costV (addC x y)) (by simp [results, Tryd.results113, go_sem, c0, c1, c2, c3, addC]) rfl ⟨rfl, (((hbel.setCell (by simp; omega) _).setCell (by simp; omega) _).setCell (by simp; omega) _).setCell (by simp; omega) _⟩

/-- Less, as the answer has it. -/
def lessC (x y : Cost) : Bool := if x.a ≠ y.a then decide (x.a < y.a) else if x.b ≠ y.b then decide (x.b < y.b) else if x.c ≠ y.c then decide (x.c < y.c) else if x.d ≠ y.d then decide (x.d < y.d) else false
def sameTo (k : Nat) (x y : Cost) : Prop := (0 < k → x.a = y.a) ∧ (1 < k → x.b = y.b) ∧ (2 < k → x.c = y.c) ∧ (3 < k → x.d = y.d)

set_option maxRecDepth 100000 in
set_option maxHeartbeats 4000000 in
theorem rless_any (x y : Cost) (w : World) :
    Calls Tryd.prog 142 #[costV x, costV y] w fun e w' => e = .returned (.bool (lessC x y)) ∧ Below w.heap.size w w' := by
  go_enter Tryd.func142, Tryd.ntmps142
  go_wp2_with fail
  have X1 := (Blk.new w 103 #[.int .i64 x.a, .int .i64 x.b, .int .i64 x.c, .int .i64 x.d]).alloc (.cells #[.int .i64 y.a, .int .i64 y.b, .int .i64 y.c, .int .i64 y.d] 103)
  have Y1 := Blk.new (w.alloc (.cells #[.int .i64 x.a, .int .i64 x.b, .int .i64 x.c, .int .i64 x.d] 103)) 103 #[.int .i64 y.a, .int .i64 y.b, .int .i64 y.c, .int .i64 y.d]
  have B1 : Below w.heap.size w ((w.alloc (.cells #[.int .i64 x.a, .int .i64 x.b, .int .i64 x.c, .int .i64 x.d] 103)).alloc (.cells #[.int .i64 y.a, .int .i64 y.b, .int .i64 y.c, .int .i64 y.d] 103)) := ((Below.refl _ _).alloc (Nat.le_refl _) _).alloc (by simp) _
  rw [World.size_alloc] at Y1
  generalize ((w.alloc (.cells #[.int .i64 x.a, .int .i64 x.b, .int .i64 x.c, .int .i64 x.d] 103)).alloc (.cells #[.int .i64 y.a, .int .i64 y.b, .int .i64 y.c, .int .i64 y.d] 103)) = w0 at *
  go_loopw [5] (fun i wr => ∃ k : Nat, k ≤ 4 ∧ i = .int .i64 k ∧ sameTo k x y ∧ Blk wr w.heap.size 103 #[.int .i64 x.a, .int .i64 x.b, .int .i64 x.c, .int .i64 x.d] ∧ Blk wr (w.heap.size + 1) 103 #[.int .i64 y.a, .int .i64 y.b, .int .i64 y.c, .int .i64 y.d] ∧ Below w.heap.size w wr)
    (fun i _ => 4 - (intOf i).toNat)
  case atStart => exact ⟨0, by omega, rfl, ⟨fun h => absurd h (by omega), fun h => absurd h (by omega), fun h => absurd h (by omega), fun h => absurd h (by omega)⟩, X1, Y1, B1⟩
  case round =>
    obtain ⟨k, hk, rfl, hs, hX, hY, hbel⟩ := hrel
    have x0 := hX.cell 0
    have x1 := hX.cell 1
    have x2 := hX.cell 2
    have x3 := hX.cell 3
    have y0 := hY.cell 0
    have y1 := hY.cell 1
    have y2 := hY.cell 2
    have y3 := hY.cell 3
    have HX' := Lib.hid hX
    have HY' := Lib.hid hY
    have HS := Lib.hid hs
    clear hX hY hs X1 Y1 B1
    simp only [List.getElem?_toArray, List.getElem?_cons_zero, List.getElem?_cons_succ] at x0 x1 x2 x3 y0 y1 y2 y3
    rcases (show k = 0 ∨ k = 1 ∨ k = 2 ∨ k = 3 ∨ k = 4 by omega) with rfl | rfl | rfl | rfl | rfl
    · by_cases he : x.a = y.a
      · have he' : (x.a != y.a) = false := by simpa using he
        have HE := Lib.hid he
        clear he
        go_wp2_with fail
        go_region
        go_wp2_with fail
        go_roundw
        case rel => exact ⟨1, by omega, by go_num, ⟨fun _ => HE.out, fun h => absurd h (by omega), fun h => absurd h (by omega), fun h => absurd h (by omega)⟩, HX'.out.drewN 1, HY'.out.drewN 1, below_drewN hbel 1⟩
        case measure => simp [intOf]
      · have he' : (x.a != y.a) = true := by simpa using he
        have HE := Lib.hid he
        clear he
        go_wp2_with fail
        go_region
        go_wp2_with fail
        go_region
        go_wp2_with fail
        go_ret
        exact ⟨ret_bool (by simp [lessC, HE.out]), below_drewN hbel 2⟩
    · by_cases he : x.b = y.b
      · have he' : (x.b != y.b) = false := by simpa using he
        have HE := Lib.hid he
        clear he
        go_wp2_with fail
        go_region
        go_wp2_with fail
        go_roundw
        case rel => exact ⟨2, by omega, by go_num, ⟨fun _ => HS.out.1 (by omega), fun _ => HE.out, fun h => absurd h (by omega), fun h => absurd h (by omega)⟩, HX'.out.drewN 1, HY'.out.drewN 1, below_drewN hbel 1⟩
        case measure => simp [intOf]
      · have he' : (x.b != y.b) = true := by simpa using he
        have HE := Lib.hid he
        clear he
        go_wp2_with fail
        go_region
        go_wp2_with fail
        go_region
        go_wp2_with fail
        go_ret
        exact ⟨ret_bool (by simp [lessC, HE.out, HS.out.1 (by omega)]), below_drewN hbel 2⟩
    · by_cases he : x.c = y.c
      · have he' : (x.c != y.c) = false := by simpa using he
        have HE := Lib.hid he
        clear he
        go_wp2_with fail
        go_region
        go_wp2_with fail
        go_roundw
        case rel => exact ⟨3, by omega, by go_num, ⟨fun _ => HS.out.1 (by omega), fun _ => HS.out.2.1 (by omega), fun _ => HE.out, fun h => absurd h (by omega)⟩, HX'.out.drewN 1, HY'.out.drewN 1, below_drewN hbel 1⟩
        case measure => simp [intOf]
      · have he' : (x.c != y.c) = true := by simpa using he
        have HE := Lib.hid he
        clear he
        go_wp2_with fail
        go_region
        go_wp2_with fail
        go_region
        go_wp2_with fail
        go_ret
        exact ⟨ret_bool (by simp [lessC, HE.out, HS.out.1 (by omega), HS.out.2.1 (by omega)]), below_drewN hbel 2⟩
    · by_cases he : x.d = y.d
      · have he' : (x.d != y.d) = false := by simpa using he
        have HE := Lib.hid he
        clear he
        go_wp2_with fail
        go_region
        go_wp2_with fail
        go_roundw
        case rel => exact ⟨4, by omega, by go_num, ⟨fun _ => HS.out.1 (by omega), fun _ => HS.out.2.1 (by omega), fun _ => HS.out.2.2.1 (by omega), fun _ => HE.out⟩, HX'.out.drewN 1, HY'.out.drewN 1, below_drewN hbel 1⟩
        case measure => simp [intOf]
      · have he' : (x.d != y.d) = true := by simpa using he
        have HE := Lib.hid he
        clear he
        go_wp2_with fail
        go_region
        go_wp2_with fail
        go_region
        go_wp2_with fail
        go_ret
        exact ⟨ret_bool (by simp [lessC, HE.out, HS.out.1 (by omega), HS.out.2.1 (by omega), HS.out.2.2.1 (by omega)]), below_drewN hbel 2⟩
    · go_wp2_with fail
      go_ret
      exact ⟨ret_bool (by simp [lessC, HS.out.1 (by omega), HS.out.2.1 (by omega), HS.out.2.2.1 (by omega), HS.out.2.2.2 (by omega)]), hbel⟩
end Go.Proofs.YtahkjagjcogeiaaDoor
