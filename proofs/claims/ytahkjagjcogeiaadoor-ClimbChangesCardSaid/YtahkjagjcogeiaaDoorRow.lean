/- Writing many cells of a block; what else lies as it lay. -/
import Derived.Test.YtahkjagjcogeiaaDoorOwn
import Derived.Laws.IdiomCopy
namespace Go.Proofs.YtahkjagjcogeiaaDoor
open Go.RowKit
set_option linter.unusedVariables false

/-- Cells from o on turned. -/
def wrt : Array Value → Nat → List Value → Array Value
  | cs, _, [] => cs
  | cs, o, v :: r => wrt (cs.setIfInBounds o v) (o + 1) r
theorem wrt_size : ∀ (vs : List Value) (o : Nat) (cs : Array Value), (wrt cs o vs).size = cs.size
  | [], _, _ => rfl
  | v :: r, o, cs => by rw [wrt, wrt_size r]; simp
theorem wrt_out : ∀ (vs : List Value) (o : Nat) (cs : Array Value) (k : Nat), k < o ∨ o + vs.length ≤ k → (wrt cs o vs)[k]? = cs[k]?
  | [], _, _, _, _ => rfl
  | v :: r, o, cs, k, h => by
    simp at h
    rw [wrt, wrt_out r _ _ _ (by omega), Array.getElem?_setIfInBounds_ne (by omega)]
theorem wrt_in : ∀ (vs : List Value) (o : Nat) (cs : Array Value) (k : Nat), k < vs.length → o + vs.length ≤ cs.size → (wrt cs o vs)[o + k]? = vs[k]?
  | [], _, _, _, h, _ => by simp at h
  | v :: r, o, cs, k, h, hs => by
    simp at hs h
    cases k with
    | zero => rw [wrt, wrt_out r _ _ _ (.inl (by omega)), Nat.add_zero, Array.getElem?_setIfInBounds_self_of_lt (by omega)]; simp
    | succ k => rw [wrt, show o + (k + 1) = o + 1 + k by omega, wrt_in r _ _ _ (by omega) (by simp; omega)]; simp

section
variable {w w' w2 : World} {g : Nat} {t : TypeId} {cs : Array Value}
theorem Blk.drew (h : Blk w g t cs) : Blk w.drew g t cs := h
theorem Blk.setCells : ∀ (vs : List Value) (o : Nat) {w : World} {cs : Array Value}, Blk w g t cs → Blk (w.setCells g o vs) g t (wrt cs o vs)
  | [], _, _, _, h => h
  | v :: r, o, w, cs, h => Blk.setCells r (o + 1) (h.set_ o v)
theorem size_setCells : ∀ (vs : List Value) (o : Nat) (w : World), (w.setCells g o vs).heap.size = w.heap.size
  | [], _, _ => rfl
  | v :: r, o, w => by rw [World.setCells, size_setCells r]; simp [World.setCell]
theorem grown_refl (w : World) (row : Option Nat) : w.grownBy w row := ⟨rfl, rfl, rfl, Nat.le_refl _, fun _ _ _ => rfl⟩
theorem grown_trans {row : Option Nat} (h : w.grownBy w' row) (k : w'.grownBy w2 row) : w.grownBy w2 row :=
  ⟨k.os.trans h.os, k.tape.trans h.tape, k.output.trans h.output, Nat.le_trans h.size k.size, fun i hi hr => (k.block i (Nat.lt_of_lt_of_le hi h.size) hr).trans (h.block i hi hr)⟩
theorem grown_below {row : Option Nat} (h : w.grownBy w' row) (k : Below w'.heap.size w' w2) : w.grownBy w2 row :=
  ⟨k.os.trans h.os, k.tape.trans h.tape, k.output.trans h.output, Nat.le_trans h.size k.size, fun i hi hr => (k.block i (Nat.lt_of_lt_of_le hi h.size)).trans (h.block i hi hr)⟩
theorem grown_of_below (h : Below w.heap.size w w') (row : Option Nat) : w.grownBy w' row := ⟨h.os, h.tape, h.output, h.size, fun k hk _ => h.block k hk⟩
theorem grown_alloc {row : Option Nat} (h : w.grownBy w' row) (o : Obj) : w.grownBy (w'.alloc o) row := grown_below h ((Below.refl _ _).alloc (Nat.le_refl _) _)
theorem grown_drew {row : Option Nat} (h : w.grownBy w' row) (n : Nat) : w.grownBy (w'.drewN n) row := ⟨h.os, h.tape, h.output, h.size, h.block⟩
theorem grown_setCell {row : Option Nat} (h : w.grownBy w' row) {p : Addr} (hp : some p.block = row ∨ w.heap.size ≤ p.block) (u : Value) : w.grownBy (w'.setCell p u) row :=
  ⟨h.os, h.tape, h.output, by have := h.size; simpa [World.setCell] using this, fun i hi hr => (Below.heap_setCell w' p u i (by
    intro e
    subst e
    rcases hp with hp | hp
    · exact hr hp
    · omega)).trans (h.block i hi hr)⟩
theorem grown_setCells {row : Option Nat} : ∀ (vs : List Value) (o : Nat) {w' : World}, w.grownBy w' row → some g = row ∨ w.heap.size ≤ g → w.grownBy (w'.setCells g o vs) row
  | [], _, _, h, _ => h
  | v :: r, o, w', h, hp => grown_setCells r (o + 1) (grown_setCell h (p := ⟨g, o, none⟩) hp v) hp
theorem below_of_grown {B : Nat} {row : Option Nat} (h : w.grownBy w' row) (hr : ∀ k, row = some k → B ≤ k) (hB : B ≤ w.heap.size) : Below B w w' :=
  (Below.refl B w).grown h hB hr
theorem Reads.grown {B size n : Nat} {A : Option Addr} {xs : List Value} {row : Option Nat} (h : Reads w B size A n xs) (hg : w.grownBy w' row) (hB : B ≤ w.heap.size) (hr : ∀ a, A = some a → some a.block ≠ row) : Reads w' B size A n xs :=
  ⟨h.1, fun hn => by
    obtain ⟨ad, e, hb, hc⟩ := h.2 hn
    exact ⟨ad, e, hb, fun j u hu => by
      rw [← hc j u hu]
      exact World.cell?_of_block (hg.block _ (by rw [block_of_add]; omega) (by rw [block_of_add]; exact hr ad e))⟩⟩
theorem Own.grown {base n cap size : Nat} {e : TypeId} {A : Option Addr} {xs : List Value} {row : Option Nat} (h : Own w base e size A n cap xs) (hg : w.grownBy w' row) (hr : ∀ a, A = some a → some a.block ≠ row) : Own w' base e size A n cap xs := by
  refine ⟨h.1, ?_⟩
  rcases h.2 with h' | ⟨g, cap', cur, hv, hb, hgb, hrest⟩
  · exact .inl h'
  · have hl : g < w.heap.size := (Array.getElem?_eq_some_iff.1 hgb).1
    simp at hv
    exact .inr ⟨g, cap', cur, by simp [hv], hb, (hg.block g hl (by have := hr _ hv.1; simpa using this)).trans hgb, hrest⟩
/-- A slice is owned where its block is known. -/
theorem Own.mk_ {base n cap size : Nat} {e : TypeId} {xs : List Value} {cur : Array Value} (hb : base ≤ g) (h : Blk w g e cur) (h1 : n ≤ cap) (h2 : cap ≤ maxLen) (h3 : cur.size = cap * size) (h4 : xs.length = n * size) (h5 : ∀ k, k < n * size → cur[k]? = xs[k]?) : Own w base e size (some ⟨g, 0, none⟩) n cap xs := by
  refine ⟨h4, .inr ⟨g, cap, cur, by simp, hb, h, h1, h2, h3, ?_⟩⟩
  apply List.ext_getElem?
  intro k
  rw [List.getElem?_take]
  split
  · rename_i hk; rw [Array.getElem?_toList]; exact h5 k hk
  · rename_i hk; rw [List.getElem?_eq_none (by omega)]
end

/-- The cells of element k of a row of structs. -/
def ElAt (cur : Array Value) (size k : Nat) (vs : List Value) : Prop := ∀ q, q < size → cur[k * size + q]? = vs[q]?
theorem ElAt.wrt_same {cur : Array Value} {size k : Nat} {vs : List Value} (hv : vs.length = size) (hk : (k + 1) * size ≤ cur.size) : ElAt (wrt cur (k * size) vs) size k vs := by
  intro q hq
  exact wrt_in vs _ _ _ (by omega) (by rw [Nat.add_mul] at hk; omega)
theorem ElAt.wrt_other {cur : Array Value} {size k j : Nat} {vs us : List Value} (h : ElAt cur size j us) (hv : vs.length = size) (hkj : k ≠ j) : ElAt (wrt cur (k * size) vs) size j us := by
  intro q hq
  rw [wrt_out]
  · exact h q hq
  · rcases Nat.lt_or_gt_of_ne hkj with h1 | h1
    · right
      have := Nat.mul_le_mul_right size (show k + 1 ≤ j by omega)
      rw [Nat.add_mul] at this
      omega
    · left
      have := Nat.mul_le_mul_right size (show j + 1 ≤ k by omega)
      rw [Nat.add_mul] at this
      omega
theorem flat_len' {α : Type} {vals : α → List Value} {size : Nat} (hv : ∀ x, (vals x).length = size) (l : List α) : (l.flatMap vals).length = l.length * size := by
  induction l with
  | nil => simp
  | cons x l ih => rw [List.flatMap_cons, List.length_append, ih, List.length_cons, hv, Nat.add_mul]; omega
theorem flat_at' {α : Type} {vals : α → List Value} {size : Nat} (hv : ∀ x, (vals x).length = size) {l : List α} {k j : Nat} {x : α} (h : l[k]? = some x) (hj : j < size) : (l.flatMap vals)[k * size + j]? = (vals x)[j]? := by
  induction l generalizing k with
  | nil => simp at h
  | cons y l ih =>
    rw [List.flatMap_cons]
    cases k with
    | zero =>
      simp at h; subst h
      rw [List.getElem?_append_left (by rw [hv]; omega)]; simp
    | succ k =>
      rw [List.getElem?_append_right (by rw [hv, Nat.add_mul]; omega)]
      have : (k + 1) * size + j - (vals y).length = k * size + j := by rw [hv, Nat.add_mul]; omega
      rw [this]
      exact ih (by simpa using h)
/-- All elements known: the cells are. -/
theorem flat_of_els {α : Type} {vals : α → List Value} {size : Nat} (hs : 0 < size) (hv : ∀ x, (vals x).length = size) {l : List α} {cur : Array Value} (h : ∀ (k : Nat) x, l[k]? = some x → ElAt cur size k (vals x)) : ∀ k, k < l.length * size → cur[k]? = (l.flatMap vals)[k]? := by
  intro k hk
  have hq : k / size < l.length := (Nat.div_lt_iff_lt_mul hs).2 hk
  have hx : l[k / size]? = some l[k / size] := List.getElem?_eq_getElem hq
  have h1 := h _ _ hx (k % size) (Nat.mod_lt _ hs)
  have h2 := flat_at' hv hx (Nat.mod_lt k hs)
  have e : k / size * size + k % size = k := by rw [Nat.mul_comm]; exact Nat.div_add_mod k size
  rw [e] at h1 h2
  rw [h1, h2]
theorem els_of_flat {α : Type} {vals : α → List Value} {size : Nat} (hv : ∀ x, (vals x).length = size) {l : List α} {cur : Array Value} (h : ∀ k, k < l.length * size → cur[k]? = (l.flatMap vals)[k]?) : ∀ (k : Nat) x, l[k]? = some x → ElAt cur size k (vals x) := by
  intro k x hx q hq
  have hk : k < l.length := (List.getElem?_eq_some_iff.1 hx).1
  have := Nat.mul_le_mul_right size (show k + 1 ≤ l.length by omega)
  rw [Nat.add_mul] at this
  rw [h _ (by omega), flat_at' hv hx hq]

/-- clear(s[i:]) on structs. -/
theorem run_clear_row {P : Program} {w : World} {g : Nat} {e : TypeId} {cs : Array Value} {t ty : TypeId} {z : Value} (hb : Blk w g e cs) (ht : P.underlying t = some (.slice e)) (hv : ∀ w, (zeroValue e).run P w = .ok z w) (h1 : ∀ u ∈ z.cells.toList, u.oneCell' = true) (o n c : Nat) (hn : o + n * z.cells.size ≤ cs.size) :
    ∃ vs : List Value, vs.length = n * z.cells.size ∧ (Builtin.clear_ #[t] ty #[.slice (some ⟨g, o, none⟩) n c]).run P w = .ok (.tuple #[]) (w.setCells g o vs) := by
  cases n with
  | zero => exact ⟨[], by simp, by simp [Builtin.clear_, run_underlying ht, World.setCells]⟩
  | succ n =>
    have hl : (Builtin.zeroCells z.cells (n + 1)).toList.length = (n + 1) * z.cells.size := by simp [Builtin.zeroCells]
    refine ⟨(Builtin.zeroCells z.cells (n + 1)).toList, hl, ?_⟩
    have hst := run_storeCells_cells (P := P) g o (Builtin.zeroCells z.cells (n + 1)).toList 0 w ?_ (fun j _ => hb.frozen _) ?_
    · simp only [Nat.add_zero] at hst
      simp [Builtin.clear_, run_underlying ht, hv, hst]
    · intro j hj
      rw [hb.cell]
      rw [hl] at hj
      rw [Array.getElem?_eq_getElem (by omega)]; rfl
    · intro v hv'
      simp only [Builtin.zeroCells, Array.toList_map, List.mem_map, Array.toList_range, List.mem_range] at hv'
      obtain ⟨i, hi, rfl⟩ := hv'
      have hp : 0 < z.cells.size := by
        rcases Nat.eq_zero_or_pos z.cells.size with h | h
        · rw [h] at hi; simp at hi
        · exact h
      have hlt : i % z.cells.size < z.cells.size := Nat.mod_lt _ hp
      rw [getElem!_pos z.cells _ hlt]
      exact h1 _ (by simp)
end Go.Proofs.YtahkjagjcogeiaaDoor
