/- One law on append, whatever its source; slices that a call owns. -/
import Derived.Test.YtahkjagjcogeiaaDoorMem
import Derived.Maps.AppendAt
import Derived.Deep.AppendLies
import Derived.Lib.SliceRun
namespace Go.Proofs.YtahkjagjcogeiaaDoor
open Go.RowKit
set_option linter.unusedVariables false

/-- The slice type t over elements e: zero value z, 'size' cells, 'bytes' bytes. -/
structure ElemI (P : Program) (t e : TypeId) (i : TypeInfo) (z : Value) (size bytes : Nat) : Prop where
  und : P.underlying t = some (.slice e)
  info : P.info? e = some i
  zero : i.zero = some z
  isize : i.size = size
  ibytes : i.bytes = bytes
  zcells : z.cells.size = size
  pos : 0 < size

def ElemAt (P : Program) (t e : TypeId) (z : Value) (size bytes : Nat) : Prop := ∃ i, ElemI P t e i z size bytes

/-- The call owns the slice (A, n, cap), which holds the cells xs. -/
def Own (w : World) (base : Nat) (e : TypeId) (size : Nat) (A : Option Addr) (n cap : Nat) (xs : List Value) : Prop := w.ownsRow base e size (.slice A n cap) n xs

section
variable {w w' : World} {base n cap size : Nat} {e : TypeId} {A : Option Addr} {xs : List Value}
theorem Own.none_ (w : World) (base : Nat) (e : TypeId) (size : Nat) : Own w base e size none 0 0 [] := World.ownsRow_nil w base e size
theorem Own.form (h : Own w base e size A n cap xs) : (A = none ∧ n = 0 ∧ cap = 0 ∧ xs = []) ∨ ∃ g cur, A = some ⟨g, 0, none⟩ ∧ base ≤ g ∧ Blk w g e cur ∧ n ≤ cap ∧ cap ≤ maxLen ∧ cur.size = cap * size ∧ cur.toList.take (n * size) = xs ∧ xs.length = n * size := by
  rcases h.2 with ⟨hv, h0⟩ | ⟨g, cap', cur, hv, hb, hg, h1, h2, h3, h4⟩
  · simp at hv
    obtain ⟨rfl, rfl, rfl⟩ := hv
    exact .inl ⟨rfl, rfl, rfl, List.eq_nil_of_length_eq_zero (by simpa using h.1)⟩
  · simp at hv
    obtain ⟨rfl, rfl⟩ := hv
    exact .inr ⟨g, cur, rfl, hb, hg, h1, h2, h3, h4, h.1⟩
theorem Own.len (h : Own w base e size A n cap xs) : xs.length = n * size := h.1
theorem Own.cap_le (h : Own w base e size A n cap xs) : n ≤ cap ∧ cap ≤ maxLen := by
  rcases h.form with ⟨_, rfl, rfl, _⟩ | ⟨_, _, _, _, _, h1, h2, _⟩
  · exact ⟨Nat.le_refl _, by unfold maxLen; omega⟩
  · exact ⟨h1, h2⟩
theorem Own.reads (h : Own w base e size A n cap xs) {B : Nat} (hB : w.heap.size ≤ B) : Reads w B size A n xs := by
  rcases h.form with ⟨rfl, rfl, rfl, rfl⟩ | ⟨g, cur, rfl, hb, hg, h1, h2, h3, h4, h5⟩
  · exact Reads.none_
  · refine ⟨h5, fun _ => ⟨_, rfl, Nat.lt_of_lt_of_le hg.lt hB, fun j u hu => ?_⟩⟩
    have ha : ((⟨g, 0, none⟩ : Addr).add j) = ⟨g, j, none⟩ := by
      unfold Addr.add
      by_cases hj : j = 0
      · simp [hj]
      · simp [hj]
    have hj : j < n * size := by
      rw [← h5]
      exact (List.getElem?_eq_some_iff.1 hu).1
    rw [ha, hg.cell, ← Array.getElem?_toList, ← hu, ← h4, List.getElem?_take, if_pos hj]
theorem Own.mono (h : Own w base e size A n cap xs) {b' : Nat} (hb : b' ≤ base) : Own w b' e size A n cap xs := by
  refine ⟨h.1, ?_⟩
  rcases h.2 with h' | ⟨g, cap', cur, hv, hb', hr⟩
  · exact .inl h'
  · exact .inr ⟨g, cap', cur, hv, Nat.le_trans hb hb', hr⟩
theorem Own.alloc (h : Own w base e size A n cap xs) (o : Obj) : Own (w.alloc o) base e size A n cap xs := World.ownsRow.alloc h o
theorem Own.drewN (h : Own w base e size A n cap xs) (k : Nat) : Own (w.drewN k) base e size A n cap xs := h
theorem Own.below {B : Nat} (h : Own w base e size A n cap xs) (hb : Below B w w') (hB : w.heap.size ≤ B) : Own w' base e size A n cap xs := by
  refine ⟨h.1, ?_⟩
  rcases h.2 with h' | ⟨g, cap', cur, hv, hb', hg, hr⟩
  · exact .inl h'
  · have hl : g < w.heap.size := by
      rcases Nat.lt_or_ge g w.heap.size with hlt | hge
      · exact hlt
      · rw [Array.getElem?_eq_none hge] at hg; cases hg
    exact .inr ⟨g, cap', cur, hv, hb', (hb.block g (by omega)).trans hg, hr⟩
/-- The own block, if there is one. -/
theorem Own.lt (h : Own w base e size A n cap xs) {a : Addr} (ha : A = some a) : base ≤ a.block ∧ a.block < w.heap.size := by
  rcases h.form with ⟨rfl, _⟩ | ⟨g, cur, rfl, hb, hg, _⟩
  · cases ha
  · cases ha; exact ⟨hb, hg.lt⟩
theorem Own.nil (h : Own w base e size none n cap xs) : n = 0 ∧ cap = 0 ∧ xs = [] := by
  rcases h.form with ⟨_, h1, h2, h3⟩ | ⟨g, cur, h', _⟩
  · exact ⟨h1, h2, h3⟩
  · cases h'
end

theorem ownBlock_slice (A : Option Addr) (n cap : Nat) : (Value.slice A n cap).ownBlock = A.map (·.block) := by
  cases A <;> rfl

section
variable {P : Program} (w : World)
/-- THE LAW ON append: the source may be nil, empty, or hold cells. -/
theorem run_append_any {t e : TypeId} (ty : TypeId) {z : Value} {size bytes : Nat} (EE : ElemAt P t e z size bytes) {base : Nat} {A : Option Addr} {n cap : Nat} {xs : List Value} (hown : Own w base e size A n cap xs)
    {A2 : Option Addr} {m c B : Nat} {news : List Value} (hR : Reads w B size A2 m news) (h1 : ∀ u ∈ news, u.oneCell' = true) (h63 : n + m ≤ maxLen) (hbytes : (n + m) * bytes ≤ 140737488355328) (hbase : base ≤ w.heap.size) :
    ∃ A' cap' w', (Builtin.append_ #[t, t] ty #[.slice A n cap, .slice A2 m c]).run P w = .ok (.slice A' (n + m) cap') w' ∧ Own w' base e size A' (n + m) cap' (xs ++ news) ∧ w.grownBy w' (A.map (·.block)) ∧ (A' = A ∨ A' = some ⟨w.heap.size, 0, none⟩) := by
  obtain ⟨i, E⟩ := EE
  have main : ∀ (ad : Addr), (∀ j u, news[j]? = some u → w.cell? (ad.add j) = some u) → ∃ A' cap' w', (Builtin.append_ #[t, t] ty #[.slice A n cap, .slice (some ad) m c]).run P w = .ok (.slice A' (n + m) cap') w' ∧ Own w' base e size A' (n + m) cap' (xs ++ news) ∧ w.grownBy w' (A.map (·.block)) ∧ (A' = A ∨ A' = some ⟨w.heap.size, 0, none⟩) := by
    intro ad hc
    obtain ⟨v', w', hr, h2, h3, h4, h5⟩ := run_append_own_at (P := P) w base t ty e i z size bytes E.und E.info E.zero E.isize E.ibytes E.zcells E.pos _ n xs hown ad m c news hR.1 hc h1 h63 hbytes hbase
    rw [ownBlock_slice] at h3
    rcases h2.2 with ⟨hv, h0⟩ | ⟨g, cap', cur, hv, hb, hg, _⟩
    · subst hv
      have hn : n = 0 := by omega
      have hm : m = 0 := by omega
      have hA := (h4.1 rfl).1
      simp at hA
      obtain ⟨rfl, rfl, rfl⟩ := hA
      subst hm
      exact ⟨none, 0, w', hr, h2, h3, .inl rfl⟩
    · subst hv
      refine ⟨_, cap', w', hr, h2, h3, ?_⟩
      rcases hown.form with ⟨rfl, rfl, rfl, _⟩ | ⟨g', cur', rfl, _⟩
      · right
        rcases h5 with h5 | h5
        · simp [Value.ownBlock] at h5
        · simp [Value.ownBlock] at h5; rw [h5]
      · rcases h5 with h5 | h5
        · left; simp [Value.ownBlock] at h5; rw [h5]
        · right; simp [Value.ownBlock] at h5; rw [h5]
  cases A2 with
  | some ad =>
    refine main ad ?_
    rcases Nat.eq_zero_or_pos m with h0 | h0
    · have : news = [] := List.eq_nil_of_length_eq_zero (by rw [hR.1, h0]; simp)
      intro j u hu
      rw [this] at hu; simp at hu
    · obtain ⟨ad', hA, _, hc⟩ := hR.2 h0
      cases hA
      exact hc
  | none =>
    rcases Nat.eq_zero_or_pos m with h0 | h0
    · subst h0
      have hne : news = [] := List.eq_nil_of_length_eq_zero (by rw [hR.1]; simp)
      subst hne
      have hn : n ≤ cap := (Own.cap_le hown).1
      refine ⟨A, cap, w, ?_, by simpa using hown, ⟨rfl, rfl, rfl, Nat.le_refl _, fun _ _ _ => rfl⟩, .inl rfl⟩
      rcases hown.form with ⟨rfl, rfl, rfl, _⟩ | ⟨g, cur, rfl, _⟩
      · simp [Builtin.append_, run_underlying E.und, sizeOf, typeInfo, E.info, Builtin.lenOf, Builtin.firstCells]
      · simp [Builtin.append_, run_underlying E.und, sizeOf, typeInfo, E.info, Builtin.lenOf, Builtin.firstCells, hn, storeCells]
    · obtain ⟨ad', hA, _⟩ := hR.2 h0
      cases hA

/-- At the operation, for the walk. -/
theorem wpList_append_any {ops : Array Oper} {rest : List Oper} {o : Oper} {a : Act} {Q : Exit → Act → World → Prop} (hgd : o.guard = none) (s x : Operand) {t e : TypeId}
    (ho : o.op = .call { callee := .builtin .append, args := #[s, x], argTypes := #[t, t] })
    {z : Value} {size bytes : Nat} (EE : ElemAt P t e z size bytes) {base : Nat} {A : Option Addr} {n cap : Nat} {xs : List Value} (hs : a.eval s = .slice A n cap) (hown : Own w base e size A n cap xs)
    {A2 : Option Addr} {m c B : Nat} {news : List Value} (hx : a.eval x = .slice A2 m c) (hR : Reads w B size A2 m news) (h1 : ∀ u ∈ news, u.oneCell' = true) (h63 : n + m ≤ maxLen) (hbytes : (n + m) * bytes ≤ 140737488355328) (hbase : base ≤ w.heap.size)
    (h : ∀ A' cap' w', Own w' base e size A' (n + m) cap' (xs ++ news) → w.grownBy w' (A.map (·.block)) → (A' = A ∨ A' = some ⟨w.heap.size, 0, none⟩) → wpList P ops Q rest (a.put o.dst (.slice A' (n + m) cap')) w') :
    wpList P ops Q (o :: rest) a w := by
  refine wpList_plain hgd fun K hK => ?_
  obtain ⟨A', cap', w', hr, h2, h3, h4⟩ := run_append_any (P := P) w o.type EE hown hR (c := c) h1 h63 hbytes hbase
  unfold Oper.wp execOp
  simp only [ho, resolve, invoke, builtin, Sem.run_bind, Sem.run_pure, Result.andThen_ok, List.map_toArray, List.map_cons, List.map_nil, hs, hx, hr]
  exact hK _ _ (h A' cap' w' h2 h3 h4)
end

theorem info_int : (Tryd.prog.info? 3).map (fun i => (i.zero, i.size, i.bytes)) = some (some (.int .i64 0), 1, 8) := by kernel_rfl
theorem elem_int : ElemAt Tryd.prog 22 3 (.int .i64 0) 1 8 := by
  obtain ⟨i0, hi, hz0, hz1, hz2⟩ := info_parts info_int
  exact ⟨i0, Tryd.underlying22, hi, hz0, hz1, hz2, rfl, by decide⟩
theorem eql_nil_int (w : World) (a : Option Addr) (n c n' c' : Nat) : (binOp .eql 22 (.slice a n c) (.slice none n' c')).run Tryd.prog w = .ok (.bool a.isNone) w := Lib.run_eql_slice_nil w _ _ a n c n' c' Tryd.underlying22
theorem ints_one (l : List Int) : ∀ u ∈ l.map (Value.int .i64), u.oneCell' = true := by
  intro u hu; simp at hu; obtain ⟨x, _, rfl⟩ := hu; rfl
end Go.Proofs.YtahkjagjcogeiaaDoor
