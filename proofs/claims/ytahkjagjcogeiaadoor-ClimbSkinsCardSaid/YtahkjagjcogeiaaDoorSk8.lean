/- Part 8 of the texts of this claim, joined. -/
import Derived.Laws.MakeOwn
import Derived.Test.YtahkjagjcogeiaaDoorSk7
/- A round of the search, by the links that have come out: plain Lean. -/
namespace Go.Proofs.YtahkjagjcogeiaaDoor
set_option linter.unusedVariables false

/-- What a map of walks tells of a place. -/
def fnOf (m : List (Int × Wk)) (v : Int) : Option (Cost × List Int) := (look m v).map fun x => (x.cost, x.links)
theorem fnOf_nil : fnOf [] = fun _ => none := rfl
theorem fnOf_put (m : List (Int × Wk)) (k : Int) (x : Wk) : fnOf (put m k x) = setF (fnOf m) k (some (x.cost, x.links)) := by
  funext v
  unfold fnOf setF
  rw [look_put]
  split <;> rfl
theorem fnOf_cut (m : List (Int × Wk)) (k : Int) : fnOf (cut m k) = setF (fnOf m) k none := by
  funext v
  unfold fnOf setF
  rw [look_cut]
  split <;> rfl
theorem fnOf_mem {m : List (Int × Wk)} (hn : (m.map Prod.fst).Nodup) {v : Int} {x : Wk} (h : (v, x) ∈ m) : fnOf m v = some (x.cost, x.links) := by
  unfold fnOf
  rw [look_of_mem hn h]
  rfl
theorem fnOf_some {m : List (Int × Wk)} {v : Int} {c : Cost} {l : List Int} (h : fnOf m v = some (c, l)) : ∃ x, (v, x) ∈ m ∧ x.cost = c ∧ x.links = l := by
  unfold fnOf at h
  cases hx : look m v with
  | none => rw [hx] at h; cases h
  | some x =>
    rw [hx] at h
    cases h
    exact ⟨x, look_mem hx, rfl, rfl⟩

/-- Within the round of place a: the links D are done. -/
structure DRound (t : Town) (dk : Bool) (p : Price) (s a : Int) (cw : Cost) (lw : List Int) (D : List (Link × Int × Cost)) (S O : Int → Option (Cost × List Int)) : Prop where
  disj : ∀ v, O v ≠ none → S v = none
  sFirst : ∀ v r, S v = some r → First t dk p s v (some r)
  oWalk : ∀ v c l, O v = some (c, l) → Walk t dk p s v c l
  cross : ∀ u c l, S u = some (c, l) → u ≠ a → ∀ x ∈ t.links, ∀ n d, leads dk p x u = some (n, d) → S n ≠ none ∨ ∃ c' l', O n = some (c', l') ∧ cmpL (key c' l') (key (addC c d) (l ++ [x.id])) ≤ 0
  now : ∀ y ∈ D, S y.2.1 ≠ none ∨ ∃ c' l', O y.2.1 = some (c', l') ∧ cmpL (key c' l') (key (addC cw y.2.2) (lw ++ [y.1.id])) ≤ 0
  start : S s ≠ none
  here : S a = some (cw, lw)

section
variable {t : Town} {dk : Bool} {p : Price} {s a : Int} {cw : Cost} {lw : List Int} {D : List (Link × Int × Cost)} {S O : Int → Option (Cost × List Int)}
theorem DInv.enter' (h : DInv t dk p s S O) (ht : Fine t) (hp : Fair p) {c : Cost} {l : List Int} (ho : O a = some (c, l)) (hmin : ∀ v' c' l', O v' = some (c', l') → cmpL (key c l) (key c' l') ≤ 0) : DRound t dk p s a c l [] (setF S a (some (c, l))) (setF O a none) := by
  have h1 := h.enter ht hp ho hmin
  exact ⟨h1.disj, h1.sFirst, h1.oWalk, h1.cross, (fun y hy => by cases hy), h1.start, h1.here⟩
theorem DRound.leave (h : DRound t dk p s a cw lw D S O) (hD : ∀ y ∈ outs dk p a t.links, y ∈ D) : DInv t dk p s S O := by
  refine ⟨h.disj, h.sFirst, h.oWalk, ?_, .inl h.start⟩
  intro u c l hu x hx n d hl
  by_cases e : u = a
  · subst e
    rw [h.here] at hu
    cases hu
    exact h.now (x, n, d) (hD _ (by unfold outs; rw [List.mem_filterMap]; exact ⟨x, hx, by rw [hl]; rfl⟩))
  · exact h.cross u c l hu e x hx n d hl
theorem DRound.skip (h : DRound t dk p s a cw lw D S O) {y : Link × Int × Cost} (hno : S y.2.1 ≠ none ∨ ∃ c' l', O y.2.1 = some (c', l') ∧ cmpL (key c' l') (key (addC cw y.2.2) (lw ++ [y.1.id])) ≤ 0) : DRound t dk p s a cw lw (D ++ [y]) S O := by
  refine ⟨h.disj, h.sFirst, h.oWalk, h.cross, fun z hz => ?_, h.start, h.here⟩
  rcases List.mem_append.1 hz with hz | hz
  · exact h.now z hz
  · rw [List.mem_singleton.1 hz]; exact hno
theorem DRound.take (h : DRound t dk p s a cw lw D S O) {y : Link × Int × Cost} (hy : y ∈ outs dk p a t.links) (hn : S y.2.1 = none) (hbe : ∀ c' l', O y.2.1 = some (c', l') → cmpL (key (addC cw y.2.2) (lw ++ [y.1.id])) (key c' l') ≤ 0) :
    DRound t dk p s a cw lw (D ++ [y]) S (setF O y.2.1 (some (addC cw y.2.2, lw ++ [y.1.id]))) := by
  obtain ⟨hxm, hl⟩ := outs_leads hy
  have hw : Walk t dk p s y.2.1 (addC cw y.2.2) (lw ++ [y.1.id]) := (h.sFirst a _ h.here).1.snoc hxm hl
  have old : ∀ {m : Int} {K : List Int}, (S m ≠ none ∨ ∃ c' l', O m = some (c', l') ∧ cmpL (key c' l') K ≤ 0) → S m ≠ none ∨ ∃ c' l', setF O y.2.1 (some (addC cw y.2.2, lw ++ [y.1.id])) m = some (c', l') ∧ cmpL (key c' l') K ≤ 0 := by
    intro m K h1
    rcases h1 with h1 | ⟨c', l', h1, h2⟩
    · exact .inl h1
    · by_cases e : m = y.2.1
      · subst e
        exact .inr ⟨_, _, setF_same _ _ _, cmpL_trans (hbe _ _ h1) h2⟩
      · exact .inr ⟨c', l', by rw [setF_other _ _ e]; exact h1, h2⟩
  refine ⟨?_, h.sFirst, ?_, ?_, ?_, h.start, h.here⟩
  · intro v hv
    by_cases e : v = y.2.1
    · subst e; exact hn
    · rw [setF_other _ _ e] at hv; exact h.disj v hv
  · intro v c' l' hr
    by_cases e : v = y.2.1
    · subst e; rw [setF_same] at hr; cases hr; exact hw
    · rw [setF_other _ _ e] at hr; exact h.oWalk v _ _ hr
  · intro u c' l' hu hne z hz m d hl'
    exact old (h.cross u c' l' hu hne z hz m d hl')
  · intro z hz
    rcases List.mem_append.1 hz with hz | hz
    · exact old (h.now z hz)
    · rw [List.mem_singleton.1 hz]
      exact .inr ⟨_, _, setF_same _ _ _, by rw [cmpL_refl]; omega⟩
end
end Go.Proofs.YtahkjagjcogeiaaDoor
/- climb.chart.all: the first walks from a place to all others. -/
namespace Go.Proofs.YtahkjagjcogeiaaDoor
open Go.RowKit Go.Shelf
attribute [local go_sem] Oper.semAt_some
set_option linter.unusedVariables false

/-- What is right about the walks of a map. -/
structure WkOk (W : World) (p : Int × Wk) : Prop where
  to : p.2.to = p.1
  ok : okI p.1
  len : p.2.n = p.2.links.length
  short : p.2.n ≤ 9
  at_ : p.2.at_ W W.heap.size
  typ : ∀ a, p.2.A = some a → ∃ cs, Blk W a.block 3 cs
theorem WkOk.below {W W' : World} {p : Int × Wk} (h : WkOk W p) (hb : Below W.heap.size W W') : WkOk W' p := ⟨h.to, h.ok, h.len, h.short, h.at_.below hb hb.size, fun a ha => by obtain ⟨cs, h1⟩ := h.typ a ha; exact ⟨cs, h1.below hb h1.lt⟩⟩
/-- Blocks that lay stay but for some maps and one box: what reads ints, stays. -/
theorem ints_keep {W W' : World} {B n : Nat} {A : Option Addr} {l : List Int} (h : IntsAt W B A n l) (hk : ∀ (b : Nat) cs t fr, W.heap[b]? = some (.cells cs t fr) → b < B → W'.heap[b]? = some (.cells cs t fr)) : IntsAt W' B A n l := by
  refine ⟨h.1, fun hn => ?_⟩
  obtain ⟨ad, e, hb, hc⟩ := h.2 hn
  refine ⟨ad, e, hb, fun j u hu => ?_⟩
  have h1 := hc j u hu
  obtain ⟨o, ho, hcell⟩ := cells_of_cell h1
  rw [← h1]
  refine World.cell?_of_block ?_
  rw [ho]
  cases o <;> simp [Obj.isCells] at hcell
  exact hk _ _ _ _ ho (by rw [block_of_add]; exact hb)

structure AllSt (w : World) (BS : Nat) (T : Array Value) (ms mo : List (Int × Wk)) (W : World) : Prop where
  bel : Below w.heap.size w W
  ch : Blk W w.heap.size 115 T
  bs : Blk W BS 113 #[.map (some (w.heap.size + 1))]
  bo : Blk W (BS + 1) 113 #[.map (some (w.heap.size + 1 + 1))]
  mapS : WkMap W (w.heap.size + 1) ms
  mapO : WkMap W (w.heap.size + 1 + 1) mo
  oks : ∀ p ∈ ms, WkOk W p
  oko : ∀ p ∈ mo, WkOk W p
section
variable {w W W' : World} {BS : Nat} {T : Array Value} {ms mo : List (Int × Wk)}
theorem AllSt.below (h : AllSt w BS T ms mo W) (hb : Below W.heap.size W W') : AllSt w BS T ms mo W' :=
  ⟨h.bel.trans (hb.mono h.bel.size), h.ch.below hb h.ch.lt, h.bs.below hb h.bs.lt, h.bo.below hb h.bo.lt, h.mapS.below hb h.mapS.lt, h.mapO.below hb h.mapO.lt, fun p hp => (h.oks p hp).below hb, fun p hp => (h.oko p hp).below hb⟩
theorem Blk.grownMap {W W' : World} {g r : Nat} {t : TypeId} {cs : Array Value} (h : Blk W g t cs) (hg : W.grownBy W' (some r)) (hr : ∃ es cl, W.heap[r]? = some (.map es cl)) : Blk W' g t cs :=
  h.grown hg (fun e => by
    obtain ⟨es, cl, he⟩ := hr
    cases e
    unfold Blk at h
    rw [he] at h
    cases h)
/-- A turn of a box of another type. -/
theorem WkOk.grownBox {W W' : World} {p : Int × Wk} {g : Nat} {cs0 : Array Value} (h : WkOk W p) (hg : W.grownBy W' (some g)) (hb0 : Blk W g 111 cs0) : WkOk W' p := by
  have far : ∀ a, p.2.A = some a → a.block ≠ g := fun a ha e => by
    obtain ⟨cs, h1⟩ := h.typ a ha
    rw [e] at h1
    unfold Blk at h1 hb0
    rw [h1] at hb0
    simp at hb0
  exact ⟨h.to, h.ok, h.len, h.short, (Reads.grown h.at_ hg (Nat.le_refl _) (fun a ha e => far a ha (Option.some.inj e))).more hg.size, fun a ha => by
    obtain ⟨cs, h1⟩ := h.typ a ha
    exact ⟨cs, h1.grown hg (fun e => far a ha (Option.some.inj e))⟩⟩
/-- A turn of a map: everything else lies as it lay. -/
theorem WkOk.grown {W W' : World} {p : Int × Wk} {r : Nat} (h : WkOk W p) (hg : W.grownBy W' (some r)) (hr : ∃ es cl, W.heap[r]? = some (.map es cl)) : WkOk W' p :=
  ⟨h.to, h.ok, h.len, h.short, (ints_keep h.at_ (fun b cs t fr hb _ => (hg.block b (Array.getElem?_eq_some_iff.1 hb).1 (fun e => by
    obtain ⟨es, cl, he⟩ := hr
    cases e
    rw [he] at hb
    cases hb)).trans hb)).more hg.size, fun a ha => by obtain ⟨cs, h1⟩ := h.typ a ha; exact ⟨cs, h1.grownMap hg hr⟩⟩
theorem MapIs.form {w : World} {r : Nat} {m : List (Int × Wk)} (h : WkMap w r m) : ∃ es cl, w.heap[r]? = some (.map es cl) := by
  obtain ⟨es, cl, h, _⟩ := h
  exact ⟨es, cl, h⟩
theorem AllSt.setS {W' : World} {ms' : List (Int × Wk)} (h : AllSt w BS T ms mo W) (hg : W.grownBy W' (some (w.heap.size + 1))) (hm : WkMap W' (w.heap.size + 1) ms') (hok : ∀ p ∈ ms', WkOk W p) : AllSt w BS T ms' mo W' :=
  ⟨h.bel.grown hg h.bel.size (fun k e => by cases e; omega), h.ch.grownMap hg h.mapS.form, h.bs.grownMap hg h.mapS.form, h.bo.grownMap hg h.mapS.form, hm, h.mapO.grown hg (by simp), fun p hp => (hok p hp).grown hg h.mapS.form, fun p hp => (h.oko p hp).grown hg h.mapS.form⟩
theorem AllSt.setO {W' : World} {mo' : List (Int × Wk)} (h : AllSt w BS T ms mo W) (hg : W.grownBy W' (some (w.heap.size + 1 + 1))) (hm : WkMap W' (w.heap.size + 1 + 1) mo') (hok : ∀ p ∈ mo', WkOk W p) : AllSt w BS T ms mo' W' :=
  ⟨h.bel.grown hg h.bel.size (fun k e => by cases e; omega), h.ch.grownMap hg h.mapO.form, h.bs.grownMap hg h.mapO.form, h.bo.grownMap hg h.mapO.form, h.mapS.grown hg (by simp), hm, fun p hp => (h.oks p hp).grown hg h.mapO.form, fun p hp => (hok p hp).grown hg h.mapO.form⟩
theorem AllSt.shut {S : Nat} (h : AllSt w BS T ms mo W) (hs : Shut S W W') (h1 : w.heap.size + 1 + 1 < S) : AllSt w BS T ms mo W' :=
  have keep : ∀ p : Int × Wk, WkOk W p → WkOk W' p := fun p hp => ⟨hp.to, hp.ok, hp.len, hp.short, (ints_keep hp.at_ (fun b cs t fr hb _ => hs.cells b cs t fr hb)).more hs.below.size, fun a ha => by obtain ⟨cs, h1⟩ := hp.typ a ha; exact ⟨cs, hs.blk h1⟩⟩
  ⟨h.bel.trans (hs.below.mono (by omega)), hs.blk h.ch, hs.blk h.bs, hs.blk h.bo, h.mapS.below hs.below (by omega), h.mapO.below hs.below (by omega), fun p hp => keep p (h.oks p hp), fun p hp => keep p (h.oko p hp)⟩
end

/-- What a round must keep, both. -/
def KF (S n₀ g1 g2 : Nat) (W W' : World) : Prop := KeepsFrom S W W' ∧ FromK n₀ g1 g2 W W'
section
variable {S n₀ g1 g2 : Nat} {W W' W2 : World}
theorem KF.trans (h : KF S n₀ g1 g2 W W') (k : KF S n₀ g1 g2 W' W2) : KF S n₀ g1 g2 W W2 := ⟨h.1.trans k.1, fromK_t h.2 k.2⟩
theorem KF.below (hb : Below W.heap.size W W') (h1 : g1 < W.heap.size) (h2 : g2 < W.heap.size) (h0 : n₀ ≤ W.heap.size) : KF S n₀ g1 g2 W W' := ⟨keepsFrom_below hb, fromK_below hb h1 h2 h0⟩
theorem KF.box {g : Nat} {ty : TypeId} {cs0 : Array Value} (hg : W.grownBy W' (some g)) (hb0 : Blk W g ty cs0) (h0 : n₀ ≤ g) (h1 : g1 < g) (h2 : g2 < g) : KF S n₀ g1 g2 W W' := by
  have hlt := hb0.lt
  refine ⟨(KeepsOthers.of_grownBy hg (fun j o e ho => by cases e; unfold Blk at hb0; rw [hb0] at ho; cases ho; rfl)).from S, below_of_grown hg (fun k e => by cases e; exact h0) (by omega), ?_, ?_⟩
  · exact hg.block g1 (by omega) (fun e => by cases e; omega)
  · exact hg.block g2 (by omega) (fun e => by cases e; omega)
theorem KF.map {r : Nat} (hg : W.grownBy W' (some r)) (hr : r < S) (h0 : n₀ ≤ r) (hn : n₀ ≤ W.heap.size) (h1 : g1 < W.heap.size) (h2 : g2 < W.heap.size) (e1 : g1 ≠ r) (e2 : g2 ≠ r) : KF S n₀ g1 g2 W W' :=
  ⟨KeepsFrom.of_grownBy hg (fun j e => by cases e; exact hr), below_of_grown hg (fun k e => by cases e; exact h0) hn, hg.block g1 h1 (fun e => e1 (Option.some.inj e)), hg.block g2 h2 (fun e => e2 (Option.some.inj e))⟩
end

theorem WkOk.new {W : World} {base cap : Nat} {A : Option Addr} {l : List Int} {v i : Int} {c : Cost} {m : Nat} (h : Own W base 3 1 A (m + 1) cap ((l ++ [i]).map (Value.int .i64))) (hl : m = l.length) (hm : m ≤ 8) (hv : okI v) : WkOk W (v, ⟨v, c, l ++ [i], A, m + 1, cap⟩) :=
  ⟨rfl, hv, by simp [hl], by show m + 1 ≤ 9; omega, ints_of_own h (Nat.le_refl _), fun a ha => by
    rcases h.form with ⟨e, _⟩ | ⟨g, cur, e, _, hb, _⟩
    · rw [show A = some a from ha] at e; cases e
    · rw [show A = some a from ha] at e; cases e; exact ⟨cur, hb⟩⟩

structure AGh where
  co : Cost
  sA : Option Addr
  sn : Nat
  sc : Nat
  A57 : Option Addr
  c57 : Nat
  b60 : Nat
  A61 : Option Addr
  c61 : Nat
theorem Small.any {c : Cost} (h : 0 ≤ c.a ∧ c.a ≤ 125000 ∧ 0 ≤ c.b ∧ c.b ≤ 500 ∧ 1 ≤ c.c ∧ c.c ≤ 2000 ∧ c.d = 1) : Small c := ⟨by omega, by omega, by omega, by omega⟩
theorem Small.of_walk {t : Town} {dk : Bool} {p : Price} {u v : Int} {c : Cost} {l : List Int} (h : Walk t dk p u v c l) (ht : Fine t) (hp : Fair p) (hl : l.length ≤ 40) : Small c := by
  have := h.bound ht hp
  exact ⟨by omega, by omega, by omega, by omega⟩
theorem grown_belowB {w W W' : World} {row : Option Nat} (h : w.grownBy W row) (k : Below w.heap.size W W') : w.grownBy W' row :=
  ⟨k.os.trans h.os, k.tape.trans h.tape, k.output.trans h.output, Nat.le_trans h.size k.size, fun i hi hr => (k.block i hi).trans (h.block i hi hr)⟩
theorem own_row {w : World} {base n cap size k : Nat} {e : TypeId} {A : Option Addr} {xs : List Value} (h : Own w base e size A n cap xs) (hk : A.map (·.block) = some k) : base ≤ k := by
  cases A with
  | none => cases hk
  | some a => cases hk; exact (h.lt rfl).1

def mapSize (w : World) (r : Nat) : Nat := match w.heap[r]? with
  | some (.map es _) => es.size
  | _ => 0
theorem mapSize_eq {w : World} {r : Nat} {m : List (Int × Wk)} (h : WkMap w r m) : mapSize w r = m.length := by
  obtain ⟨es, cl, h1, h2, _⟩ := h
  unfold mapSize
  simp only [h1]
  have := congrArg List.length h2
  simpa using this
theorem keys_le {t : Town} {w : World} {r : Nat} {m : List (Int × Wk)} (h : WkMap w r m) (hk : ∀ q ∈ m, q.1 ∈ t.places) (hf : Fine t) : m.length ≤ 9 := by
  have hn := MapIs.nodup wkTy h
  have := nodup_le (a := m.map Prod.fst) (b := t.places) hn (fun v hv => by obtain ⟨q, hq, rfl⟩ := List.mem_map.1 hv; exact hk q hq)
  have h2 := hf.size
  simp at this
  omega

theorem Marks.grownMap {B r : Nat} {W W' : World} {ds : List Deferred} (h : Marks B W ds) (hg : W.grownBy W' (some r)) (hr : ∃ es cl, W.heap[r]? = some (.map es cl)) : Marks B W' ds :=
  h.keep fun d hd k hk h0 => (hg.block k (Array.getElem?_eq_some_iff.1 h0).1 (fun e => by
    obtain ⟨es, cl, he⟩ := hr
    cases e
    rw [he] at h0
    cases h0)).trans h0

/-- What all hands back. -/
def AllOut (w : World) (t : Town) (dk : Bool) (p : Price) (s : Int) (e : Ending) (w' : World) : Prop :=
  ∃ r ms, e = .returned (.map (some r)) ∧ WkMap w' r ms ∧ w.heap.size ≤ r ∧ (∀ q ∈ ms, WkOk w' q) ∧ (∀ v, fnOf ms v = best t dk p s v) ∧ Below w.heap.size w w'

/-- Within a round: the current walk in its box. -/
structure AllIn (w : World) (BS : Nat) (T : Array Value) (ms mo : List (Int × Wk)) (x : Wk) (B7 : Nat) (ds : List Deferred) (S : Nat) (W : World) : Prop where
  st : AllSt w BS T ms mo W
  b7 : Blk W B7 111 #[.int .i64 x.to, .int .i64 x.cost.a, .int .i64 x.cost.b, .int .i64 x.cost.c, .int .i64 x.cost.d, .slice x.A x.n x.cap]
  xat : IntsAt W B7 x.A x.n x.links
  marks : Marks w.heap.size W ds
  sz : S ≤ W.heap.size
section
variable {w W W' : World} {BS : Nat} {T : Array Value} {ms mo : List (Int × Wk)} {x : Wk} {B7 S : Nat} {ds : List Deferred}
theorem AllIn.below (h : AllIn w BS T ms mo x B7 ds S W) (hb : Below W.heap.size W W') : AllIn w BS T ms mo x B7 ds S W' :=
  ⟨h.st.below hb, h.b7.below hb h.b7.lt, h.xat.below (hb.mono (Nat.le_of_lt h.b7.lt)), h.marks.below hb, Nat.le_trans h.sz hb.size⟩
theorem AllIn.shut (h : AllIn w BS T ms mo x B7 ds S W) (hs : Shut S W W') (h1 : w.heap.size + 1 + 1 < S) (hd : ∀ d ∈ ds, ∀ r, d.target = .collected r → r < S) : AllIn w BS T ms mo x B7 ds S W' :=
  ⟨h.st.shut hs h1, hs.blk h.b7, ints_keep h.xat (fun b cs t fr hb _ => hs.cells b cs t fr hb), h.marks.shut hs hd, Nat.le_trans h.sz hs.below.size⟩
end
section
variable {w W W' : World} {BS : Nat} {T : Array Value} {ms mo : List (Int × Wk)} {x : Wk} {B7 S : Nat} {ds : List Deferred}
theorem AllIn.box {g : Nat} {cs0 : Array Value} (h : AllIn w BS T ms mo x B7 ds S W) (hg : W.grownBy W' (some g)) (hb0 : Blk W g 111 cs0) (hw : w.heap.size + 1 + 1 < g) (hS : BS + 1 < g) (hB : B7 < g) : AllIn w BS T ms mo x B7 ds S W' :=
  ⟨⟨h.st.bel.grown hg h.st.bel.size (fun k e => by cases e; omega), h.st.ch.grown hg (fun e => by cases e; omega), h.st.bs.grown hg (fun e => by cases e; omega), h.st.bo.grown hg (fun e => by cases e; omega), h.st.mapS.grown hg (fun e => by cases e; omega), h.st.mapO.grown hg (fun e => by cases e; omega), fun p hp => (h.st.oks p hp).grownBox hg hb0, fun p hp => (h.st.oko p hp).grownBox hg hb0⟩,
    h.b7.grown hg (fun e => by cases e; omega), ints_keep h.xat (fun b cs ty fr hb hlt => (hg.block b (Array.getElem?_eq_some_iff.1 hb).1 (fun e => by cases e; omega)).trans hb),
    h.marks.keep (fun d hd k hk h0 => (hg.block k (Array.getElem?_eq_some_iff.1 h0).1 (fun e => by cases e; unfold Blk at hb0; rw [hb0] at h0; cases h0)).trans h0), Nat.le_trans h.sz hg.size⟩
theorem AllIn.setO {mo' : List (Int × Wk)} (h : AllIn w BS T ms mo x B7 ds S W) (hg : W.grownBy W' (some (w.heap.size + 1 + 1))) (hm : WkMap W' (w.heap.size + 1 + 1) mo') (hok : ∀ p ∈ mo', WkOk W p) : AllIn w BS T ms mo' x B7 ds S W' :=
  ⟨h.st.setO hg hm hok, h.b7.grownMap hg h.st.mapO.form, ints_keep h.xat (fun b cs ty fr hb hlt => (hg.block b (Array.getElem?_eq_some_iff.1 hb).1 (fun e => by
    obtain ⟨es, cl, he⟩ := h.st.mapO.form
    cases e
    rw [he] at hb
    cases hb)).trans hb), h.marks.grownMap hg h.st.mapO.form, Nat.le_trans h.sz hg.size⟩
end

set_option maxRecDepth 100000 in
set_option maxHeartbeats 16000000 in
theorem all_in (A : Option Addr) (nn c : Nat) (A' : Option Addr) (m d : Nat) (dk : Bool) (F : FuncId) (C : Array Value) (p : Price) (t : Town) (place : Int) (w : World)
    (hm : m ≤ 20) (ht : LinksAt w w.heap.size A' m t.links) (hp : PriceAt w p F C) (hfine : Fine t) (hfair : Fair p) (hplace : place ∈ t.places) (hids : ∀ v ∈ t.places, 1 ≤ v ∧ v ≤ 9999) :
    CallsIn Fence.wide 9 Tryd.prog 56 #[.agg #[.slice A nn c, .slice A' m d, .bool dk, .func (.func F) #[] C], .int .i64 place] w (AllOut w t dk p place) := by
  have HT := Lib.hid ht
  have HP := Lib.hid hp
  have HFI := Lib.hid hfine
  have HFA := Lib.hid hfair
  have HPL := Lib.hid hplace
  have HID := Lib.hid hids
  have HF : Hid (∀ x ∈ t.links, Fit x) := Lib.hid fun x hx => ⟨hfine.steps x hx, hfine.paces x hx⟩
  have hokp : okI place := okI_of (by have := hids place hplace; omega) (by have := hids place hplace; omega)
  clear ht hp hfine hfair hplace hids
  have hmm := @run_makeMap Tryd.prog
  have M0 : WkMap (((w.alloc (.cells #[.slice A nn c, .slice A' m d, .bool dk, .func (.func F) #[] C] 115)).alloc (.map #[] 0)).alloc (.map #[] 0)) (w.heap.size + 1 + 1) [] := by
    have h := MapIs.made (β := Wk) (encK := Value.int .i64) (encV := Wk.val) (okK := okI) ((w.alloc (.cells #[.slice A nn c, .slice A' m d, .bool dk, .func (.func F) #[] C] 115)).alloc (.map #[] 0))
    rw [World.size_alloc, World.size_alloc] at h
    exact h
  have M1 : WkMap (((w.alloc (.cells #[.slice A nn c, .slice A' m d, .bool dk, .func (.func F) #[] C] 115)).alloc (.map #[] 0)).alloc (.map #[] 0)) (w.heap.size + 1) [] := by
    have h := (MapIs.made (β := Wk) (encK := Value.int .i64) (encV := Wk.val) (okK := okI) (w.alloc (.cells #[.slice A nn c, .slice A' m d, .bool dk, .func (.func F) #[] C] 115))).alloc (.map #[] 0)
    rw [World.size_alloc] at h
    exact h
  have B0 : Below w.heap.size w (((w.alloc (.cells #[.slice A nn c, .slice A' m d, .bool dk, .func (.func F) #[] C] 115)).alloc (.map #[] 0)).alloc (.map #[] 0)) := (((Below.refl _ _).alloc (Nat.le_refl _) _).alloc (by simp) _).alloc (by simp; omega) _
  have X0 : Blk (((w.alloc (.cells #[.slice A nn c, .slice A' m d, .bool dk, .func (.func F) #[] C] 115)).alloc (.map #[] 0)).alloc (.map #[] 0)) w.heap.size 115 #[.slice A nn c, .slice A' m d, .bool dk, .func (.func F) #[] C] := ((Blk.new w _ _).alloc _).alloc _
  have hsz3 : (((w.alloc (.cells #[.slice A nn c, .slice A' m d, .bool dk, .func (.func F) #[] C] 115)).alloc (.map #[] 0)).alloc (.map #[] 0)).heap.size = w.heap.size + 3 := by simp
  obtain ⟨wi, hri, hmi, hgi, hsi⟩ := MapIs.update (P := Tryd.prog) wkTy M0 hokp (⟨place, ⟨0, 0, 0, 0⟩, [], none, 0, 0⟩ : Wk)
  have hmi1 : WkMap wi (w.heap.size + 1) [] := M1.grown hgi (by simp)
  have HMI := Lib.hid hmi
  have HMI1 := Lib.hid hmi1
  have HXI := Lib.hid (X0.grownMap hgi M0.form)
  have HBI := Lib.hid (B0.grown hgi (by rw [hsz3]; omega) (fun k e => by cases e; omega))
  have HSI : Hid (wi.heap.size = w.heap.size + 3) := Lib.hid (hsi.trans hsz3)
  clear hmi hmi1 M0 M1 B0 X0 hsz3 hgi hsi
  refine callsIn_of_wp_marks Tryd.func56 rfl trivial ?_ rfl
  simp only [Tryd.ntmps56, List.size_toArray, List.length_cons, List.length_nil, Nat.reduceAdd, Nat.reduceSub, Array.replicate_succ, Array.replicate_zero, List.push_toArray, List.append_toArray, List.nil_append, List.cons_append]
  gi_wp2
  have HBS : Hid (w.heap.size + 1 + 1 < wi.heap.size) := Lib.hid (by rw [HSI.out]; omega)
  have S0 : AllSt w wi.heap.size #[.slice A nn c, .slice A' m d, .bool dk, .func (.func F) #[] C] [] (put [] place ⟨place, ⟨0, 0, 0, 0⟩, [], none, 0, 0⟩) ((wi.alloc (.cells #[.map (some (w.heap.size + 1))] 113)).alloc (.cells #[.map (some (w.heap.size + 1 + 1))] 113)) := by
    have Y := Blk.new (wi.alloc (.cells #[.map (some (w.heap.size + 1))] 113)) 113 #[.map (some (w.heap.size + 1 + 1))]
    rw [World.size_alloc] at Y
    refine ⟨(HBI.out.alloc HBI.out.size _).alloc (by simp; have := HBI.out.size; omega) _, (HXI.out.alloc _).alloc _, (Blk.new wi _ _).alloc _, Y, (HMI1.out.alloc _).alloc _, (HMI.out.alloc _).alloc _, (fun q hq => by cases hq), fun q hq => ?_⟩
    have e : q = (place, ⟨place, ⟨0, 0, 0, 0⟩, [], none, 0, 0⟩) := by simpa [put] using hq
    subst e
    exact ⟨rfl, hokp, rfl, Nat.zero_le _, Reads.none_, fun a ha => by cases ha⟩
  have D0 : DInv t dk p place (fnOf []) (fnOf (put [] place ⟨place, ⟨0, 0, 0, 0⟩, [], none, 0, 0⟩)) := by
    have h := DInv.init (t := t) (dk := dk) (p := p) place
    rw [fnOf_put, fnOf_nil]
    exact h
  clear hri
  generalize ((wi.alloc (.cells #[.map (some (w.heap.size + 1))] 113)).alloc (.cells #[.map (some (w.heap.size + 1 + 1))] 113)) = w0 at *
  generalize wi.heap.size = BS at *
  have S0' := Lib.hid S0
  have D0' := Lib.hid D0
  clear S0 D0
  refine wpIn_loop (fun a W => ∃ (ms mo : List (Int × Wk)) (ds : List Deferred) (u7 u8 u21 u22 u23 u24 u25 u26 u27 u28 u29 u30 u31 u32 u33 u34 u35 u36 u37 u38 u39 : Value), Hid (AllSt w BS #[.slice A nn c, .slice A' m d, .bool dk, .func (.func F) #[] C] ms mo W ∧ Marks w.heap.size W ds ∧ DInv t dk p place (fnOf ms) (fnOf mo) ∧ (∀ q ∈ ms, q.1 ∈ t.places) ∧ (∀ q ∈ mo, q.1 ∈ t.places)) ∧
      a = { tmps := #[.agg #[.slice A nn c, .slice A' m d, .bool dk, .func (.func F) #[] C], .int .i64 place, .pointer (some ⟨w.heap.size, 0, none⟩), undef, .map none, .pointer (some ⟨BS, 0, none⟩), .pointer (some ⟨BS + 1, 0, none⟩), u7, u8, undef, undef, undef, undef, undef, undef, .map (some (w.heap.size + 1)), .map (some (w.heap.size + 1 + 1)), .int .i64 place, .int .i64 place, .agg #[.int .i64 place, .int .i64 0, .int .i64 0, .int .i64 0, .int .i64 0, .slice none 0 0], .map (some (w.heap.size + 1 + 1)), u21, u22, u23, u24, u25, u26, u27, u28, u29, u30, u31, u32, u33, u34, u35, u36, u37, u38, u39, undef, undef, undef, undef, undef, undef, undef, undef, undef, undef, undef, undef, undef, undef, undef, undef, undef, undef, undef, undef, undef, undef, undef, undef, undef, undef, undef, undef, undef, undef, undef, undef, undef, undef, undef, undef, undef, undef, undef, undef, undef, undef, undef], defers := ds })
    (fun _ W => 10 - mapSize W (w.heap.size + 1)) ?_ ?_
  · exact ⟨[], _, [], undef, undef, undef, undef, undef, undef, undef, undef, undef, undef, undef, undef, undef, undef, undef, undef, undef, undef, undef, undef, undef, Lib.hid ⟨S0'.out, trivial, D0'.out, (fun q hq => by cases hq), fun q hq => by
      have e : q = (place, ⟨place, ⟨0, 0, 0, 0⟩, [], none, 0, 0⟩) := by simpa [put] using hq
      subst e
      exact HPL.out⟩, rfl⟩
  · rintro a W ⟨ms, mo, ds, u7, u8, u21, u22, u23, u24, u25, u26, u27, u28, u29, u30, u31, u32, u33, u34, u35, u36, u37, u38, u39, HS, rfl⟩
    have HFO := Lib.hid (first_in (BS + 1) (w.heap.size + 1 + 1) mo W HS.out.1.bo HS.out.1.mapO (fun y hy => by
      obtain ⟨q, hq, rfl⟩ := List.mem_map.1 hy
      exact ⟨(HS.out.1.oko q hq).at_, Nat.le_trans (HS.out.1.oko q hq).short (by omega)⟩))
    gi_wp2
    refine ⟨trivial, (callsIn_wide.2 (callsIn_wide.1 HFO.out)).mono ?_⟩
    rintro e w1 ⟨v, f, rfl, hbest, hb1⟩
    have HS1 := Lib.hid (HS.out.1.below hb1)
    have HB1 := Lib.hid hb1
    clear hb1
    cases f
    · have hv : mo = [] ∧ v = zeroWk := by
        rcases hbest with ⟨h0, h1, _⟩ | ⟨_, _, _, h1, _⟩
        · exact ⟨List.map_eq_nil_iff.1 h0, h1⟩
        · cases h1
      obtain ⟨hmo, rfl⟩ := hv
      have HMO := Lib.hid hmo
      clear hbest hmo
      have s5 : w1.cell? ⟨BS, 0, none⟩ = some (.map (some (w.heap.size + 1))) := HS1.out.bs.cell 0
      have sl := HS1.out.bs.lt
      gi_wp2
      have hmk := (HS.out.2.1.below HB1.out).below ((Below.refl w1.heap.size w1).alloc (Nat.le_refl _) (.cells #[.int .i64 0, .int .i64 0, .int .i64 0, .int .i64 0, .int .i64 0, .slice none 0 0] 111))
      have hst := HS1.out.below ((Below.refl w1.heap.size w1).alloc (Nat.le_refl _) (.cells #[.int .i64 0, .int .i64 0, .int .i64 0, .int .i64 0, .int .i64 0, .slice none 0 0] 111))
      refine leaves_marksD _ _ hmk ?_
      intro w' hs
      refine ⟨.map (some (w.heap.size + 1)), ?_, w.heap.size + 1, ms, rfl, ?_, by omega, ?_, ?_, hst.bel.trans hs.below⟩
      · simp [results, Tryd.results56, go_sem]
      · obtain ⟨es, cl, h1, h2⟩ := hst.mapS
        exact ⟨es, cl, hs.others _ _ h1 (fun x e => by cases e), h2⟩
      · intro q hq
        have h := hst.oks q hq
        exact ⟨h.to, h.ok, h.len, h.short, (hs.reads h.at_).more hs.below.size, fun a ha => by obtain ⟨cs, h1⟩ := h.typ a ha; exact ⟨cs, hs.blk h1⟩⟩
      · intro v
        have h := HS.out.2.2.1.over (fun v => by rw [HMO.out]; rfl) v
        exact (first_iff HFI.out HFA.out).1 h
    · have hv : ∃ x, (∃ k, (k, x) ∈ mo) ∧ v = x.val ∧ ∀ q ∈ mo, cmpW x.cost x.links q.2.cost q.2.links ≤ 0 := by
        rcases hbest with ⟨_, _, h1⟩ | ⟨x, hx, h1, _, h2⟩
        · cases h1
        · obtain ⟨q, hq, rfl⟩ := List.mem_map.1 hx
          exact ⟨q.2, ⟨q.1, hq⟩, h1, fun q' hq' => h2 q'.2 (List.mem_map.2 ⟨q', hq', rfl⟩)⟩
      obtain ⟨x, ⟨kx, hx⟩, rfl, hmin⟩ := hv
      have hkx : kx = x.to := (HS.out.1.oko _ hx).to.symm
      subst hkx
      have hxo := HS1.out.oko _ hx
      have hok := hxo.ok
      have HX := Lib.hid hx
      have HXO := Lib.hid hxo
      have HMIN := Lib.hid hmin
      have HXP := Lib.hid (HS.out.2.2.2.2 _ hx)
      have hA2 := HS1.out.below ((Below.refl w1.heap.size w1).alloc (Nat.le_refl _) (.cells #[.int .i64 x.to, .int .i64 x.cost.a, .int .i64 x.cost.b, .int .i64 x.cost.c, .int .i64 x.cost.d, .slice x.A x.n x.cap] 111))
      obtain ⟨w3, hdel, hm3, hg3, hs3⟩ := MapIs.delete_ (P := Tryd.prog) wkTy hA2.mapO hok 0
      have hA3 := hA2.setO hg3 hm3 (fun q hq => hA2.oko q (mem_cut.1 hq).1)
      have hb73 : Blk w3 w1.heap.size 111 #[.int .i64 x.to, .int .i64 x.cost.a, .int .i64 x.cost.b, .int .i64 x.cost.c, .int .i64 x.cost.d, .slice x.A x.n x.cap] := (Blk.new w1 _ _).grownMap hg3 hA2.mapO.form
      obtain ⟨w4, hup, hm4, hg4, hs4⟩ := MapIs.update (P := Tryd.prog) wkTy hA3.mapS hok x
      have hok3 : WkOk w3 (x.to, x) := (hxo.below ((Below.refl w1.heap.size w1).alloc (Nat.le_refl _) _)).grown hg3 hA2.mapO.form
      have hA4 := hA3.setS hg4 hm4 (fun q hq => by
        rcases mem_put hq with rfl | hq
        · exact hok3
        · exact hA3.oks q hq.1)
      have hb74 : Blk w4 w1.heap.size 111 #[.int .i64 x.to, .int .i64 x.cost.a, .int .i64 x.cost.b, .int .i64 x.cost.c, .int .i64 x.cost.d, .slice x.A x.n x.cap] := hb73.grownMap hg4 hA3.mapS.form
      have hok4 : WkOk w4 (x.to, x) := hok3.grown hg4 hA3.mapS.form
      have hmk4 : Marks w.heap.size w4 ds := by
        have h1 := (HS.out.2.1.below HB1.out).below ((Below.refl w1.heap.size w1).alloc (Nat.le_refl _) (.cells #[.int .i64 x.to, .int .i64 x.cost.a, .int .i64 x.cost.b, .int .i64 x.cost.c, .int .i64 x.cost.d, .slice x.A x.n x.cap] 111))
        have h2 := h1.grownMap hg3 hA2.mapO.form
        exact h2.grownMap hg4 hA3.mapS.form
      have hx4 : IntsAt w4 w1.heap.size x.A x.n x.links := by
        have h1 : IntsAt (w1.alloc (.cells #[.int .i64 x.to, .int .i64 x.cost.a, .int .i64 x.cost.b, .int .i64 x.cost.c, .int .i64 x.cost.d, .slice x.A x.n x.cap] 111)) w1.heap.size x.A x.n x.links := IntsAt.below hxo.at_ ((Below.refl w1.heap.size w1).alloc (Nat.le_refl _) _)
        have h2 := ints_keep h1 (W' := w3) (fun b cs ty fr hb _ => (hg3.block b (Array.getElem?_eq_some_iff.1 hb).1 (fun e => by
          obtain ⟨es, cl, he⟩ := hA2.mapO.form
          cases e
          rw [he] at hb
          cases hb)).trans hb)
        exact ints_keep h2 (fun b cs ty fr hb _ => (hg4.block b (Array.getElem?_eq_some_iff.1 hb).1 (fun e => by
          obtain ⟨es, cl, he⟩ := hA3.mapS.form
          cases e
          rw [he] at hb
          cases hb)).trans hb)
      have HX4 := Lib.hid hx4
      have hsz4 : w4.heap.size = w1.heap.size + 1 := by rw [hs4, hs3]; simp
      have HA4 := Lib.hid hA4
      have HB74 := Lib.hid hb74
      have HOK4 := Lib.hid hok4
      have HMK4 := Lib.hid hmk4
      have HSZ4 := Lib.hid hsz4
      have o1 := HS1.out.bo.cell 0
      have ol := HS1.out.bo.lt
      have e0 := hA3.bs.cell 0
      have e1 := hb73.cell 0
      have e2 := hb73.cell 1
      have e3 := hb73.cell 2
      have e4 := hb73.cell 3
      have e5 := hb73.cell 4
      have e6 := hb73.cell 5
      have g0 := hA4.ch.cell 0
      have g1 := hA4.ch.cell 1
      have g2 := hA4.ch.cell 2
      have g3 := hA4.ch.cell 3
      have g4 := hb74.cell 0
      clear hx hxo hok hmin hA2 hm3 hg3 hs3 hA3 hb73 hm4 hg4 hs4 hok3 hA4 hb74 hok4 hmk4 hsz4 hbest hx4
      gi_wp2
      refine ⟨trivial, (callsIn_wide.2 (from_any _ _ _ _ _ rfl x.to _)).mono ?_⟩
      rintro e w5 ⟨rfl, rfl⟩
      have HR0 : Hid (DRound t dk p place x.to x.cost x.links [] (fnOf (put ms x.to x)) (fnOf (cut mo x.to))) := Lib.hid (by
        rw [fnOf_put, fnOf_cut]
        exact HS.out.2.2.1.enter' HFI.out HFA.out (fnOf_mem (MapIs.nodup wkTy HS.out.1.mapO) HX.out) (fun v' c' l' hv => by
          obtain ⟨z, hz, rfl, rfl⟩ := fnOf_some hv
          have := HMIN.out _ hz
          rwa [cmpW_key] at this))
      have FI := (from_in w4 #[.slice A nn c, .slice A' m d, .bool dk, .func (.func F) #[] C] x.to).base HA4.out.bel
      have hb6 : Below w4.heap.size w4 ((w4.alloc (.cells #[.slice A nn c, .slice A' m d, .bool dk, .func (.func F) #[] C] 115)).alloc (.cells #[.int .i64 x.to] 3)) := ((Below.refl _ _).alloc (Nat.le_refl _) _).alloc (by simp) _
      have AI : AllIn w BS #[.slice A nn c, .slice A' m d, .bool dk, .func (.func F) #[] C] (put ms x.to x) (cut mo x.to) x w1.heap.size ds ((w4.alloc (.cells #[.slice A nn c, .slice A' m d, .bool dk, .func (.func F) #[] C] 115)).alloc (.cells #[.int .i64 x.to] 3)).heap.size ((w4.alloc (.cells #[.slice A nn c, .slice A' m d, .bool dk, .func (.func F) #[] C] 115)).alloc (.cells #[.int .i64 x.to] 3)) :=
        ⟨HA4.out.below hb6, HB74.out.below hb6 HB74.out.lt, HX4.out.below (hb6.mono (by have := HSZ4.out; omega)), HMK4.out.below hb6, Nat.le_refl _⟩
      have g1l := FI.chart.lt
      have g2l := FI.place.lt
      have hdl : ∀ dd ∈ ds, ∀ r, dd.target = .collected r → r < ((w4.alloc (.cells #[.slice A nn c, .slice A' m d, .bool dk, .func (.func F) #[] C] 115)).alloc (.cells #[.int .i64 x.to] 3)).heap.size := fun dd hd r hr => by
        have := HMK4.out.lt dd hd r hr
        simp
        omega
      have HSZ6 : Hid (((w4.alloc (.cells #[.slice A nn c, .slice A' m d, .bool dk, .func (.func F) #[] C] 115)).alloc (.cells #[.int .i64 x.to] 3)).heap.size = w1.heap.size + 3) := Lib.hid (by have := HSZ4.out; simp; omega)
      have hbs1 : BS + 1 < w1.heap.size := ol
      clear hdel hup o1 e0 e1 e2 e3 e4 e5 e6 g0 g1 g2 g3 g4 hb6
      gi_wp2
      generalize ((w4.alloc (.cells #[.slice A nn c, .slice A' m d, .bool dk, .func (.func F) #[] C] 115)).alloc (.cells #[.int .i64 x.to] 3)) = w6 at *
      have hws : w.heap.size ≤ w6.heap.size := FI.below.size
      have hlt2 : w.heap.size + 1 + 1 < w6.heap.size := by have := HBS.out; have := HSZ6.out; omega
      refine wpIn_rangeFunc_ownH rfl (by omega) (gf := 140) (lb := #[.pointer (some ⟨w4.heap.size, 0, none⟩), .pointer (some ⟨w4.heap.size + 1, 0, none⟩)]) rfl trivial (enters_of Tryd.func140 (by kernel_rfl) rfl)
        (from1_stops 8 (by omega) A nn c A' m d dk F C p t x.to w4.heap.size (w4.heap.size + 1) w w6 hm HT.out HP.out HF.out FI) (fun h k => fromK_t h k) (fromK_b g1l g2l hws) (Below.refl _ _) (fun _ => rfl)
        (fun pre Wr => ∃ mo1, AllIn w BS #[.slice A nn c, .slice A' m d, .bool dk, .func (.func F) #[] C] (put ms x.to x) mo1 x w1.heap.size ds w6.heap.size Wr ∧ DRound t dk p place x.to x.cost x.links (pre.map Subtype.val) (fnOf (put ms x.to x)) (fnOf mo1) ∧ ∀ q ∈ mo1, q.1 ∈ t.places)
        (fun cd pre Wr => False)
        (ownFrom_shut (fun s Wr h => by obtain ⟨mo1, h, _⟩ := h; exact h.sz) (fun s Wr Wr' h hs => by obtain ⟨mo1, h, h2⟩ := h; exact ⟨mo1, h.shut hs hlt2 hdl, h2⟩))
        (fun cd => ownFrom_shut (fun s Wr h => h.elim) (fun s Wr Wr' h hs => h))
        ⟨_, AI, HR0.out, fun q hq => HS.out.2.2.2.2 q (mem_cut.1 hq).1⟩
        (fun y a' Wr => ∃ Bx, w6.heap.size ≤ Bx ∧ Blk Wr Bx 45 #[.int .i64 y.1.1.id, .int .i64 y.1.1.fr, .int .i64 y.1.1.to, .int .i64 y.1.1.steps, .int .i64 y.1.1.paces] ∧ Blk Wr (Bx + 1) 111 #[.int .i64 y.1.2.1, .int .i64 y.1.2.2.a, .int .i64 y.1.2.2.b, .int .i64 y.1.2.2.c, .int .i64 y.1.2.2.d, .slice none 0 0] ∧
          a' = { tmps := #[.agg #[.slice A nn c, .slice A' m d, .bool dk, .func (.func F) #[] C], .int .i64 place, .pointer (some ⟨w.heap.size, 0, none⟩), undef, .map none, .pointer (some ⟨BS, 0, none⟩), .pointer (some ⟨BS + 1, 0, none⟩), .pointer (some ⟨w1.heap.size, 0, none⟩), .bool true, .pointer (some ⟨Bx, 0, none⟩), .pointer (some ⟨Bx + 1, 0, none⟩), undef, undef, undef, undef, .map (some (w.heap.size + 1)), .map (some (w.heap.size + 1 + 1)), .int .i64 place, .int .i64 place, .agg #[.int .i64 place, .int .i64 0, .int .i64 0, .int .i64 0, .int .i64 0, .slice none 0 0], .map (some (w.heap.size + 1 + 1)), .tuple #[x.val, .bool true], .func (.func 115) #[] #[.pointer (some ⟨BS + 1, 0, none⟩)], .tuple #[x.val, .bool true], x.val, .bool true, .bool true, .bool false, u28, .map (some (w.heap.size + 1 + 1)), .pointer (some ⟨w1.heap.size, 0, none⟩), .int .i64 x.to, .map (some (w.heap.size + 1)), .pointer (some ⟨w1.heap.size, 0, none⟩), .int .i64 x.to, .agg #[.int .i64 x.to, .int .i64 x.cost.a, .int .i64 x.cost.b, .int .i64 x.cost.c, .int .i64 x.cost.d, .slice x.A x.n x.cap], .agg #[.slice A nn c, .slice A' m d, .bool dk, .func (.func F) #[] C], .pointer (some ⟨w1.heap.size, 0, none⟩), .int .i64 x.to, .func (.func 140) #[] #[.pointer (some ⟨w4.heap.size, 0, none⟩), .pointer (some ⟨w4.heap.size + 1, 0, none⟩)], linkV y.1.1, .agg #[.int .i64 y.1.2.1, .int .i64 y.1.2.2.a, .int .i64 y.1.2.2.b, .int .i64 y.1.2.2.c, .int .i64 y.1.2.2.d, .slice none 0 0], undef, undef, undef, undef, undef, undef, undef, undef, undef, undef, undef, undef, undef, undef, undef, undef, undef, undef, undef, undef, undef, undef, undef, undef, undef, undef, undef, undef, undef, undef, undef, undef, undef, undef, undef, undef, undef, undef, undef, undef, undef], defers := [] })
        (fun y a' => ownFrom_shut (fun _ Wr h => by obtain ⟨Bx, h1, h2, _⟩ := h; exact Nat.le_trans h1 (Nat.le_of_lt h2.lt)) (fun _ Wr Wr' h hs => by obtain ⟨Bx, h1, h2, h3, h4⟩ := h; exact ⟨Bx, h1, hs.blk h2, hs.blk h3, h4⟩)) ?assign ?body ?done ?stop
      case assign =>
        rintro l' pre ⟨⟨lk, v, cx⟩, hy⟩ Wr K hI hK
        unfold Out.enc
        gi_wp2
        obtain ⟨mo1, hI, hI2⟩ := hI
        have hb : Below Wr.heap.size Wr ((Wr.alloc (.cells #[.int .i64 lk.id, .int .i64 lk.fr, .int .i64 lk.to, .int .i64 lk.steps, .int .i64 lk.paces] 45)).alloc (.cells #[.int .i64 v, .int .i64 cx.a, .int .i64 cx.b, .int .i64 cx.c, .int .i64 cx.d, .slice none 0 0] 111)) := ((Below.refl _ _).alloc (Nat.le_refl _) _).alloc (by simp) _
        have Y := Blk.new (Wr.alloc (.cells #[.int .i64 lk.id, .int .i64 lk.fr, .int .i64 lk.to, .int .i64 lk.steps, .int .i64 lk.paces] 45)) 111 #[.int .i64 v, .int .i64 cx.a, .int .i64 cx.b, .int .i64 cx.c, .int .i64 cx.d, .slice none 0 0]
        rw [World.size_alloc] at Y
        have hsz := hI.sz
        exact hK _ _ (keepsFrom_below hb) (fromK_below hb (by omega) (by omega) (by omega)) ⟨mo1, hI.below hb, hI2⟩ ⟨Wr.heap.size, hsz, (Blk.new Wr _ _).alloc _, Y, rfl⟩
      case body =>
        rintro l' pre ⟨⟨lk, v, cx⟩, hy⟩ a' Wr hl ⟨r, hrr⟩ ⟨mo1, hI, hDR, hKO⟩ ⟨Bx, hBx, bX, bY, rfl⟩ hlen
        dsimp only at bX bY ⊢
        have hvp := (leads_ends (outs_leads hy).1 HFI.out (outs_leads hy).2).2
        have hvid := HID.out v hvp
        have hokv : okI v := okI_of (by omega) (by omega)
        have HVP := Lib.hid hvp
        have HOV := Lib.hid hokv
        have HI := Lib.hid hI
        have HDR := Lib.hid hDR
        have HKO := Lib.hid hKO
        have HBX := Lib.hid bX
        have HBY := Lib.hid bY
        have HYM := Lib.hid hy
        have s5 := hI.st.bs.cell 0
        have sl := hI.st.bs.lt
        have szx := bX.lt
        have szy := bY.lt
        have j0 := bY.cell 0
        have hL := hI.st.mapS.lookup wkTy hokv true
        cases hlk : look (put ms x.to x) v with
        | some z =>
          rw [hlk] at hL
          simp only [if_true] at hL
          have hfn : fnOf (put ms x.to x) v ≠ none := by unfold fnOf; rw [hlk]; simp
          have HFN := Lib.hid hfn
          clear hfn hlk hI hDR hKO bX bY hvp hvid hokv hrr
          gi_wp2
          have hb : Below Wr.heap.size Wr (Wr.alloc (.cells #[.int .i64 z.to, .int .i64 z.cost.a, .int .i64 z.cost.b, .int .i64 z.cost.c, .int .i64 z.cost.d, .slice z.A z.n z.cap] 111)) := (Below.refl _ _).alloc (Nat.le_refl _) _
          have hsz := HI.out.sz
          refine ⟨keepsFrom_below hb, fromK_below hb (by omega) (by omega) (by omega), mo1, HI.out.below hb, ?_, fun a b hq => HKO.out (a, b) hq⟩
          rw [List.map_append]
          exact HDR.out.skip (.inl HFN.out)
        | none =>
          rw [hlk] at hL
          simp only [if_true] at hL
          have hfn : fnOf (put ms x.to x) v = none := by unfold fnOf; rw [hlk]; rfl
          have HFN := Lib.hid hfn
          clear hfn hlk hI hDR hKO bX bY hvp hvid hokv hrr
          have HSM : Hid (Small cx ∧ Small x.cost) := Lib.hid ⟨Small.any (leads_cost (outs_leads hy).1 HFI.out HFA.out (outs_leads hy).2), Small.of_walk (HDR.out.sFirst _ _ HDR.out.here).1 HFI.out HFA.out (by have h1 := HXO.out.len; have h2 := HXO.out.short; dsimp only at h1 h2; omega)⟩
          have HN9 : Hid (x.n ≤ 9) := Lib.hid HXO.out.short
          have HX8 : Hid (x.n ≤ 8) := Lib.hid (by have h1 := HXO.out.len; have h2 := (HDR.out.sFirst _ _ HDR.out.here).short HFI.out HFA.out; dsimp only at h1; omega)
          have h67 : w1.heap.size < w6.heap.size := by have := HSZ6.out; omega
          have h64 : w4.heap.size + 1 < w6.heap.size := g2l
          have hb8 : BS + 1 < w6.heap.size := by omega
          have hw4 : w.heap.size + 1 + 1 < w4.heap.size := by have := HSZ4.out; have := HBS.out; omega
          gi_wp2
          have hbV : Below Wr.heap.size Wr (Wr.alloc (.cells #[.int .i64 0, .int .i64 0, .int .i64 0, .int .i64 0, .int .i64 0, .slice none 0 0] 111)) := (Below.refl _ _).alloc (Nat.le_refl _) _
          have HIV := Lib.hid (HI.out.below hbV)
          have HBXV := Lib.hid (HBX.out.below hbV szx)
          have HBYV := Lib.hid (HBY.out.below hbV szy)
          have HKV : Hid (KF w6.heap.size w.heap.size w4.heap.size (w4.heap.size + 1) Wr (Wr.alloc (.cells #[.int .i64 0, .int .i64 0, .int .i64 0, .int .i64 0, .int .i64 0, .slice none 0 0] 111))) := Lib.hid (by
            have hsz := HI.out.sz
            exact KF.below hbV (by omega) (by omega) (by omega))
          clear hbV
          generalize (Wr.alloc (.cells #[.int .i64 0, .int .i64 0, .int .i64 0, .int .i64 0, .int .i64 0, .slice none 0 0] 111)) = V at *
          refine wpIn_region_stepsD (by kernel_rfl) (by kernel_rfl) (fun σ : AGh × (Nat → Value) => { tmps := #[.agg #[.slice A nn c, .slice A' m d, .bool dk, .func (.func F) #[] C], .int .i64 place, .pointer (some ⟨w.heap.size, 0, none⟩), undef, .map none, .pointer (some ⟨BS, 0, none⟩), .pointer (some ⟨BS + 1, 0, none⟩), .pointer (some ⟨w1.heap.size, 0, none⟩), .bool true, .pointer (some ⟨Bx, 0, none⟩), .pointer (some ⟨Bx + 1, 0, none⟩), .pointer (some ⟨Wr.heap.size, 0, none⟩), .bool false, undef, undef, .map (some (w.heap.size + 1)), .map (some (w.heap.size + 1 + 1)), .int .i64 place, .int .i64 place, .agg #[.int .i64 place, .int .i64 0, .int .i64 0, .int .i64 0, .int .i64 0, .slice none 0 0], .map (some (w.heap.size + 1 + 1)), .tuple #[x.val, .bool true], .func (.func 115) #[] #[.pointer (some ⟨BS + 1, 0, none⟩)], .tuple #[x.val, .bool true], x.val, .bool true, .bool true, .bool false, u28, .map (some (w.heap.size + 1 + 1)), .pointer (some ⟨w1.heap.size, 0, none⟩), .int .i64 x.to, .map (some (w.heap.size + 1)), .pointer (some ⟨w1.heap.size, 0, none⟩), .int .i64 x.to, .agg #[.int .i64 x.to, .int .i64 x.cost.a, .int .i64 x.cost.b, .int .i64 x.cost.c, .int .i64 x.cost.d, .slice x.A x.n x.cap], .agg #[.slice A nn c, .slice A' m d, .bool dk, .func (.func F) #[] C], .pointer (some ⟨w1.heap.size, 0, none⟩), .int .i64 x.to, .func (.func 140) #[] #[.pointer (some ⟨w4.heap.size, 0, none⟩), .pointer (some ⟨w4.heap.size + 1, 0, none⟩)], linkV lk, .agg #[.int .i64 v, .int .i64 cx.a, .int .i64 cx.b, .int .i64 cx.c, .int .i64 cx.d, .slice none 0 0], .tuple #[zeroWk, .bool false], .map (some (w.heap.size + 1)), .pointer (some ⟨Bx + 1, 0, none⟩), .int .i64 v, .tuple #[zeroWk, .bool false], zeroWk, .bool false, .bool false, σ.2 50, σ.2 51, σ.2 52, σ.2 53, σ.2 54, σ.2 55, σ.2 56, σ.2 57, σ.2 58, σ.2 59, σ.2 60, σ.2 61, σ.2 62, σ.2 63, undef, undef, undef, undef, undef, undef, undef, undef, undef, undef, undef, undef, undef, undef, undef, undef, undef, undef, undef], defers := [] })
            (fun L σ W => (V.grownBy W (some (Bx + 1))) ∧ (Blk W (Bx + 1) 111 #[.int .i64 v, .int .i64 σ.1.co.a, .int .i64 σ.1.co.b, .int .i64 σ.1.co.c, .int .i64 σ.1.co.d, .slice σ.1.sA σ.1.sn σ.1.sc]) ∧ (L 13 = false → σ.1.co = cx) ∧ (L 13 = true → σ.1.co = addC cx x.cost) ∧ (L 15 = true → σ.1.sA = σ.1.A61 ∧ σ.1.sn = x.n + 1 ∧ σ.1.sc = σ.1.c61) ∧ (L 7 = true → L 11 = false → Own W V.heap.size 3 1 σ.1.A57 x.n σ.1.c57 (List.map (Value.int .i64) x.links)) ∧ (L 10 = true → L 11 = false → Blk W σ.1.b60 3 #[.int .i64 lk.id] ∧ V.heap.size ≤ σ.1.b60) ∧ (L 11 = true → Own W V.heap.size 3 1 σ.1.A61 (x.n + 1) σ.1.c61 (List.map (Value.int .i64) (x.links ++ [lk.id]))) ∧ (L 0 = true → σ.2 50 = .pointer (some ⟨Bx + 1, 1, none⟩)) ∧ (L 1 = true → σ.2 51 = .agg #[.int .i64 cx.a, .int .i64 cx.b, .int .i64 cx.c, .int .i64 cx.d]) ∧ (L 2 = true → σ.2 52 = .pointer (some ⟨w1.heap.size, 1, none⟩)) ∧ (L 3 = true → σ.2 53 = .agg #[.int .i64 x.cost.a, .int .i64 x.cost.b, .int .i64 x.cost.c, .int .i64 x.cost.d]) ∧ (L 4 = true → σ.2 54 = .agg #[.int .i64 (addC cx x.cost).a, .int .i64 (addC cx x.cost).b, .int .i64 (addC cx x.cost).c, .int .i64 (addC cx x.cost).d]) ∧ (L 5 = true → σ.2 55 = .pointer (some ⟨w1.heap.size, 5, none⟩)) ∧ (L 6 = true → σ.2 56 = .slice x.A x.n x.cap) ∧ (L 7 = true → σ.2 57 = .slice σ.1.A57 x.n σ.1.c57) ∧ (L 8 = true → σ.2 58 = .pointer (some ⟨Bx, 0, none⟩)) ∧ (L 9 = true → σ.2 59 = .int .i64 lk.id) ∧ (L 10 = true → σ.2 60 = .slice (some ⟨σ.1.b60, 0, none⟩) 1 1) ∧ (L 11 = true → σ.2 61 = .slice σ.1.A61 (x.n + 1) σ.1.c61) ∧ (L 12 = true → σ.2 62 = .pointer (some ⟨Bx + 1, 1, none⟩)) ∧ (L 14 = true → σ.2 63 = .pointer (some ⟨Bx + 1, 5, none⟩)))
            ((⟨cx, none, 0, 0, none, 0, 0, none, 0⟩ : AGh), fun k => undef) rfl ?_ ?_ ?_
          · exact ⟨(grown_drew (grown_refl _ _) 1), HBYV.out, (fun _ => rfl), (fun h => by cases h), (fun h => by cases h), (fun h => by cases h), (fun h => by cases h), (fun h => by cases h), (fun h => by cases h), (fun h => by cases h), (fun h => by cases h), (fun h => by cases h), (fun h => by cases h), (fun h => by cases h), (fun h => by cases h), (fun h => by cases h), (fun h => by cases h), (fun h => by cases h), (fun h => by cases h), (fun h => by cases h), (fun h => by cases h), (fun h => by cases h)⟩
          · refine ⟨?_, ?_, ?_, ?_, ?_, ?_, ?_, ?_, ?_, ?_, ?_, ?_, ?_, ?_, ?_, ?_, trivial⟩
            · rintro L ⟨gh, s⟩ W hu hd hdn ⟨gW, gN, gC, gCt, gSt, gA, gB, gD, f0, f1, f2, f3, f4, f5, f6, f7, f8, f9, f10, f11, f12, f14⟩ K Q hK
              try dsimp only at gW gN gC gCt gSt gA gB gD f0 f1 f2 f3 f4 f5 f6 f7 f8 f9 f10 f11 f12 f14 ⊢
              have HF := Lib.hid (show (V.grownBy W (some (Bx + 1))) ∧ (Blk W (Bx + 1) 111 #[.int .i64 v, .int .i64 gh.co.a, .int .i64 gh.co.b, .int .i64 gh.co.c, .int .i64 gh.co.d, .slice gh.sA gh.sn gh.sc]) ∧ (L 13 = false → gh.co = cx) ∧ (L 13 = true → gh.co = addC cx x.cost) ∧ (L 15 = true → gh.sA = gh.A61 ∧ gh.sn = x.n + 1 ∧ gh.sc = gh.c61) ∧ (L 7 = true → L 11 = false → Own W V.heap.size 3 1 gh.A57 x.n gh.c57 (List.map (Value.int .i64) x.links)) ∧ (L 10 = true → L 11 = false → Blk W gh.b60 3 #[.int .i64 lk.id] ∧ V.heap.size ≤ gh.b60) ∧ (L 11 = true → Own W V.heap.size 3 1 gh.A61 (x.n + 1) gh.c61 (List.map (Value.int .i64) (x.links ++ [lk.id]))) ∧ (L 0 = true → s 50 = .pointer (some ⟨Bx + 1, 1, none⟩)) ∧ (L 1 = true → s 51 = .agg #[.int .i64 cx.a, .int .i64 cx.b, .int .i64 cx.c, .int .i64 cx.d]) ∧ (L 2 = true → s 52 = .pointer (some ⟨w1.heap.size, 1, none⟩)) ∧ (L 3 = true → s 53 = .agg #[.int .i64 x.cost.a, .int .i64 x.cost.b, .int .i64 x.cost.c, .int .i64 x.cost.d]) ∧ (L 4 = true → s 54 = .agg #[.int .i64 (addC cx x.cost).a, .int .i64 (addC cx x.cost).b, .int .i64 (addC cx x.cost).c, .int .i64 (addC cx x.cost).d]) ∧ (L 5 = true → s 55 = .pointer (some ⟨w1.heap.size, 5, none⟩)) ∧ (L 6 = true → s 56 = .slice x.A x.n x.cap) ∧ (L 7 = true → s 57 = .slice gh.A57 x.n gh.c57) ∧ (L 8 = true → s 58 = .pointer (some ⟨Bx, 0, none⟩)) ∧ (L 9 = true → s 59 = .int .i64 lk.id) ∧ (L 10 = true → s 60 = .slice (some ⟨gh.b60, 0, none⟩) 1 1) ∧ (L 11 = true → s 61 = .slice gh.A61 (x.n + 1) gh.c61) ∧ (L 12 = true → s 62 = .pointer (some ⟨Bx + 1, 1, none⟩)) ∧ (L 14 = true → s 63 = .pointer (some ⟨Bx + 1, 5, none⟩)) from ⟨gW, gN, gC, gCt, gSt, gA, gB, gD, f0, f1, f2, f3, f4, f5, f6, f7, f8, f9, f10, f11, f12, f14⟩)
              clear f14 f12 f11 f10 f9 f8 f7 f6 f5 f4 f3 f2 f1 f0 gD gB gA gSt gCt gC gN gW hd
              try simp only
              gi_wp2
              obtain ⟨gW, gN, gC, gCt, gSt, gA, gB, gD, f0, f1, f2, f3, f4, f5, f6, f7, f8, f9, f10, f11, f12, f14⟩ := HF.out
              exact hK (gh, (upd s 50 (.pointer (some ⟨Bx + 1, 1, none⟩)))) _ ⟨gW, gN, gC, gCt, gSt, gA, gB, gD, (fun _ => rfl), f1, f2, f3, f4, f5, f6, f7, f8, f9, f10, f11, f12, f14⟩
            · rintro L ⟨gh, s⟩ W hu hd hdn ⟨gW, gN, gC, gCt, gSt, gA, gB, gD, f0, f1, f2, f3, f4, f5, f6, f7, f8, f9, f10, f11, f12, f14⟩ K Q hK
              try dsimp only at gW gN gC gCt gSt gA gB gD f0 f1 f2 f3 f4 f5 f6 f7 f8 f9 f10 f11 f12 f14 ⊢
              have e0 := f0 (hd.at_ 0 rfl)
              have h13 : L 13 = false := by
                cases hc : L 13 with
                | false => rfl
                | true => exact hdn.no 13 1 hc rfl hu
              have G := gN
              rw [gC h13] at G
              have c1 : W.cell? ⟨Bx + 1, 1, none⟩ = some (.int .i64 cx.a) := G.cell 1
              have c2 : W.cell? ⟨Bx + 1, 2, none⟩ = some (.int .i64 cx.b) := G.cell 2
              have c3 : W.cell? ⟨Bx + 1, 3, none⟩ = some (.int .i64 cx.c) := G.cell 3
              have c4 : W.cell? ⟨Bx + 1, 4, none⟩ = some (.int .i64 cx.d) := G.cell 4
              clear G
              have HF := Lib.hid (show (V.grownBy W (some (Bx + 1))) ∧ (Blk W (Bx + 1) 111 #[.int .i64 v, .int .i64 gh.co.a, .int .i64 gh.co.b, .int .i64 gh.co.c, .int .i64 gh.co.d, .slice gh.sA gh.sn gh.sc]) ∧ (L 13 = false → gh.co = cx) ∧ (L 13 = true → gh.co = addC cx x.cost) ∧ (L 15 = true → gh.sA = gh.A61 ∧ gh.sn = x.n + 1 ∧ gh.sc = gh.c61) ∧ (L 7 = true → L 11 = false → Own W V.heap.size 3 1 gh.A57 x.n gh.c57 (List.map (Value.int .i64) x.links)) ∧ (L 10 = true → L 11 = false → Blk W gh.b60 3 #[.int .i64 lk.id] ∧ V.heap.size ≤ gh.b60) ∧ (L 11 = true → Own W V.heap.size 3 1 gh.A61 (x.n + 1) gh.c61 (List.map (Value.int .i64) (x.links ++ [lk.id]))) ∧ (L 0 = true → s 50 = .pointer (some ⟨Bx + 1, 1, none⟩)) ∧ (L 1 = true → s 51 = .agg #[.int .i64 cx.a, .int .i64 cx.b, .int .i64 cx.c, .int .i64 cx.d]) ∧ (L 2 = true → s 52 = .pointer (some ⟨w1.heap.size, 1, none⟩)) ∧ (L 3 = true → s 53 = .agg #[.int .i64 x.cost.a, .int .i64 x.cost.b, .int .i64 x.cost.c, .int .i64 x.cost.d]) ∧ (L 4 = true → s 54 = .agg #[.int .i64 (addC cx x.cost).a, .int .i64 (addC cx x.cost).b, .int .i64 (addC cx x.cost).c, .int .i64 (addC cx x.cost).d]) ∧ (L 5 = true → s 55 = .pointer (some ⟨w1.heap.size, 5, none⟩)) ∧ (L 6 = true → s 56 = .slice x.A x.n x.cap) ∧ (L 7 = true → s 57 = .slice gh.A57 x.n gh.c57) ∧ (L 8 = true → s 58 = .pointer (some ⟨Bx, 0, none⟩)) ∧ (L 9 = true → s 59 = .int .i64 lk.id) ∧ (L 10 = true → s 60 = .slice (some ⟨gh.b60, 0, none⟩) 1 1) ∧ (L 11 = true → s 61 = .slice gh.A61 (x.n + 1) gh.c61) ∧ (L 12 = true → s 62 = .pointer (some ⟨Bx + 1, 1, none⟩)) ∧ (L 14 = true → s 63 = .pointer (some ⟨Bx + 1, 5, none⟩)) from ⟨gW, gN, gC, gCt, gSt, gA, gB, gD, f0, f1, f2, f3, f4, f5, f6, f7, f8, f9, f10, f11, f12, f14⟩)
              clear f14 f12 f11 f10 f9 f8 f7 f6 f5 f4 f3 f2 f1 f0 gD gB gA gSt gCt gC gN gW hd
              try simp only at e0 ⊢
              gi_wp2
              obtain ⟨gW, gN, gC, gCt, gSt, gA, gB, gD, f0, f1, f2, f3, f4, f5, f6, f7, f8, f9, f10, f11, f12, f14⟩ := HF.out
              exact hK (gh, (upd (upd s 50 (.pointer (some ⟨Bx + 1, 1, none⟩))) 51 (.agg #[.int .i64 cx.a, .int .i64 cx.b, .int .i64 cx.c, .int .i64 cx.d]))) _ ⟨gW, gN, gC, gCt, gSt, gA, gB, gD, (fun _ => rfl), (fun _ => rfl), f2, f3, f4, f5, f6, f7, f8, f9, f10, f11, f12, f14⟩
            · rintro L ⟨gh, s⟩ W hu hd hdn ⟨gW, gN, gC, gCt, gSt, gA, gB, gD, f0, f1, f2, f3, f4, f5, f6, f7, f8, f9, f10, f11, f12, f14⟩ K Q hK
              try dsimp only at gW gN gC gCt gSt gA gB gD f0 f1 f2 f3 f4 f5 f6 f7 f8 f9 f10 f11 f12 f14 ⊢
              have HF := Lib.hid (show (V.grownBy W (some (Bx + 1))) ∧ (Blk W (Bx + 1) 111 #[.int .i64 v, .int .i64 gh.co.a, .int .i64 gh.co.b, .int .i64 gh.co.c, .int .i64 gh.co.d, .slice gh.sA gh.sn gh.sc]) ∧ (L 13 = false → gh.co = cx) ∧ (L 13 = true → gh.co = addC cx x.cost) ∧ (L 15 = true → gh.sA = gh.A61 ∧ gh.sn = x.n + 1 ∧ gh.sc = gh.c61) ∧ (L 7 = true → L 11 = false → Own W V.heap.size 3 1 gh.A57 x.n gh.c57 (List.map (Value.int .i64) x.links)) ∧ (L 10 = true → L 11 = false → Blk W gh.b60 3 #[.int .i64 lk.id] ∧ V.heap.size ≤ gh.b60) ∧ (L 11 = true → Own W V.heap.size 3 1 gh.A61 (x.n + 1) gh.c61 (List.map (Value.int .i64) (x.links ++ [lk.id]))) ∧ (L 0 = true → s 50 = .pointer (some ⟨Bx + 1, 1, none⟩)) ∧ (L 1 = true → s 51 = .agg #[.int .i64 cx.a, .int .i64 cx.b, .int .i64 cx.c, .int .i64 cx.d]) ∧ (L 2 = true → s 52 = .pointer (some ⟨w1.heap.size, 1, none⟩)) ∧ (L 3 = true → s 53 = .agg #[.int .i64 x.cost.a, .int .i64 x.cost.b, .int .i64 x.cost.c, .int .i64 x.cost.d]) ∧ (L 4 = true → s 54 = .agg #[.int .i64 (addC cx x.cost).a, .int .i64 (addC cx x.cost).b, .int .i64 (addC cx x.cost).c, .int .i64 (addC cx x.cost).d]) ∧ (L 5 = true → s 55 = .pointer (some ⟨w1.heap.size, 5, none⟩)) ∧ (L 6 = true → s 56 = .slice x.A x.n x.cap) ∧ (L 7 = true → s 57 = .slice gh.A57 x.n gh.c57) ∧ (L 8 = true → s 58 = .pointer (some ⟨Bx, 0, none⟩)) ∧ (L 9 = true → s 59 = .int .i64 lk.id) ∧ (L 10 = true → s 60 = .slice (some ⟨gh.b60, 0, none⟩) 1 1) ∧ (L 11 = true → s 61 = .slice gh.A61 (x.n + 1) gh.c61) ∧ (L 12 = true → s 62 = .pointer (some ⟨Bx + 1, 1, none⟩)) ∧ (L 14 = true → s 63 = .pointer (some ⟨Bx + 1, 5, none⟩)) from ⟨gW, gN, gC, gCt, gSt, gA, gB, gD, f0, f1, f2, f3, f4, f5, f6, f7, f8, f9, f10, f11, f12, f14⟩)
              clear f14 f12 f11 f10 f9 f8 f7 f6 f5 f4 f3 f2 f1 f0 gD gB gA gSt gCt gC gN gW hd
              try simp only
              gi_wp2
              obtain ⟨gW, gN, gC, gCt, gSt, gA, gB, gD, f0, f1, f2, f3, f4, f5, f6, f7, f8, f9, f10, f11, f12, f14⟩ := HF.out
              exact hK (gh, (upd s 52 (.pointer (some ⟨w1.heap.size, 1, none⟩)))) _ ⟨gW, gN, gC, gCt, gSt, gA, gB, gD, f0, f1, (fun _ => rfl), f3, f4, f5, f6, f7, f8, f9, f10, f11, f12, f14⟩
            · rintro L ⟨gh, s⟩ W hu hd hdn ⟨gW, gN, gC, gCt, gSt, gA, gB, gD, f0, f1, f2, f3, f4, f5, f6, f7, f8, f9, f10, f11, f12, f14⟩ K Q hK
              try dsimp only at gW gN gC gCt gSt gA gB gD f0 f1 f2 f3 f4 f5 f6 f7 f8 f9 f10 f11 f12 f14 ⊢
              have e2 := f2 (hd.at_ 2 rfl)
              have G := HIV.out.b7.grown gW (by simp; omega)
              have c0 : W.cell? ⟨w1.heap.size, 0, none⟩ = some (.int .i64 x.to) := G.cell 0
              have c1 : W.cell? ⟨w1.heap.size, 1, none⟩ = some (.int .i64 x.cost.a) := G.cell 1
              have c2 : W.cell? ⟨w1.heap.size, 2, none⟩ = some (.int .i64 x.cost.b) := G.cell 2
              have c3 : W.cell? ⟨w1.heap.size, 3, none⟩ = some (.int .i64 x.cost.c) := G.cell 3
              have c4 : W.cell? ⟨w1.heap.size, 4, none⟩ = some (.int .i64 x.cost.d) := G.cell 4
              have c5 : W.cell? ⟨w1.heap.size, 5, none⟩ = some (.slice x.A x.n x.cap) := G.cell 5
              clear G
              have HF := Lib.hid (show (V.grownBy W (some (Bx + 1))) ∧ (Blk W (Bx + 1) 111 #[.int .i64 v, .int .i64 gh.co.a, .int .i64 gh.co.b, .int .i64 gh.co.c, .int .i64 gh.co.d, .slice gh.sA gh.sn gh.sc]) ∧ (L 13 = false → gh.co = cx) ∧ (L 13 = true → gh.co = addC cx x.cost) ∧ (L 15 = true → gh.sA = gh.A61 ∧ gh.sn = x.n + 1 ∧ gh.sc = gh.c61) ∧ (L 7 = true → L 11 = false → Own W V.heap.size 3 1 gh.A57 x.n gh.c57 (List.map (Value.int .i64) x.links)) ∧ (L 10 = true → L 11 = false → Blk W gh.b60 3 #[.int .i64 lk.id] ∧ V.heap.size ≤ gh.b60) ∧ (L 11 = true → Own W V.heap.size 3 1 gh.A61 (x.n + 1) gh.c61 (List.map (Value.int .i64) (x.links ++ [lk.id]))) ∧ (L 0 = true → s 50 = .pointer (some ⟨Bx + 1, 1, none⟩)) ∧ (L 1 = true → s 51 = .agg #[.int .i64 cx.a, .int .i64 cx.b, .int .i64 cx.c, .int .i64 cx.d]) ∧ (L 2 = true → s 52 = .pointer (some ⟨w1.heap.size, 1, none⟩)) ∧ (L 3 = true → s 53 = .agg #[.int .i64 x.cost.a, .int .i64 x.cost.b, .int .i64 x.cost.c, .int .i64 x.cost.d]) ∧ (L 4 = true → s 54 = .agg #[.int .i64 (addC cx x.cost).a, .int .i64 (addC cx x.cost).b, .int .i64 (addC cx x.cost).c, .int .i64 (addC cx x.cost).d]) ∧ (L 5 = true → s 55 = .pointer (some ⟨w1.heap.size, 5, none⟩)) ∧ (L 6 = true → s 56 = .slice x.A x.n x.cap) ∧ (L 7 = true → s 57 = .slice gh.A57 x.n gh.c57) ∧ (L 8 = true → s 58 = .pointer (some ⟨Bx, 0, none⟩)) ∧ (L 9 = true → s 59 = .int .i64 lk.id) ∧ (L 10 = true → s 60 = .slice (some ⟨gh.b60, 0, none⟩) 1 1) ∧ (L 11 = true → s 61 = .slice gh.A61 (x.n + 1) gh.c61) ∧ (L 12 = true → s 62 = .pointer (some ⟨Bx + 1, 1, none⟩)) ∧ (L 14 = true → s 63 = .pointer (some ⟨Bx + 1, 5, none⟩)) from ⟨gW, gN, gC, gCt, gSt, gA, gB, gD, f0, f1, f2, f3, f4, f5, f6, f7, f8, f9, f10, f11, f12, f14⟩)
              clear f14 f12 f11 f10 f9 f8 f7 f6 f5 f4 f3 f2 f1 f0 gD gB gA gSt gCt gC gN gW hd
              try simp only at e2 ⊢
              gi_wp2
              obtain ⟨gW, gN, gC, gCt, gSt, gA, gB, gD, f0, f1, f2, f3, f4, f5, f6, f7, f8, f9, f10, f11, f12, f14⟩ := HF.out
              exact hK (gh, (upd (upd s 52 (.pointer (some ⟨w1.heap.size, 1, none⟩))) 53 (.agg #[.int .i64 x.cost.a, .int .i64 x.cost.b, .int .i64 x.cost.c, .int .i64 x.cost.d]))) _ ⟨gW, gN, gC, gCt, gSt, gA, gB, gD, f0, f1, (fun _ => rfl), (fun _ => rfl), f4, f5, f6, f7, f8, f9, f10, f11, f12, f14⟩
            · rintro L ⟨gh, s⟩ W hu hd hdn ⟨gW, gN, gC, gCt, gSt, gA, gB, gD, f0, f1, f2, f3, f4, f5, f6, f7, f8, f9, f10, f11, f12, f14⟩ K Q hK
              try dsimp only at gW gN gC gCt gSt gA gB gD f0 f1 f2 f3 f4 f5 f6 f7 f8 f9 f10 f11 f12 f14 ⊢
              have e1 := f1 (hd.at_ 1 rfl)
              have e3 := f3 (hd.at_ 3 rfl)
              have HF := Lib.hid (show (V.grownBy W (some (Bx + 1))) ∧ (Blk W (Bx + 1) 111 #[.int .i64 v, .int .i64 gh.co.a, .int .i64 gh.co.b, .int .i64 gh.co.c, .int .i64 gh.co.d, .slice gh.sA gh.sn gh.sc]) ∧ (L 13 = false → gh.co = cx) ∧ (L 13 = true → gh.co = addC cx x.cost) ∧ (L 15 = true → gh.sA = gh.A61 ∧ gh.sn = x.n + 1 ∧ gh.sc = gh.c61) ∧ (L 7 = true → L 11 = false → Own W V.heap.size 3 1 gh.A57 x.n gh.c57 (List.map (Value.int .i64) x.links)) ∧ (L 10 = true → L 11 = false → Blk W gh.b60 3 #[.int .i64 lk.id] ∧ V.heap.size ≤ gh.b60) ∧ (L 11 = true → Own W V.heap.size 3 1 gh.A61 (x.n + 1) gh.c61 (List.map (Value.int .i64) (x.links ++ [lk.id]))) ∧ (L 0 = true → s 50 = .pointer (some ⟨Bx + 1, 1, none⟩)) ∧ (L 1 = true → s 51 = .agg #[.int .i64 cx.a, .int .i64 cx.b, .int .i64 cx.c, .int .i64 cx.d]) ∧ (L 2 = true → s 52 = .pointer (some ⟨w1.heap.size, 1, none⟩)) ∧ (L 3 = true → s 53 = .agg #[.int .i64 x.cost.a, .int .i64 x.cost.b, .int .i64 x.cost.c, .int .i64 x.cost.d]) ∧ (L 4 = true → s 54 = .agg #[.int .i64 (addC cx x.cost).a, .int .i64 (addC cx x.cost).b, .int .i64 (addC cx x.cost).c, .int .i64 (addC cx x.cost).d]) ∧ (L 5 = true → s 55 = .pointer (some ⟨w1.heap.size, 5, none⟩)) ∧ (L 6 = true → s 56 = .slice x.A x.n x.cap) ∧ (L 7 = true → s 57 = .slice gh.A57 x.n gh.c57) ∧ (L 8 = true → s 58 = .pointer (some ⟨Bx, 0, none⟩)) ∧ (L 9 = true → s 59 = .int .i64 lk.id) ∧ (L 10 = true → s 60 = .slice (some ⟨gh.b60, 0, none⟩) 1 1) ∧ (L 11 = true → s 61 = .slice gh.A61 (x.n + 1) gh.c61) ∧ (L 12 = true → s 62 = .pointer (some ⟨Bx + 1, 1, none⟩)) ∧ (L 14 = true → s 63 = .pointer (some ⟨Bx + 1, 5, none⟩)) from ⟨gW, gN, gC, gCt, gSt, gA, gB, gD, f0, f1, f2, f3, f4, f5, f6, f7, f8, f9, f10, f11, f12, f14⟩)
              clear f14 f12 f11 f10 f9 f8 f7 f6 f5 f4 f3 f2 f1 f0 gD gB gA gSt gCt gC gN gW hd
              try simp only at e1 e3 ⊢
              gi_wp2
              refine ⟨trivial, (CallsIn.inRound l' (callsIn_wide.2 (plus_any cx x.cost W HSM.out.1 HSM.out.2))).mono ?_⟩
              rintro e W2 ⟨rfl, hb⟩
              gi_wp2
              obtain ⟨gW, gN, gC, gCt, gSt, gA, gB, gD, f0, f1, f2, f3, f4, f5, f6, f7, f8, f9, f10, f11, f12, f14⟩ := HF.out
              exact hK (gh, (upd (upd (upd s 51 (.agg #[.int .i64 cx.a, .int .i64 cx.b, .int .i64 cx.c, .int .i64 cx.d])) 53 (.agg #[.int .i64 x.cost.a, .int .i64 x.cost.b, .int .i64 x.cost.c, .int .i64 x.cost.d])) 54 (.agg #[.int .i64 (addC cx x.cost).a, .int .i64 (addC cx x.cost).b, .int .i64 (addC cx x.cost).c, .int .i64 (addC cx x.cost).d]))) _ ⟨(grown_below gW hb), (gN.below hb gN.lt), gC, gCt, gSt, (fun h1 h2 => (gA h1 h2).below hb (Nat.le_refl _)), (fun h1 h2 => ⟨(gB h1 h2).1.below hb (gB h1 h2).1.lt, (gB h1 h2).2⟩), (fun h1 => (gD h1).below hb (Nat.le_refl _)), f0, (fun _ => rfl), f2, (fun _ => rfl), (fun _ => rfl), f5, f6, f7, f8, f9, f10, f11, f12, f14⟩
            · rintro L ⟨gh, s⟩ W hu hd hdn ⟨gW, gN, gC, gCt, gSt, gA, gB, gD, f0, f1, f2, f3, f4, f5, f6, f7, f8, f9, f10, f11, f12, f14⟩ K Q hK
              try dsimp only at gW gN gC gCt gSt gA gB gD f0 f1 f2 f3 f4 f5 f6 f7 f8 f9 f10 f11 f12 f14 ⊢
              have HF := Lib.hid (show (V.grownBy W (some (Bx + 1))) ∧ (Blk W (Bx + 1) 111 #[.int .i64 v, .int .i64 gh.co.a, .int .i64 gh.co.b, .int .i64 gh.co.c, .int .i64 gh.co.d, .slice gh.sA gh.sn gh.sc]) ∧ (L 13 = false → gh.co = cx) ∧ (L 13 = true → gh.co = addC cx x.cost) ∧ (L 15 = true → gh.sA = gh.A61 ∧ gh.sn = x.n + 1 ∧ gh.sc = gh.c61) ∧ (L 7 = true → L 11 = false → Own W V.heap.size 3 1 gh.A57 x.n gh.c57 (List.map (Value.int .i64) x.links)) ∧ (L 10 = true → L 11 = false → Blk W gh.b60 3 #[.int .i64 lk.id] ∧ V.heap.size ≤ gh.b60) ∧ (L 11 = true → Own W V.heap.size 3 1 gh.A61 (x.n + 1) gh.c61 (List.map (Value.int .i64) (x.links ++ [lk.id]))) ∧ (L 0 = true → s 50 = .pointer (some ⟨Bx + 1, 1, none⟩)) ∧ (L 1 = true → s 51 = .agg #[.int .i64 cx.a, .int .i64 cx.b, .int .i64 cx.c, .int .i64 cx.d]) ∧ (L 2 = true → s 52 = .pointer (some ⟨w1.heap.size, 1, none⟩)) ∧ (L 3 = true → s 53 = .agg #[.int .i64 x.cost.a, .int .i64 x.cost.b, .int .i64 x.cost.c, .int .i64 x.cost.d]) ∧ (L 4 = true → s 54 = .agg #[.int .i64 (addC cx x.cost).a, .int .i64 (addC cx x.cost).b, .int .i64 (addC cx x.cost).c, .int .i64 (addC cx x.cost).d]) ∧ (L 5 = true → s 55 = .pointer (some ⟨w1.heap.size, 5, none⟩)) ∧ (L 6 = true → s 56 = .slice x.A x.n x.cap) ∧ (L 7 = true → s 57 = .slice gh.A57 x.n gh.c57) ∧ (L 8 = true → s 58 = .pointer (some ⟨Bx, 0, none⟩)) ∧ (L 9 = true → s 59 = .int .i64 lk.id) ∧ (L 10 = true → s 60 = .slice (some ⟨gh.b60, 0, none⟩) 1 1) ∧ (L 11 = true → s 61 = .slice gh.A61 (x.n + 1) gh.c61) ∧ (L 12 = true → s 62 = .pointer (some ⟨Bx + 1, 1, none⟩)) ∧ (L 14 = true → s 63 = .pointer (some ⟨Bx + 1, 5, none⟩)) from ⟨gW, gN, gC, gCt, gSt, gA, gB, gD, f0, f1, f2, f3, f4, f5, f6, f7, f8, f9, f10, f11, f12, f14⟩)
              clear f14 f12 f11 f10 f9 f8 f7 f6 f5 f4 f3 f2 f1 f0 gD gB gA gSt gCt gC gN gW hd
              try simp only
              gi_wp2
              obtain ⟨gW, gN, gC, gCt, gSt, gA, gB, gD, f0, f1, f2, f3, f4, f5, f6, f7, f8, f9, f10, f11, f12, f14⟩ := HF.out
              exact hK (gh, (upd s 55 (.pointer (some ⟨w1.heap.size, 5, none⟩)))) _ ⟨gW, gN, gC, gCt, gSt, gA, gB, gD, f0, f1, f2, f3, f4, (fun _ => rfl), f6, f7, f8, f9, f10, f11, f12, f14⟩
            · rintro L ⟨gh, s⟩ W hu hd hdn ⟨gW, gN, gC, gCt, gSt, gA, gB, gD, f0, f1, f2, f3, f4, f5, f6, f7, f8, f9, f10, f11, f12, f14⟩ K Q hK
              try dsimp only at gW gN gC gCt gSt gA gB gD f0 f1 f2 f3 f4 f5 f6 f7 f8 f9 f10 f11 f12 f14 ⊢
              have e5 := f5 (hd.at_ 5 rfl)
              have G := HIV.out.b7.grown gW (by simp; omega)
              have c0 : W.cell? ⟨w1.heap.size, 0, none⟩ = some (.int .i64 x.to) := G.cell 0
              have c1 : W.cell? ⟨w1.heap.size, 1, none⟩ = some (.int .i64 x.cost.a) := G.cell 1
              have c2 : W.cell? ⟨w1.heap.size, 2, none⟩ = some (.int .i64 x.cost.b) := G.cell 2
              have c3 : W.cell? ⟨w1.heap.size, 3, none⟩ = some (.int .i64 x.cost.c) := G.cell 3
              have c4 : W.cell? ⟨w1.heap.size, 4, none⟩ = some (.int .i64 x.cost.d) := G.cell 4
              have c5 : W.cell? ⟨w1.heap.size, 5, none⟩ = some (.slice x.A x.n x.cap) := G.cell 5
              clear G
              have HF := Lib.hid (show (V.grownBy W (some (Bx + 1))) ∧ (Blk W (Bx + 1) 111 #[.int .i64 v, .int .i64 gh.co.a, .int .i64 gh.co.b, .int .i64 gh.co.c, .int .i64 gh.co.d, .slice gh.sA gh.sn gh.sc]) ∧ (L 13 = false → gh.co = cx) ∧ (L 13 = true → gh.co = addC cx x.cost) ∧ (L 15 = true → gh.sA = gh.A61 ∧ gh.sn = x.n + 1 ∧ gh.sc = gh.c61) ∧ (L 7 = true → L 11 = false → Own W V.heap.size 3 1 gh.A57 x.n gh.c57 (List.map (Value.int .i64) x.links)) ∧ (L 10 = true → L 11 = false → Blk W gh.b60 3 #[.int .i64 lk.id] ∧ V.heap.size ≤ gh.b60) ∧ (L 11 = true → Own W V.heap.size 3 1 gh.A61 (x.n + 1) gh.c61 (List.map (Value.int .i64) (x.links ++ [lk.id]))) ∧ (L 0 = true → s 50 = .pointer (some ⟨Bx + 1, 1, none⟩)) ∧ (L 1 = true → s 51 = .agg #[.int .i64 cx.a, .int .i64 cx.b, .int .i64 cx.c, .int .i64 cx.d]) ∧ (L 2 = true → s 52 = .pointer (some ⟨w1.heap.size, 1, none⟩)) ∧ (L 3 = true → s 53 = .agg #[.int .i64 x.cost.a, .int .i64 x.cost.b, .int .i64 x.cost.c, .int .i64 x.cost.d]) ∧ (L 4 = true → s 54 = .agg #[.int .i64 (addC cx x.cost).a, .int .i64 (addC cx x.cost).b, .int .i64 (addC cx x.cost).c, .int .i64 (addC cx x.cost).d]) ∧ (L 5 = true → s 55 = .pointer (some ⟨w1.heap.size, 5, none⟩)) ∧ (L 6 = true → s 56 = .slice x.A x.n x.cap) ∧ (L 7 = true → s 57 = .slice gh.A57 x.n gh.c57) ∧ (L 8 = true → s 58 = .pointer (some ⟨Bx, 0, none⟩)) ∧ (L 9 = true → s 59 = .int .i64 lk.id) ∧ (L 10 = true → s 60 = .slice (some ⟨gh.b60, 0, none⟩) 1 1) ∧ (L 11 = true → s 61 = .slice gh.A61 (x.n + 1) gh.c61) ∧ (L 12 = true → s 62 = .pointer (some ⟨Bx + 1, 1, none⟩)) ∧ (L 14 = true → s 63 = .pointer (some ⟨Bx + 1, 5, none⟩)) from ⟨gW, gN, gC, gCt, gSt, gA, gB, gD, f0, f1, f2, f3, f4, f5, f6, f7, f8, f9, f10, f11, f12, f14⟩)
              clear f14 f12 f11 f10 f9 f8 f7 f6 f5 f4 f3 f2 f1 f0 gD gB gA gSt gCt gC gN gW hd
              try simp only at e5 ⊢
              gi_wp2
              obtain ⟨gW, gN, gC, gCt, gSt, gA, gB, gD, f0, f1, f2, f3, f4, f5, f6, f7, f8, f9, f10, f11, f12, f14⟩ := HF.out
              exact hK (gh, (upd (upd s 55 (.pointer (some ⟨w1.heap.size, 5, none⟩))) 56 (.slice x.A x.n x.cap))) _ ⟨gW, gN, gC, gCt, gSt, gA, gB, gD, f0, f1, f2, f3, f4, (fun _ => rfl), (fun _ => rfl), f7, f8, f9, f10, f11, f12, f14⟩
            · rintro L ⟨gh, s⟩ W hu hd hdn ⟨gW, gN, gC, gCt, gSt, gA, gB, gD, f0, f1, f2, f3, f4, f5, f6, f7, f8, f9, f10, f11, f12, f14⟩ K Q hK
              try dsimp only at gW gN gC gCt gSt gA gB gD f0 f1 f2 f3 f4 f5 f6 f7 f8 f9 f10 f11 f12 f14 ⊢
              have e6 := f6 (hd.at_ 6 rfl)
              have HXA : Hid (IntsAt W W.heap.size x.A x.n x.links) := Lib.hid ((ints_keep HIV.out.xat (fun b cs ty fr hb hlt => (gW.block b (Array.getElem?_eq_some_iff.1 hb).1 (fun e => by cases e; omega)).trans hb)).more (by have := gW.size; have := HIV.out.b7.lt; omega))
              have HF := Lib.hid (show (V.grownBy W (some (Bx + 1))) ∧ (Blk W (Bx + 1) 111 #[.int .i64 v, .int .i64 gh.co.a, .int .i64 gh.co.b, .int .i64 gh.co.c, .int .i64 gh.co.d, .slice gh.sA gh.sn gh.sc]) ∧ (L 13 = false → gh.co = cx) ∧ (L 13 = true → gh.co = addC cx x.cost) ∧ (L 15 = true → gh.sA = gh.A61 ∧ gh.sn = x.n + 1 ∧ gh.sc = gh.c61) ∧ (L 7 = true → L 11 = false → Own W V.heap.size 3 1 gh.A57 x.n gh.c57 (List.map (Value.int .i64) x.links)) ∧ (L 10 = true → L 11 = false → Blk W gh.b60 3 #[.int .i64 lk.id] ∧ V.heap.size ≤ gh.b60) ∧ (L 11 = true → Own W V.heap.size 3 1 gh.A61 (x.n + 1) gh.c61 (List.map (Value.int .i64) (x.links ++ [lk.id]))) ∧ (L 0 = true → s 50 = .pointer (some ⟨Bx + 1, 1, none⟩)) ∧ (L 1 = true → s 51 = .agg #[.int .i64 cx.a, .int .i64 cx.b, .int .i64 cx.c, .int .i64 cx.d]) ∧ (L 2 = true → s 52 = .pointer (some ⟨w1.heap.size, 1, none⟩)) ∧ (L 3 = true → s 53 = .agg #[.int .i64 x.cost.a, .int .i64 x.cost.b, .int .i64 x.cost.c, .int .i64 x.cost.d]) ∧ (L 4 = true → s 54 = .agg #[.int .i64 (addC cx x.cost).a, .int .i64 (addC cx x.cost).b, .int .i64 (addC cx x.cost).c, .int .i64 (addC cx x.cost).d]) ∧ (L 5 = true → s 55 = .pointer (some ⟨w1.heap.size, 5, none⟩)) ∧ (L 6 = true → s 56 = .slice x.A x.n x.cap) ∧ (L 7 = true → s 57 = .slice gh.A57 x.n gh.c57) ∧ (L 8 = true → s 58 = .pointer (some ⟨Bx, 0, none⟩)) ∧ (L 9 = true → s 59 = .int .i64 lk.id) ∧ (L 10 = true → s 60 = .slice (some ⟨gh.b60, 0, none⟩) 1 1) ∧ (L 11 = true → s 61 = .slice gh.A61 (x.n + 1) gh.c61) ∧ (L 12 = true → s 62 = .pointer (some ⟨Bx + 1, 1, none⟩)) ∧ (L 14 = true → s 63 = .pointer (some ⟨Bx + 1, 5, none⟩)) from ⟨gW, gN, gC, gCt, gSt, gA, gB, gD, f0, f1, f2, f3, f4, f5, f6, f7, f8, f9, f10, f11, f12, f14⟩)
              clear f14 f12 f11 f10 f9 f8 f7 f6 f5 f4 f3 f2 f1 f0 gD gB gA gSt gCt gC gN gW hd
              try simp only at e6 ⊢
              gi_wp2
              refine ⟨trivial, (CallsIn.inRound l' (callsIn_wide.2 (clone_int x.A x.n x.cap x.links W HXA.out (by have := HN9.out; unfold maxLen; omega) (by have := HN9.out; omega)))).mono ?_⟩
              rintro e W2 ⟨A7, c7, rfl, hown, _, hb⟩
              gi_wp2
              obtain ⟨gW, gN, gC, gCt, gSt, gA, gB, gD, f0, f1, f2, f3, f4, f5, f6, f7, f8, f9, f10, f11, f12, f14⟩ := HF.out
              exact hK (({ gh with A57 := A7, c57 := c7 } : AGh), (upd (upd s 56 (.slice x.A x.n x.cap)) 57 (.slice A7 x.n c7))) _ ⟨(grown_below gW hb), (gN.below hb gN.lt), gC, gCt, gSt, (fun _ _ => hown.mono gW.size), (fun h1 h2 => ⟨(gB h1 h2).1.below hb (gB h1 h2).1.lt, (gB h1 h2).2⟩), (fun h1 => (hdn.no 11 7 h1 rfl hu)), f0, f1, f2, f3, f4, f5, (fun _ => rfl), (fun _ => rfl), f8, f9, f10, f11, f12, f14⟩
            · rintro L ⟨gh, s⟩ W hu hd hdn ⟨gW, gN, gC, gCt, gSt, gA, gB, gD, f0, f1, f2, f3, f4, f5, f6, f7, f8, f9, f10, f11, f12, f14⟩ K Q hK
              try dsimp only at gW gN gC gCt gSt gA gB gD f0 f1 f2 f3 f4 f5 f6 f7 f8 f9 f10 f11 f12 f14 ⊢
              have HF := Lib.hid (show (V.grownBy W (some (Bx + 1))) ∧ (Blk W (Bx + 1) 111 #[.int .i64 v, .int .i64 gh.co.a, .int .i64 gh.co.b, .int .i64 gh.co.c, .int .i64 gh.co.d, .slice gh.sA gh.sn gh.sc]) ∧ (L 13 = false → gh.co = cx) ∧ (L 13 = true → gh.co = addC cx x.cost) ∧ (L 15 = true → gh.sA = gh.A61 ∧ gh.sn = x.n + 1 ∧ gh.sc = gh.c61) ∧ (L 7 = true → L 11 = false → Own W V.heap.size 3 1 gh.A57 x.n gh.c57 (List.map (Value.int .i64) x.links)) ∧ (L 10 = true → L 11 = false → Blk W gh.b60 3 #[.int .i64 lk.id] ∧ V.heap.size ≤ gh.b60) ∧ (L 11 = true → Own W V.heap.size 3 1 gh.A61 (x.n + 1) gh.c61 (List.map (Value.int .i64) (x.links ++ [lk.id]))) ∧ (L 0 = true → s 50 = .pointer (some ⟨Bx + 1, 1, none⟩)) ∧ (L 1 = true → s 51 = .agg #[.int .i64 cx.a, .int .i64 cx.b, .int .i64 cx.c, .int .i64 cx.d]) ∧ (L 2 = true → s 52 = .pointer (some ⟨w1.heap.size, 1, none⟩)) ∧ (L 3 = true → s 53 = .agg #[.int .i64 x.cost.a, .int .i64 x.cost.b, .int .i64 x.cost.c, .int .i64 x.cost.d]) ∧ (L 4 = true → s 54 = .agg #[.int .i64 (addC cx x.cost).a, .int .i64 (addC cx x.cost).b, .int .i64 (addC cx x.cost).c, .int .i64 (addC cx x.cost).d]) ∧ (L 5 = true → s 55 = .pointer (some ⟨w1.heap.size, 5, none⟩)) ∧ (L 6 = true → s 56 = .slice x.A x.n x.cap) ∧ (L 7 = true → s 57 = .slice gh.A57 x.n gh.c57) ∧ (L 8 = true → s 58 = .pointer (some ⟨Bx, 0, none⟩)) ∧ (L 9 = true → s 59 = .int .i64 lk.id) ∧ (L 10 = true → s 60 = .slice (some ⟨gh.b60, 0, none⟩) 1 1) ∧ (L 11 = true → s 61 = .slice gh.A61 (x.n + 1) gh.c61) ∧ (L 12 = true → s 62 = .pointer (some ⟨Bx + 1, 1, none⟩)) ∧ (L 14 = true → s 63 = .pointer (some ⟨Bx + 1, 5, none⟩)) from ⟨gW, gN, gC, gCt, gSt, gA, gB, gD, f0, f1, f2, f3, f4, f5, f6, f7, f8, f9, f10, f11, f12, f14⟩)
              clear f14 f12 f11 f10 f9 f8 f7 f6 f5 f4 f3 f2 f1 f0 gD gB gA gSt gCt gC gN gW hd
              try simp only
              gi_wp2
              obtain ⟨gW, gN, gC, gCt, gSt, gA, gB, gD, f0, f1, f2, f3, f4, f5, f6, f7, f8, f9, f10, f11, f12, f14⟩ := HF.out
              exact hK (gh, (upd s 58 (.pointer (some ⟨Bx, 0, none⟩)))) _ ⟨gW, gN, gC, gCt, gSt, gA, gB, gD, f0, f1, f2, f3, f4, f5, f6, f7, (fun _ => rfl), f9, f10, f11, f12, f14⟩
            · rintro L ⟨gh, s⟩ W hu hd hdn ⟨gW, gN, gC, gCt, gSt, gA, gB, gD, f0, f1, f2, f3, f4, f5, f6, f7, f8, f9, f10, f11, f12, f14⟩ K Q hK
              try dsimp only at gW gN gC gCt gSt gA gB gD f0 f1 f2 f3 f4 f5 f6 f7 f8 f9 f10 f11 f12 f14 ⊢
              have e8 := f8 (hd.at_ 8 rfl)
              have G := HBXV.out.grown gW (by simp)
              have c0 : W.cell? ⟨Bx, 0, none⟩ = some (.int .i64 lk.id) := G.cell 0
              clear G
              have HF := Lib.hid (show (V.grownBy W (some (Bx + 1))) ∧ (Blk W (Bx + 1) 111 #[.int .i64 v, .int .i64 gh.co.a, .int .i64 gh.co.b, .int .i64 gh.co.c, .int .i64 gh.co.d, .slice gh.sA gh.sn gh.sc]) ∧ (L 13 = false → gh.co = cx) ∧ (L 13 = true → gh.co = addC cx x.cost) ∧ (L 15 = true → gh.sA = gh.A61 ∧ gh.sn = x.n + 1 ∧ gh.sc = gh.c61) ∧ (L 7 = true → L 11 = false → Own W V.heap.size 3 1 gh.A57 x.n gh.c57 (List.map (Value.int .i64) x.links)) ∧ (L 10 = true → L 11 = false → Blk W gh.b60 3 #[.int .i64 lk.id] ∧ V.heap.size ≤ gh.b60) ∧ (L 11 = true → Own W V.heap.size 3 1 gh.A61 (x.n + 1) gh.c61 (List.map (Value.int .i64) (x.links ++ [lk.id]))) ∧ (L 0 = true → s 50 = .pointer (some ⟨Bx + 1, 1, none⟩)) ∧ (L 1 = true → s 51 = .agg #[.int .i64 cx.a, .int .i64 cx.b, .int .i64 cx.c, .int .i64 cx.d]) ∧ (L 2 = true → s 52 = .pointer (some ⟨w1.heap.size, 1, none⟩)) ∧ (L 3 = true → s 53 = .agg #[.int .i64 x.cost.a, .int .i64 x.cost.b, .int .i64 x.cost.c, .int .i64 x.cost.d]) ∧ (L 4 = true → s 54 = .agg #[.int .i64 (addC cx x.cost).a, .int .i64 (addC cx x.cost).b, .int .i64 (addC cx x.cost).c, .int .i64 (addC cx x.cost).d]) ∧ (L 5 = true → s 55 = .pointer (some ⟨w1.heap.size, 5, none⟩)) ∧ (L 6 = true → s 56 = .slice x.A x.n x.cap) ∧ (L 7 = true → s 57 = .slice gh.A57 x.n gh.c57) ∧ (L 8 = true → s 58 = .pointer (some ⟨Bx, 0, none⟩)) ∧ (L 9 = true → s 59 = .int .i64 lk.id) ∧ (L 10 = true → s 60 = .slice (some ⟨gh.b60, 0, none⟩) 1 1) ∧ (L 11 = true → s 61 = .slice gh.A61 (x.n + 1) gh.c61) ∧ (L 12 = true → s 62 = .pointer (some ⟨Bx + 1, 1, none⟩)) ∧ (L 14 = true → s 63 = .pointer (some ⟨Bx + 1, 5, none⟩)) from ⟨gW, gN, gC, gCt, gSt, gA, gB, gD, f0, f1, f2, f3, f4, f5, f6, f7, f8, f9, f10, f11, f12, f14⟩)
              clear f14 f12 f11 f10 f9 f8 f7 f6 f5 f4 f3 f2 f1 f0 gD gB gA gSt gCt gC gN gW hd
              try simp only at e8 ⊢
              gi_wp2
              obtain ⟨gW, gN, gC, gCt, gSt, gA, gB, gD, f0, f1, f2, f3, f4, f5, f6, f7, f8, f9, f10, f11, f12, f14⟩ := HF.out
              exact hK (gh, (upd (upd s 58 (.pointer (some ⟨Bx, 0, none⟩))) 59 (.int .i64 lk.id))) _ ⟨gW, gN, gC, gCt, gSt, gA, gB, gD, f0, f1, f2, f3, f4, f5, f6, f7, (fun _ => rfl), (fun _ => rfl), f10, f11, f12, f14⟩
            · rintro L ⟨gh, s⟩ W hu hd hdn ⟨gW, gN, gC, gCt, gSt, gA, gB, gD, f0, f1, f2, f3, f4, f5, f6, f7, f8, f9, f10, f11, f12, f14⟩ K Q hK
              try dsimp only at gW gN gC gCt gSt gA gB gD f0 f1 f2 f3 f4 f5 f6 f7 f8 f9 f10 f11 f12 f14 ⊢
              have e9 := f9 (hd.at_ 9 rfl)
              have HF := Lib.hid (show (V.grownBy W (some (Bx + 1))) ∧ (Blk W (Bx + 1) 111 #[.int .i64 v, .int .i64 gh.co.a, .int .i64 gh.co.b, .int .i64 gh.co.c, .int .i64 gh.co.d, .slice gh.sA gh.sn gh.sc]) ∧ (L 13 = false → gh.co = cx) ∧ (L 13 = true → gh.co = addC cx x.cost) ∧ (L 15 = true → gh.sA = gh.A61 ∧ gh.sn = x.n + 1 ∧ gh.sc = gh.c61) ∧ (L 7 = true → L 11 = false → Own W V.heap.size 3 1 gh.A57 x.n gh.c57 (List.map (Value.int .i64) x.links)) ∧ (L 10 = true → L 11 = false → Blk W gh.b60 3 #[.int .i64 lk.id] ∧ V.heap.size ≤ gh.b60) ∧ (L 11 = true → Own W V.heap.size 3 1 gh.A61 (x.n + 1) gh.c61 (List.map (Value.int .i64) (x.links ++ [lk.id]))) ∧ (L 0 = true → s 50 = .pointer (some ⟨Bx + 1, 1, none⟩)) ∧ (L 1 = true → s 51 = .agg #[.int .i64 cx.a, .int .i64 cx.b, .int .i64 cx.c, .int .i64 cx.d]) ∧ (L 2 = true → s 52 = .pointer (some ⟨w1.heap.size, 1, none⟩)) ∧ (L 3 = true → s 53 = .agg #[.int .i64 x.cost.a, .int .i64 x.cost.b, .int .i64 x.cost.c, .int .i64 x.cost.d]) ∧ (L 4 = true → s 54 = .agg #[.int .i64 (addC cx x.cost).a, .int .i64 (addC cx x.cost).b, .int .i64 (addC cx x.cost).c, .int .i64 (addC cx x.cost).d]) ∧ (L 5 = true → s 55 = .pointer (some ⟨w1.heap.size, 5, none⟩)) ∧ (L 6 = true → s 56 = .slice x.A x.n x.cap) ∧ (L 7 = true → s 57 = .slice gh.A57 x.n gh.c57) ∧ (L 8 = true → s 58 = .pointer (some ⟨Bx, 0, none⟩)) ∧ (L 9 = true → s 59 = .int .i64 lk.id) ∧ (L 10 = true → s 60 = .slice (some ⟨gh.b60, 0, none⟩) 1 1) ∧ (L 11 = true → s 61 = .slice gh.A61 (x.n + 1) gh.c61) ∧ (L 12 = true → s 62 = .pointer (some ⟨Bx + 1, 1, none⟩)) ∧ (L 14 = true → s 63 = .pointer (some ⟨Bx + 1, 5, none⟩)) from ⟨gW, gN, gC, gCt, gSt, gA, gB, gD, f0, f1, f2, f3, f4, f5, f6, f7, f8, f9, f10, f11, f12, f14⟩)
              clear f14 f12 f11 f10 f9 f8 f7 f6 f5 f4 f3 f2 f1 f0 gD gB gA gSt gCt gC gN gW hd
              try simp only at e9 ⊢
              gi_wp2
              obtain ⟨gW, gN, gC, gCt, gSt, gA, gB, gD, f0, f1, f2, f3, f4, f5, f6, f7, f8, f9, f10, f11, f12, f14⟩ := HF.out
              have hb : Below W.heap.size W (W.alloc (.cells #[.int .i64 lk.id] 3)) := (Below.refl _ _).alloc (Nat.le_refl _) _
              exact hK (({ gh with b60 := W.heap.size } : AGh), (upd (upd s 59 (.int .i64 lk.id)) 60 (.slice (some ⟨W.heap.size, 0, none⟩) 1 1))) _ ⟨(grown_below gW hb), (gN.below hb gN.lt), gC, gCt, gSt, (fun h1 h2 => (gA h1 h2).below hb (Nat.le_refl _)), (fun _ _ => ⟨Blk.new W _ _, gW.size⟩), (fun h1 => (hdn.no 11 10 h1 rfl hu)), f0, f1, f2, f3, f4, f5, f6, f7, f8, (fun _ => rfl), (fun _ => rfl), f11, f12, f14⟩
            · rintro L ⟨gh, s⟩ W hu hd hdn ⟨gW, gN, gC, gCt, gSt, gA, gB, gD, f0, f1, f2, f3, f4, f5, f6, f7, f8, f9, f10, f11, f12, f14⟩ K Q hK
              try dsimp only at gW gN gC gCt gSt gA gB gD f0 f1 f2 f3 f4 f5 f6 f7 f8 f9 f10 f11 f12 f14 ⊢
              have e7 := f7 (hd.at_ 7 rfl)
              have e10 := f10 (hd.at_ 10 rfl)
              have HOA := Lib.hid (gA (hd.at_ 7 rfl) hu)
              have HBB := Lib.hid (gB (hd.at_ 10 rfl) hu)
              have hVW : V.heap.size ≤ W.heap.size := gW.size
              have h15 : L 15 = false := by
                cases hc : L 15 with
                | false => rfl
                | true => exact hdn.no 15 11 hc rfl hu
              have HF := Lib.hid (show (V.grownBy W (some (Bx + 1))) ∧ (Blk W (Bx + 1) 111 #[.int .i64 v, .int .i64 gh.co.a, .int .i64 gh.co.b, .int .i64 gh.co.c, .int .i64 gh.co.d, .slice gh.sA gh.sn gh.sc]) ∧ (L 13 = false → gh.co = cx) ∧ (L 13 = true → gh.co = addC cx x.cost) ∧ (L 15 = true → gh.sA = gh.A61 ∧ gh.sn = x.n + 1 ∧ gh.sc = gh.c61) ∧ (L 7 = true → L 11 = false → Own W V.heap.size 3 1 gh.A57 x.n gh.c57 (List.map (Value.int .i64) x.links)) ∧ (L 10 = true → L 11 = false → Blk W gh.b60 3 #[.int .i64 lk.id] ∧ V.heap.size ≤ gh.b60) ∧ (L 11 = true → Own W V.heap.size 3 1 gh.A61 (x.n + 1) gh.c61 (List.map (Value.int .i64) (x.links ++ [lk.id]))) ∧ (L 0 = true → s 50 = .pointer (some ⟨Bx + 1, 1, none⟩)) ∧ (L 1 = true → s 51 = .agg #[.int .i64 cx.a, .int .i64 cx.b, .int .i64 cx.c, .int .i64 cx.d]) ∧ (L 2 = true → s 52 = .pointer (some ⟨w1.heap.size, 1, none⟩)) ∧ (L 3 = true → s 53 = .agg #[.int .i64 x.cost.a, .int .i64 x.cost.b, .int .i64 x.cost.c, .int .i64 x.cost.d]) ∧ (L 4 = true → s 54 = .agg #[.int .i64 (addC cx x.cost).a, .int .i64 (addC cx x.cost).b, .int .i64 (addC cx x.cost).c, .int .i64 (addC cx x.cost).d]) ∧ (L 5 = true → s 55 = .pointer (some ⟨w1.heap.size, 5, none⟩)) ∧ (L 6 = true → s 56 = .slice x.A x.n x.cap) ∧ (L 7 = true → s 57 = .slice gh.A57 x.n gh.c57) ∧ (L 8 = true → s 58 = .pointer (some ⟨Bx, 0, none⟩)) ∧ (L 9 = true → s 59 = .int .i64 lk.id) ∧ (L 10 = true → s 60 = .slice (some ⟨gh.b60, 0, none⟩) 1 1) ∧ (L 11 = true → s 61 = .slice gh.A61 (x.n + 1) gh.c61) ∧ (L 12 = true → s 62 = .pointer (some ⟨Bx + 1, 1, none⟩)) ∧ (L 14 = true → s 63 = .pointer (some ⟨Bx + 1, 5, none⟩)) from ⟨gW, gN, gC, gCt, gSt, gA, gB, gD, f0, f1, f2, f3, f4, f5, f6, f7, f8, f9, f10, f11, f12, f14⟩)
              clear f14 f12 f11 f10 f9 f8 f7 f6 f5 f4 f3 f2 f1 f0 gD gB gA gSt gCt gC gN gW hd
              try simp only at e7 e10 ⊢
              refine wpListIn_append_any rfl (.tmp 57) (.tmp 60) (by rfl) elem_int e7 HOA.out e10 (one_int (x := lk.id) HBB.out.1.lt (HBB.out.1.cell 0)) (ints_one _) (by have := HN9.out; unfold maxLen; omega) (by have := HN9.out; omega) hVW ?_
              rintro A8 c8 W2 hown hg hA8
              have hbV : Below V.heap.size W W2 := below_of_grown hg (fun k hk => own_row HOA.out hk) hVW
              gi_wp2
              obtain ⟨gW, gN, gC, gCt, gSt, gA, gB, gD, f0, f1, f2, f3, f4, f5, f6, f7, f8, f9, f10, f11, f12, f14⟩ := HF.out
              exact hK (({ gh with A61 := A8, c61 := c8 } : AGh), (upd (upd (upd s 57 (.slice gh.A57 x.n gh.c57)) 60 (.slice (some ⟨gh.b60, 0, none⟩) 1 1)) 61 (.slice A8 (x.n + 1) c8))) _ ⟨(grown_belowB gW hbV), (gN.below hbV HBYV.out.lt), gC, gCt, (fun h => absurd (h15.symm.trans h) (by decide)), (fun _ h => by cases h), (fun _ h => by cases h), (fun _ => by simpa using hown), f0, f1, f2, f3, f4, f5, f6, (fun _ => rfl), f8, f9, (fun _ => rfl), (fun _ => rfl), f12, f14⟩
            · rintro L ⟨gh, s⟩ W hu hd hdn ⟨gW, gN, gC, gCt, gSt, gA, gB, gD, f0, f1, f2, f3, f4, f5, f6, f7, f8, f9, f10, f11, f12, f14⟩ K Q hK
              try dsimp only at gW gN gC gCt gSt gA gB gD f0 f1 f2 f3 f4 f5 f6 f7 f8 f9 f10 f11 f12 f14 ⊢
              have HF := Lib.hid (show (V.grownBy W (some (Bx + 1))) ∧ (Blk W (Bx + 1) 111 #[.int .i64 v, .int .i64 gh.co.a, .int .i64 gh.co.b, .int .i64 gh.co.c, .int .i64 gh.co.d, .slice gh.sA gh.sn gh.sc]) ∧ (L 13 = false → gh.co = cx) ∧ (L 13 = true → gh.co = addC cx x.cost) ∧ (L 15 = true → gh.sA = gh.A61 ∧ gh.sn = x.n + 1 ∧ gh.sc = gh.c61) ∧ (L 7 = true → L 11 = false → Own W V.heap.size 3 1 gh.A57 x.n gh.c57 (List.map (Value.int .i64) x.links)) ∧ (L 10 = true → L 11 = false → Blk W gh.b60 3 #[.int .i64 lk.id] ∧ V.heap.size ≤ gh.b60) ∧ (L 11 = true → Own W V.heap.size 3 1 gh.A61 (x.n + 1) gh.c61 (List.map (Value.int .i64) (x.links ++ [lk.id]))) ∧ (L 0 = true → s 50 = .pointer (some ⟨Bx + 1, 1, none⟩)) ∧ (L 1 = true → s 51 = .agg #[.int .i64 cx.a, .int .i64 cx.b, .int .i64 cx.c, .int .i64 cx.d]) ∧ (L 2 = true → s 52 = .pointer (some ⟨w1.heap.size, 1, none⟩)) ∧ (L 3 = true → s 53 = .agg #[.int .i64 x.cost.a, .int .i64 x.cost.b, .int .i64 x.cost.c, .int .i64 x.cost.d]) ∧ (L 4 = true → s 54 = .agg #[.int .i64 (addC cx x.cost).a, .int .i64 (addC cx x.cost).b, .int .i64 (addC cx x.cost).c, .int .i64 (addC cx x.cost).d]) ∧ (L 5 = true → s 55 = .pointer (some ⟨w1.heap.size, 5, none⟩)) ∧ (L 6 = true → s 56 = .slice x.A x.n x.cap) ∧ (L 7 = true → s 57 = .slice gh.A57 x.n gh.c57) ∧ (L 8 = true → s 58 = .pointer (some ⟨Bx, 0, none⟩)) ∧ (L 9 = true → s 59 = .int .i64 lk.id) ∧ (L 10 = true → s 60 = .slice (some ⟨gh.b60, 0, none⟩) 1 1) ∧ (L 11 = true → s 61 = .slice gh.A61 (x.n + 1) gh.c61) ∧ (L 12 = true → s 62 = .pointer (some ⟨Bx + 1, 1, none⟩)) ∧ (L 14 = true → s 63 = .pointer (some ⟨Bx + 1, 5, none⟩)) from ⟨gW, gN, gC, gCt, gSt, gA, gB, gD, f0, f1, f2, f3, f4, f5, f6, f7, f8, f9, f10, f11, f12, f14⟩)
              clear f14 f12 f11 f10 f9 f8 f7 f6 f5 f4 f3 f2 f1 f0 gD gB gA gSt gCt gC gN gW hd
              try simp only
              gi_wp2
              obtain ⟨gW, gN, gC, gCt, gSt, gA, gB, gD, f0, f1, f2, f3, f4, f5, f6, f7, f8, f9, f10, f11, f12, f14⟩ := HF.out
              exact hK (gh, (upd s 62 (.pointer (some ⟨Bx + 1, 1, none⟩)))) _ ⟨gW, gN, gC, gCt, gSt, gA, gB, gD, f0, f1, f2, f3, f4, f5, f6, f7, f8, f9, f10, f11, (fun _ => rfl), f14⟩
            · rintro L ⟨gh, s⟩ W hu hd hdn ⟨gW, gN, gC, gCt, gSt, gA, gB, gD, f0, f1, f2, f3, f4, f5, f6, f7, f8, f9, f10, f11, f12, f14⟩ K Q hK
              try dsimp only at gW gN gC gCt gSt gA gB gD f0 f1 f2 f3 f4 f5 f6 f7 f8 f9 f10 f11 f12 f14 ⊢
              have e12 := f12 (hd.at_ 12 rfl)
              have e4 := f4 (hd.at_ 4 rfl)
              have h11 := hd.at_ 11 rfl
              have q1 := gN.cell 1
              have q2 := gN.cell 2
              have q3 := gN.cell 3
              have q4 := gN.cell 4
              have z1 := gN.frozen 1
              have z2 := gN.frozen 2
              have z3 := gN.frozen 3
              have z4 := gN.frozen 4
              have HF := Lib.hid (show (V.grownBy W (some (Bx + 1))) ∧ (Blk W (Bx + 1) 111 #[.int .i64 v, .int .i64 gh.co.a, .int .i64 gh.co.b, .int .i64 gh.co.c, .int .i64 gh.co.d, .slice gh.sA gh.sn gh.sc]) ∧ (L 13 = false → gh.co = cx) ∧ (L 13 = true → gh.co = addC cx x.cost) ∧ (L 15 = true → gh.sA = gh.A61 ∧ gh.sn = x.n + 1 ∧ gh.sc = gh.c61) ∧ (L 7 = true → L 11 = false → Own W V.heap.size 3 1 gh.A57 x.n gh.c57 (List.map (Value.int .i64) x.links)) ∧ (L 10 = true → L 11 = false → Blk W gh.b60 3 #[.int .i64 lk.id] ∧ V.heap.size ≤ gh.b60) ∧ (L 11 = true → Own W V.heap.size 3 1 gh.A61 (x.n + 1) gh.c61 (List.map (Value.int .i64) (x.links ++ [lk.id]))) ∧ (L 0 = true → s 50 = .pointer (some ⟨Bx + 1, 1, none⟩)) ∧ (L 1 = true → s 51 = .agg #[.int .i64 cx.a, .int .i64 cx.b, .int .i64 cx.c, .int .i64 cx.d]) ∧ (L 2 = true → s 52 = .pointer (some ⟨w1.heap.size, 1, none⟩)) ∧ (L 3 = true → s 53 = .agg #[.int .i64 x.cost.a, .int .i64 x.cost.b, .int .i64 x.cost.c, .int .i64 x.cost.d]) ∧ (L 4 = true → s 54 = .agg #[.int .i64 (addC cx x.cost).a, .int .i64 (addC cx x.cost).b, .int .i64 (addC cx x.cost).c, .int .i64 (addC cx x.cost).d]) ∧ (L 5 = true → s 55 = .pointer (some ⟨w1.heap.size, 5, none⟩)) ∧ (L 6 = true → s 56 = .slice x.A x.n x.cap) ∧ (L 7 = true → s 57 = .slice gh.A57 x.n gh.c57) ∧ (L 8 = true → s 58 = .pointer (some ⟨Bx, 0, none⟩)) ∧ (L 9 = true → s 59 = .int .i64 lk.id) ∧ (L 10 = true → s 60 = .slice (some ⟨gh.b60, 0, none⟩) 1 1) ∧ (L 11 = true → s 61 = .slice gh.A61 (x.n + 1) gh.c61) ∧ (L 12 = true → s 62 = .pointer (some ⟨Bx + 1, 1, none⟩)) ∧ (L 14 = true → s 63 = .pointer (some ⟨Bx + 1, 5, none⟩)) from ⟨gW, gN, gC, gCt, gSt, gA, gB, gD, f0, f1, f2, f3, f4, f5, f6, f7, f8, f9, f10, f11, f12, f14⟩)
              clear f14 f12 f11 f10 f9 f8 f7 f6 f5 f4 f3 f2 f1 f0 gD gB gA gSt gCt gC gN gW hd
              try simp only at e12 e4 ⊢
              gi_wp2
              obtain ⟨gW, gN, gC, gCt, gSt, gA, gB, gD, f0, f1, f2, f3, f4, f5, f6, f7, f8, f9, f10, f11, f12, f14⟩ := HF.out
              have hg4 : W.grownBy _ (some (Bx + 1)) := grown_setCell (grown_setCell (grown_setCell (grown_setCell (grown_refl W (some (Bx + 1))) (p := ⟨Bx + 1, 1, none⟩) (.inl rfl) (.int .i64 (addC cx x.cost).a)) (p := ⟨Bx + 1, 2, none⟩) (.inl rfl) (.int .i64 (addC cx x.cost).b)) (p := ⟨Bx + 1, 3, none⟩) (.inl rfl) (.int .i64 (addC cx x.cost).c)) (p := ⟨Bx + 1, 4, none⟩) (.inl rfl) (.int .i64 (addC cx x.cost).d)
              exact hK (({ gh with co := addC cx x.cost } : AGh), (upd (upd s 62 (.pointer (some ⟨Bx + 1, 1, none⟩))) 54 (.agg #[.int .i64 (addC cx x.cost).a, .int .i64 (addC cx x.cost).b, .int .i64 (addC cx x.cost).c, .int .i64 (addC cx x.cost).d]))) _ ⟨(grown_trans gW hg4), (((((gN.set_ 1 _).set_ 2 _).set_ 3 _).set_ 4 _)), (fun h => by cases h), (fun _ => rfl), gSt, (fun _ h => absurd (h11.symm.trans h) (by decide)), (fun _ h => absurd (h11.symm.trans h) (by decide)), (fun h1 => (gD h1).grown hg4 (fun a ha e => by have h2 := ((gD h1).lt ha).1; have h3 := HBYV.out.lt; have h4 := Option.some.inj e; omega)), f0, f1, f2, f3, (fun _ => rfl), f5, f6, f7, f8, f9, f10, f11, (fun _ => rfl), f14⟩
            · rintro L ⟨gh, s⟩ W hu hd hdn ⟨gW, gN, gC, gCt, gSt, gA, gB, gD, f0, f1, f2, f3, f4, f5, f6, f7, f8, f9, f10, f11, f12, f14⟩ K Q hK
              try dsimp only at gW gN gC gCt gSt gA gB gD f0 f1 f2 f3 f4 f5 f6 f7 f8 f9 f10 f11 f12 f14 ⊢
              have HF := Lib.hid (show (V.grownBy W (some (Bx + 1))) ∧ (Blk W (Bx + 1) 111 #[.int .i64 v, .int .i64 gh.co.a, .int .i64 gh.co.b, .int .i64 gh.co.c, .int .i64 gh.co.d, .slice gh.sA gh.sn gh.sc]) ∧ (L 13 = false → gh.co = cx) ∧ (L 13 = true → gh.co = addC cx x.cost) ∧ (L 15 = true → gh.sA = gh.A61 ∧ gh.sn = x.n + 1 ∧ gh.sc = gh.c61) ∧ (L 7 = true → L 11 = false → Own W V.heap.size 3 1 gh.A57 x.n gh.c57 (List.map (Value.int .i64) x.links)) ∧ (L 10 = true → L 11 = false → Blk W gh.b60 3 #[.int .i64 lk.id] ∧ V.heap.size ≤ gh.b60) ∧ (L 11 = true → Own W V.heap.size 3 1 gh.A61 (x.n + 1) gh.c61 (List.map (Value.int .i64) (x.links ++ [lk.id]))) ∧ (L 0 = true → s 50 = .pointer (some ⟨Bx + 1, 1, none⟩)) ∧ (L 1 = true → s 51 = .agg #[.int .i64 cx.a, .int .i64 cx.b, .int .i64 cx.c, .int .i64 cx.d]) ∧ (L 2 = true → s 52 = .pointer (some ⟨w1.heap.size, 1, none⟩)) ∧ (L 3 = true → s 53 = .agg #[.int .i64 x.cost.a, .int .i64 x.cost.b, .int .i64 x.cost.c, .int .i64 x.cost.d]) ∧ (L 4 = true → s 54 = .agg #[.int .i64 (addC cx x.cost).a, .int .i64 (addC cx x.cost).b, .int .i64 (addC cx x.cost).c, .int .i64 (addC cx x.cost).d]) ∧ (L 5 = true → s 55 = .pointer (some ⟨w1.heap.size, 5, none⟩)) ∧ (L 6 = true → s 56 = .slice x.A x.n x.cap) ∧ (L 7 = true → s 57 = .slice gh.A57 x.n gh.c57) ∧ (L 8 = true → s 58 = .pointer (some ⟨Bx, 0, none⟩)) ∧ (L 9 = true → s 59 = .int .i64 lk.id) ∧ (L 10 = true → s 60 = .slice (some ⟨gh.b60, 0, none⟩) 1 1) ∧ (L 11 = true → s 61 = .slice gh.A61 (x.n + 1) gh.c61) ∧ (L 12 = true → s 62 = .pointer (some ⟨Bx + 1, 1, none⟩)) ∧ (L 14 = true → s 63 = .pointer (some ⟨Bx + 1, 5, none⟩)) from ⟨gW, gN, gC, gCt, gSt, gA, gB, gD, f0, f1, f2, f3, f4, f5, f6, f7, f8, f9, f10, f11, f12, f14⟩)
              clear f14 f12 f11 f10 f9 f8 f7 f6 f5 f4 f3 f2 f1 f0 gD gB gA gSt gCt gC gN gW hd
              try simp only
              gi_wp2
              obtain ⟨gW, gN, gC, gCt, gSt, gA, gB, gD, f0, f1, f2, f3, f4, f5, f6, f7, f8, f9, f10, f11, f12, f14⟩ := HF.out
              exact hK (gh, (upd s 63 (.pointer (some ⟨Bx + 1, 5, none⟩)))) _ ⟨gW, gN, gC, gCt, gSt, gA, gB, gD, f0, f1, f2, f3, f4, f5, f6, f7, f8, f9, f10, f11, f12, (fun _ => rfl)⟩
            · rintro L ⟨gh, s⟩ W hu hd hdn ⟨gW, gN, gC, gCt, gSt, gA, gB, gD, f0, f1, f2, f3, f4, f5, f6, f7, f8, f9, f10, f11, f12, f14⟩ K Q hK
              try dsimp only at gW gN gC gCt gSt gA gB gD f0 f1 f2 f3 f4 f5 f6 f7 f8 f9 f10 f11 f12 f14 ⊢
              have e14 := f14 (hd.at_ 14 rfl)
              have e11 := f11 (hd.at_ 11 rfl)
              have h11 := hd.at_ 11 rfl
              have q5 := gN.cell 5
              have z5 := gN.frozen 5
              have HF := Lib.hid (show (V.grownBy W (some (Bx + 1))) ∧ (Blk W (Bx + 1) 111 #[.int .i64 v, .int .i64 gh.co.a, .int .i64 gh.co.b, .int .i64 gh.co.c, .int .i64 gh.co.d, .slice gh.sA gh.sn gh.sc]) ∧ (L 13 = false → gh.co = cx) ∧ (L 13 = true → gh.co = addC cx x.cost) ∧ (L 15 = true → gh.sA = gh.A61 ∧ gh.sn = x.n + 1 ∧ gh.sc = gh.c61) ∧ (L 7 = true → L 11 = false → Own W V.heap.size 3 1 gh.A57 x.n gh.c57 (List.map (Value.int .i64) x.links)) ∧ (L 10 = true → L 11 = false → Blk W gh.b60 3 #[.int .i64 lk.id] ∧ V.heap.size ≤ gh.b60) ∧ (L 11 = true → Own W V.heap.size 3 1 gh.A61 (x.n + 1) gh.c61 (List.map (Value.int .i64) (x.links ++ [lk.id]))) ∧ (L 0 = true → s 50 = .pointer (some ⟨Bx + 1, 1, none⟩)) ∧ (L 1 = true → s 51 = .agg #[.int .i64 cx.a, .int .i64 cx.b, .int .i64 cx.c, .int .i64 cx.d]) ∧ (L 2 = true → s 52 = .pointer (some ⟨w1.heap.size, 1, none⟩)) ∧ (L 3 = true → s 53 = .agg #[.int .i64 x.cost.a, .int .i64 x.cost.b, .int .i64 x.cost.c, .int .i64 x.cost.d]) ∧ (L 4 = true → s 54 = .agg #[.int .i64 (addC cx x.cost).a, .int .i64 (addC cx x.cost).b, .int .i64 (addC cx x.cost).c, .int .i64 (addC cx x.cost).d]) ∧ (L 5 = true → s 55 = .pointer (some ⟨w1.heap.size, 5, none⟩)) ∧ (L 6 = true → s 56 = .slice x.A x.n x.cap) ∧ (L 7 = true → s 57 = .slice gh.A57 x.n gh.c57) ∧ (L 8 = true → s 58 = .pointer (some ⟨Bx, 0, none⟩)) ∧ (L 9 = true → s 59 = .int .i64 lk.id) ∧ (L 10 = true → s 60 = .slice (some ⟨gh.b60, 0, none⟩) 1 1) ∧ (L 11 = true → s 61 = .slice gh.A61 (x.n + 1) gh.c61) ∧ (L 12 = true → s 62 = .pointer (some ⟨Bx + 1, 1, none⟩)) ∧ (L 14 = true → s 63 = .pointer (some ⟨Bx + 1, 5, none⟩)) from ⟨gW, gN, gC, gCt, gSt, gA, gB, gD, f0, f1, f2, f3, f4, f5, f6, f7, f8, f9, f10, f11, f12, f14⟩)
              clear f14 f12 f11 f10 f9 f8 f7 f6 f5 f4 f3 f2 f1 f0 gD gB gA gSt gCt gC gN gW hd
              try simp only at e14 e11 ⊢
              gi_wp2
              obtain ⟨gW, gN, gC, gCt, gSt, gA, gB, gD, f0, f1, f2, f3, f4, f5, f6, f7, f8, f9, f10, f11, f12, f14⟩ := HF.out
              have hg4 : W.grownBy _ (some (Bx + 1)) := grown_setCell (grown_refl W (some (Bx + 1))) (p := ⟨Bx + 1, 5, none⟩) (.inl rfl) (.slice gh.A61 (x.n + 1) gh.c61)
              exact hK (({ gh with sA := gh.A61, sn := x.n + 1, sc := gh.c61 } : AGh), (upd (upd s 63 (.pointer (some ⟨Bx + 1, 5, none⟩))) 61 (.slice gh.A61 (x.n + 1) gh.c61))) _ ⟨(grown_trans gW hg4), ((gN.set_ 5 _)), gC, gCt, (fun _ => ⟨rfl, rfl, rfl⟩), (fun _ h => absurd (h11.symm.trans h) (by decide)), (fun _ h => absurd (h11.symm.trans h) (by decide)), (fun h1 => (gD h1).grown hg4 (fun a ha e => by have h2 := ((gD h1).lt ha).1; have h3 := HBYV.out.lt; have h4 := Option.some.inj e; omega)), f0, f1, f2, f3, f4, f5, f6, f7, f8, f9, f10, (fun _ => rfl), f12, (fun _ => rfl)⟩
          · rintro L ⟨gh, s⟩ W hall ⟨gW, gN, gC, gCt, gSt, gA, gB, gD, f0, f1, f2, f3, f4, f5, f6, f7, f8, f9, f10, f11, f12, f14⟩
            have hco := gCt (hall 13 (by decide))
            have hsl := gSt (hall 15 (by decide))
            have hD := gD (hall 11 (by decide))
            have hN := gN
            rw [hco, hsl.1, hsl.2.1, hsl.2.2] at hN
            clear hco hsl gC gCt gSt gA gB gD gN hall f0 f1 f2 f3 f4 f5 f6 f7 f8 f9 f10 f11 f12 f14
            have HNN := Lib.hid hN
            have HDD := Lib.hid hD
            have HGW := Lib.hid gW
            clear hN hD gW
            obtain ⟨A9, hA9⟩ : ∃ a, gh.A61 = a := ⟨_, rfl⟩
            obtain ⟨c9, hc9⟩ : ∃ a, gh.c61 = a := ⟨_, rfl⟩
            rw [hA9, hc9] at HNN HDD
            clear hA9 hc9
            simp only
            have HKW := Lib.hid (HKV.out.trans (KF.box HGW.out HBYV.out (by omega) (by omega) (by omega) : KF w6.heap.size w.heap.size w4.heap.size (w4.heap.size + 1) V W))
            have HIW := Lib.hid (HIV.out.box HGW.out HBYV.out (by omega) (by omega) (by omega))
            have HNW : Hid (WkOk W (v, ⟨v, addC cx x.cost, x.links ++ [lk.id], A9, x.n + 1, c9⟩)) := Lib.hid (WkOk.new HDD.out HXO.out.len HX8.out HOV.out)
            have o1 := HIW.out.st.bo.cell 0
            have ol := HIW.out.st.bo.lt
            have k0 := HNN.out.cell 0
            have nl := HNN.out.lt
            have hL2 := HIW.out.st.mapO.lookup wkTy HOV.out true
            cases hlk2 : look mo1 v with
            | none =>
              rw [hlk2] at hL2
              simp only [if_true] at hL2
              have hfo : fnOf mo1 v = none := by unfold fnOf; rw [hlk2]; rfl
              have HFO2 := Lib.hid hfo
              clear hlk2 hfo
              have hb1 : Below W.heap.size W (W.alloc (.cells #[.int .i64 0, .int .i64 0, .int .i64 0, .int .i64 0, .int .i64 0, .slice none 0 0] 111)) := (Below.refl _ _).alloc (Nat.le_refl _) _
              have HI2 := Lib.hid (HIW.out.below hb1)
              have HN2 := Lib.hid (HNN.out.below hb1 HNN.out.lt)
              have HK2 := Lib.hid (HKW.out.trans (KF.below hb1 (by have := HIW.out.sz; omega) (by have := HIW.out.sz; omega) (by have := HIW.out.sz; omega)))
              have HNW2 := Lib.hid (HNW.out.below hb1)
              clear hb1
              obtain ⟨w9, hup2, hm9, hg9, hs9⟩ := HI2.out.st.mapO.update (P := Tryd.prog) wkTy HOV.out (⟨v, addC cx x.cost, x.links ++ [lk.id], A9, x.n + 1, c9⟩ : Wk)
              have HI9 := Lib.hid (HI2.out.setO hg9 hm9 (fun q hq => by
                rcases mem_put hq with rfl | hq
                · exact HNW2.out
                · exact HI2.out.st.oko q hq.1))
              have HK9 := Lib.hid (HK2.out.trans (KF.map hg9 (by omega) (by omega) (by have := HI2.out.sz; omega) (by have := HI2.out.sz; omega) (by have := HI2.out.sz; omega) (by omega) (by omega)))
              clear hm9 hg9 hs9
              have p0 := HN2.out.cell 0
              have p1 := HN2.out.cell 1
              have p2 := HN2.out.cell 2
              have p3 := HN2.out.cell 3
              have p4 := HN2.out.cell 4
              have p5 := HN2.out.cell 5
              have b2 := HI2.out.st.bo.cell 0
              gi_wp2
              refine ⟨trivial, ?_⟩
              gi_wp2
              refine ⟨HK9.out.1, HK9.out.2, _, HI9.out, ?_, ?_⟩
              · rw [List.map_append, fnOf_put mo1 v, addC_comm cx x.cost]
                exact HDR.out.take HYM.out HFN.out (fun c' l' h => by rw [HFO2.out] at h; cases h)
              · intro q hq
                rcases mem_put hq with hq | hq
                · cases hq; exact HVP.out
                · exact HKO.out _ hq.1
            | some z =>
              rw [hlk2] at hL2
              simp only [if_true] at hL2
              have hzm := look_mem hlk2
              have hfo : fnOf mo1 v = some (z.cost, z.links) := by unfold fnOf; rw [hlk2]; rfl
              have HFO2 := Lib.hid hfo
              have HZM := Lib.hid hzm
              clear hlk2 hfo hzm
              have hb1 : Below W.heap.size W (W.alloc (.cells #[.int .i64 z.to, .int .i64 z.cost.a, .int .i64 z.cost.b, .int .i64 z.cost.c, .int .i64 z.cost.d, .slice z.A z.n z.cap] 111)) := (Below.refl _ _).alloc (Nat.le_refl _) _
              have HI2 := Lib.hid (HIW.out.below hb1)
              have HN2 := Lib.hid (HNN.out.below hb1 HNN.out.lt)
              have HK2 := Lib.hid (HKW.out.trans (KF.below hb1 (by have := HIW.out.sz; omega) (by have := HIW.out.sz; omega) (by have := HIW.out.sz; omega)))
              have HNW2 := Lib.hid (HNW.out.below hb1)
              have HZ2 := Lib.hid ((HIW.out.st.oko _ HZM.out).below hb1)
              clear hb1
              obtain ⟨cv, hcv⟩ : ∃ cv, cmpW (addC cx x.cost) (x.links ++ [lk.id]) z.cost z.links = cv := ⟨_, rfl⟩
              have hcall := before_any (⟨v, addC cx x.cost, x.links ++ [lk.id], A9, x.n + 1, c9⟩ : Wk) z _ HNW2.out.at_ HZ2.out.at_ (Nat.le_trans HNW2.out.short (by unfold maxLen; omega)) (Nat.le_trans HZ2.out.short (by unfold maxLen; omega))
              dsimp only at hcall
              rw [hcv] at hcall
              have HC := Lib.hid hcall
              have HCV := Lib.hid hcv
              clear hcall hcv
              have p0 := HN2.out.cell 0
              have p1 := HN2.out.cell 1
              have p2 := HN2.out.cell 2
              have p3 := HN2.out.cell 3
              have p4 := HN2.out.cell 4
              have p5 := HN2.out.cell 5
              gi_wp2
              refine ⟨trivial, (CallsIn.inRound l' (callsIn_wide.2 HC.out)).mono ?_⟩
              rintro e W7 ⟨rfl, hb7⟩
              have HI7 := Lib.hid (HI2.out.below hb7)
              have HN7 := Lib.hid (HN2.out.below hb7 HN2.out.lt)
              have HK7 := Lib.hid (HK2.out.trans (KF.below hb7 (by have := HI2.out.sz; omega) (by have := HI2.out.sz; omega) (by have := HI2.out.sz; omega)))
              have HNW7 := Lib.hid (HNW2.out.below hb7)
              clear hb7 p0 p1 p2 p3 p4 p5 o1 k0 hL2
              by_cases hlt : cv < 0
              · obtain ⟨w9, hup2, hm9, hg9, hs9⟩ := HI7.out.st.mapO.update (P := Tryd.prog) wkTy HOV.out (⟨v, addC cx x.cost, x.links ++ [lk.id], A9, x.n + 1, c9⟩ : Wk)
                have HI9 := Lib.hid (HI7.out.setO hg9 hm9 (fun q hq => by
                  rcases mem_put hq with rfl | hq
                  · exact HNW7.out
                  · exact HI7.out.st.oko q hq.1))
                have HK9 := Lib.hid (HK7.out.trans (KF.map hg9 (by omega) (by omega) (by have := HI7.out.sz; omega) (by have := HI7.out.sz; omega) (by have := HI7.out.sz; omega) (by omega) (by omega)))
                clear hm9 hg9 hs9
                have p0 := HN7.out.cell 0
                have p1 := HN7.out.cell 1
                have p2 := HN7.out.cell 2
                have p3 := HN7.out.cell 3
                have p4 := HN7.out.cell 4
                have p5 := HN7.out.cell 5
                have b2 := HI7.out.st.bo.cell 0
                gi_wp2
                refine ⟨HK9.out.1, HK9.out.2, _, HI9.out, ?_, ?_⟩
                · rw [List.map_append, fnOf_put mo1 v, addC_comm cx x.cost]
                  exact HDR.out.take HYM.out HFN.out (fun c' l' h => by
                    rw [HFO2.out] at h
                    cases h
                    have h1 := HCV.out
                    rw [cmpW_key, addC_comm cx x.cost] at h1
                    dsimp only
                    omega)
                · intro q hq
                  rcases mem_put hq with hq | hq
                  · cases hq; exact HVP.out
                  · exact HKO.out _ hq.1
              · gi_wp2
                refine ⟨HK7.out.1, HK7.out.2, mo1, HI7.out, ?_, fun q hq => HKO.out q hq⟩
                rw [List.map_append]
                refine HDR.out.skip (.inr ⟨z.cost, z.links, HFO2.out, ?_⟩)
                have h1 := HCV.out
                rw [cmpW_key, addC_comm cx x.cost] at h1
                have h2 := cmpL_swap (key (addC x.cost cx) (x.links ++ [lk.id])) (key z.cost z.links)
                dsimp only
                omega
      case done =>
        rintro D ys Wr hD rfl ⟨mo1, hI, hDR, hKO⟩ hK
        gi_wp2
        have hno : fnOf ms x.to = none := HS.out.2.2.1.disj x.to (by rw [fnOf_mem (MapIs.nodup wkTy HS.out.1.mapO) HX.out]; simp)
        have hln : (put ms x.to x).length = ms.length + 1 := by
          unfold put
          rw [if_neg]
          · simp
          · intro h
            obtain ⟨q, hq, he⟩ := List.any_eq_true.1 h
            have hq' : (x.to, q.2) ∈ ms := by have e : q.1 = x.to := by simpa using he
                                              rw [← e]; exact hq
            rw [fnOf_mem (MapIs.nodup wkTy HS.out.1.mapS) hq'] at hno
            cases hno
        have hkS : ∀ q ∈ put ms x.to x, q.1 ∈ t.places := fun q hq => by
          rcases mem_put hq with rfl | hq
          · exact HXP.out
          · exact HS.out.2.2.2.1 q hq.1
        have h9 := keys_le hI.st.mapS hkS HFI.out
        refine ⟨⟨put ms x.to x, mo1, _, _, _, _, _, _, _, _, _, _, _, _, _, _, _, _, _, _, _, _, _, _, Lib.hid ⟨hI.st, hI.marks.more (Nat.le_trans hws hD) hK (fun dd hd r hr => Nat.lt_of_lt_of_le (hdl dd hd r hr) hD) #[], hDR.leave (fun y hy => List.mem_map.2 ⟨⟨y, hy⟩, by unfold allOut; simp, rfl⟩), hkS, hKO⟩, rfl⟩, ?_⟩
        rw [mapSize_eq hI.st.mapS, mapSize_eq HS.out.1.mapS, hln]
        omega
      case stop =>
        rintro D cd pre Wr _ _ h _
        exact h.elim
end Go.Proofs.YtahkjagjcogeiaaDoor
/- climb.Wet: the walk by which a skin surely loses the fewest drops. -/
namespace Go.Proofs.YtahkjagjcogeiaaDoor
open Go.RowKit Go.Shelf
set_option linter.unusedVariables false

def wetF (t : Town) (s : Skin) (u v : Int) (dk : Bool) : List Int × Int × Int := if or2 (askE t [u, v]) (dryE s) = 0 then
    match best t dk (lossP s.pace.hi s.step.hi) u v with
    | none => ([], 0, 6)
    | some r => (r.2, max 0 (s.drops - r.1.a), 0)
  else ([], 0, or2 (askE t [u, v]) (dryE s))
def WetOut (w : World) (r : List Int × Int × Int) (x : Ending) (w' : World) : Prop := ∃ (A : Option Addr) (n c : Nat), x = .returned (.tuple #[.slice A n c, .int .i64 r.2.1, .int .i64 r.2.2]) ∧ IntsAt w' w'.heap.size A n r.1 ∧ Below w.heap.size w w'

set_option maxRecDepth 100000 in
set_option maxHeartbeats 16000000 in
theorem wet_in (A : Option Addr) (n c : Nat) (A' : Option Addr) (m d : Nat) (t : Town) (s : Skin) (u v : Int) (dk : Bool) (w : World)
    (hn : n ≤ 1000) (hm : m ≤ 1000) (ht : TownAt w w.heap.size A n A' m t) (hL : Laid w) :
    CallsIn Fence.wide 9 Tryd.prog 13 #[.agg #[.slice A n c, .slice A' m d], .agg #[.int .i64 s.drops, .int .i64 s.pace.lo, .int .i64 s.pace.hi, .int .i64 s.step.lo, .int .i64 s.step.hi], .int .i64 u, .int .i64 v, .bool dk] w (WetOut w (wetF t s u v dk)) := by
  have HT := Lib.hid ht
  have HL := Lib.hid hL
  have hl0 := hL.2.2.2
  clear ht hL
  refine callsIn_of_wp Tryd.func13 rfl trivial ?_ rfl
  simp only [Tryd.ntmps13, List.size_toArray, List.length_cons, List.length_nil, Nat.reduceAdd, Nat.reduceSub, Array.replicate_succ, Array.replicate_zero, List.push_toArray, List.append_toArray, List.nil_append, List.cons_append]
  gi_wp2
  have HLay := Lib.hid (Lay.two w 25 #[.slice A n c, .slice A' m d] 29 #[.int .i64 s.drops, .int .i64 s.pace.lo, .int .i64 s.pace.hi, .int .i64 s.step.lo, .int .i64 s.step.hi])
  generalize ((w.alloc (.cells #[.slice A n c, .slice A' m d] 25)).alloc (.cells #[.int .i64 s.drops, .int .i64 s.pace.lo, .int .i64 s.pace.hi, .int .i64 s.step.lo, .int .i64 s.step.hi] 29)) = w0 at *
  refine wpIn_flow_old [([true, true, true, false, false, true], 3), ([], 4), ([], 6), ([], 7), ([], 8)] [false, false, false, false, false, false, false, false, false, true] [] (by kernel_rfl) (by kernel_rfl) (by kernel_rfl) (below_drewN (Below.refl _ _) 1) ?_
  refine wpFlow_cons (A := ?AF1) rfl ?hq1 ?_
  case hq1 =>
    rintro σ hσ of hof hcl
    have HOF := Lib.hid hof
    have HCL := Lib.hid hcl
    clear hof hcl
    have c0_ : ∀ z, (of z).cell? ⟨w.heap.size, 0, none⟩ = some (.slice A n c) := fun z => ((HLay.out.below (HOF.out z)).blk 0 rfl).cell 0
    have c1_ : ∀ z, (of z).cell? ⟨w.heap.size, 1, none⟩ = some (.slice A' m d) := fun z => ((HLay.out.below (HOF.out z)).blk 0 rfl).cell 1
    have c2_ : ∀ z, (of z).cell? ⟨w.heap.size + 1, 0, none⟩ = some (.int .i64 s.drops) := fun z => ((HLay.out.below (HOF.out z)).blk 1 rfl).cell 0
    have c3_ : ∀ z, (of z).cell? ⟨w.heap.size + 1, 1, none⟩ = some (.int .i64 s.pace.lo) := fun z => ((HLay.out.below (HOF.out z)).blk 1 rfl).cell 1
    have c4_ : ∀ z, (of z).cell? ⟨w.heap.size + 1, 2, none⟩ = some (.int .i64 s.pace.hi) := fun z => ((HLay.out.below (HOF.out z)).blk 1 rfl).cell 2
    have c5_ : ∀ z, (of z).cell? ⟨w.heap.size + 1, 3, none⟩ = some (.int .i64 s.step.lo) := fun z => ((HLay.out.below (HOF.out z)).blk 1 rfl).cell 3
    have c6_ : ∀ z, (of z).cell? ⟨w.heap.size + 1, 4, none⟩ = some (.int .i64 s.step.hi) := fun z => ((HLay.out.below (HOF.out z)).blk 1 rfl).cell 4
    have hfw : ∀ f, Fence.wide.fn f := fun _ => trivial
    simp only [pickB]
    repeat (gi_big_quiet_step (fail))
    refine wpQuietIn_nil ?_
    exact rfl
  intro W1 hW
  replace HLay := Lib.hid (HLay.out.below hW)
  clear hW
  gi_wp2
  refine ⟨trivial, (Below.refl _ _).alloc (Nat.le_refl _) _, ?_⟩
  have hb : Below W1.heap.size W1 (W1.alloc (.cells #[.int .i64 u, .int .i64 v] 3)) := (Below.refl _ _).alloc (Nat.le_refl _) _
  replace HLay := Lib.hid (HLay.out.below hb)
  have HPl := Lib.hid (show IntsAt (W1.alloc (.cells #[.int .i64 u, .int .i64 v] 3)) (W1.alloc (.cells #[.int .i64 u, .int .i64 v] 3)).heap.size (some ⟨W1.heap.size, 0, none⟩) 2 [u, v] from IntsAt.new W1 3 [u, v] _ (by simp))
  obtain ⟨P3, hP⟩ : ∃ P, W1.heap.size = P := ⟨_, rfl⟩
  rw [hP] at HPl ⊢
  generalize (W1.alloc (.cells #[.int .i64 u, .int .i64 v] 3)) = V2 at *
  clear hb hP
  refine wpFlow_cons rfl Quietly.none ?_
  intro W4 hW
  replace HLay := Lib.hid (HLay.out.below hW)
  replace HPl := Lib.hid ((HPl.out.below hW).more hW.size)
  clear hW
  have hlw := (HLay.out.blk 1 rfl).lt
  gi_wp2
  refine ⟨trivial, (callsIn_wide.2 (asked_any A n c A' m d t (some ⟨P3, 0, none⟩) 2 2 [u, v] W4 (by unfold maxLen; omega) (by unfold maxLen; omega) (by decide) ((HT.out.below HLay.out.1).more HLay.out.1.size) HPl.out (HL.out.below HLay.out.1 hl0))).mono ?_⟩
  rintro e W5 ⟨rfl, hb⟩
  replace HLay := Lib.hid (HLay.out.below hb)
  replace HPl := Lib.hid ((HPl.out.below hb).more hb.size)
  gi_wp2
  refine ⟨trivial, hb, ?_⟩
  clear hb
  clear HPl
  refine wpFlow_cons rfl Quietly.none ?_
  intro W6 hW
  replace HLay := Lib.hid (HLay.out.below hW)
  clear hW
  have hlw := (HLay.out.blk 1 rfl).lt
  gi_wp2
  refine ⟨trivial, (callsIn_wide.2 (dry_any s W6)).mono ?_⟩
  rintro e W7 ⟨rfl, hb⟩
  replace HLay := Lib.hid (HLay.out.below hb)
  gi_wp2
  refine ⟨trivial, hb, ?_⟩
  clear hb
  refine wpFlow_cons rfl Quietly.none ?_
  intro W8 hW
  replace HLay := Lib.hid (HLay.out.below hW)
  clear hW
  gi_wp2
  refine ⟨trivial, (Below.refl _ _).alloc (Nat.le_refl _) _, ?_⟩
  have hb : Below W8.heap.size W8 (W8.alloc (.cells #[.int .i64 (askE t [u, v]), .int .i64 (dryE s)] 32)) := (Below.refl _ _).alloc (Nat.le_refl _) _
  replace HLay := Lib.hid (HLay.out.below hb)
  have HOr := Lib.hid (Blk.new W8 32 #[.int .i64 (askE t [u, v]), .int .i64 (dryE s)])
  obtain ⟨P10, hP⟩ : ∃ P, W8.heap.size = P := ⟨_, rfl⟩
  rw [hP] at HOr ⊢
  generalize (W8.alloc (.cells #[.int .i64 (askE t [u, v]), .int .i64 (dryE s)] 32)) = V9 at *
  clear hb hP
  refine wpFlow_cons rfl Quietly.none ?_
  intro W11 hW
  replace HLay := Lib.hid (HLay.out.below hW)
  replace HOr := Lib.hid (HOr.out.below hW HOr.out.lt)
  clear hW
  gi_wp2
  refine ⟨trivial, (callsIn_wide.2 (or_any (askE t [u, v]) (dryE s) P10 W11 HOr.out)).mono ?_⟩
  rintro e W12 ⟨rfl, rfl⟩
  gi_wp2
  refine ⟨trivial, Below.refl _ _, ?_⟩
  clear HOr
  obtain ⟨ee, hee⟩ : ∃ ee, or2 (askE t [u, v]) (dryE s) = ee := ⟨_, rfl⟩
  rw [hee]
  have HEE := Lib.hid hee
  clear hee
  refine wpFlow_nil (A := ?AF2) ?hq2 ?_
  case hq2 =>
    rintro σ hσ of hof hcl
    have HOF := Lib.hid hof
    have HCL := Lib.hid hcl
    clear hof hcl
    have c0_ : ∀ z, (of z).cell? ⟨w.heap.size, 0, none⟩ = some (.slice A n c) := fun z => ((HLay.out.below (HOF.out z)).blk 0 rfl).cell 0
    have c1_ : ∀ z, (of z).cell? ⟨w.heap.size, 1, none⟩ = some (.slice A' m d) := fun z => ((HLay.out.below (HOF.out z)).blk 0 rfl).cell 1
    have c2_ : ∀ z, (of z).cell? ⟨w.heap.size + 1, 0, none⟩ = some (.int .i64 s.drops) := fun z => ((HLay.out.below (HOF.out z)).blk 1 rfl).cell 0
    have c3_ : ∀ z, (of z).cell? ⟨w.heap.size + 1, 1, none⟩ = some (.int .i64 s.pace.lo) := fun z => ((HLay.out.below (HOF.out z)).blk 1 rfl).cell 1
    have c4_ : ∀ z, (of z).cell? ⟨w.heap.size + 1, 2, none⟩ = some (.int .i64 s.pace.hi) := fun z => ((HLay.out.below (HOF.out z)).blk 1 rfl).cell 2
    have c5_ : ∀ z, (of z).cell? ⟨w.heap.size + 1, 3, none⟩ = some (.int .i64 s.step.lo) := fun z => ((HLay.out.below (HOF.out z)).blk 1 rfl).cell 3
    have c6_ : ∀ z, (of z).cell? ⟨w.heap.size + 1, 4, none⟩ = some (.int .i64 s.step.hi) := fun z => ((HLay.out.below (HOF.out z)).blk 1 rfl).cell 4
    have hfw : ∀ f, Fence.wide.fn f := fun _ => trivial
    simp only [pickB]
    repeat (gi_big_quiet_step (fail))
    refine wpQuietIn_nil ?_
    exact rfl
  intro W13 hW
  replace HLay := Lib.hid (HLay.out.below hW)
  clear hW
  simp only [pickB]
  refine wpT_nil ?_
  by_cases h0 : ee = 0
  · subst h0
    have HOK := Lib.hid (or2_zero HEE.out)
    obtain ⟨htb, hhas⟩ := askE_zero HOK.out.1
    have HG := Lib.hid (goodT htb)
    have HGS := Lib.hid (goodS (dryE_zero HOK.out.2))
    have HUV := Lib.hid (hasB_mem hhas)
    have HFA := Lib.hid (lossP_fair (a := s.pace.hi) (b := s.step.hi) HGS.out.pace.2.1 HGS.out.step.2.1)
    have hm20 : m ≤ 20 := by have := HG.out.links; have := HT.out.links.len; omega
    clear htb hhas
    gi_wp2
    clear hlw
    have HLay0 := Lib.hid HLay.out
    refine wpIn_flow_new [([true, true, true, true, true, true, true, true, false, false, true, false, true], 8), ([false, false, false, false, false, false, false, false, false, true], 11)] [false, false, false, false, false, false, false, false, false, false, false, false, false, true, true, true, true, false, false, true] [false, false, false, false, false, false, false, false, false, false, false, false, false, false, false, false, false, false, true] 17 (fun b => .pointer (some ⟨b, 0, none⟩)) 111 #[.int .i64 0, .int .i64 0, .int .i64 0, .int .i64 0, .int .i64 0, .slice none 0 0] (by kernel_rfl) (by kernel_rfl) (by kernel_rfl) (below_drewN (Below.refl _ _) 1) rfl rfl rfl (fun _ _ => rfl) (fun _ _ => rfl) ?_
    refine wpFlow_cons (A := ?AF3) rfl ?hq3 ?_
    case hq3 =>
      rintro σ hσ of hof hcl
      have HOF := Lib.hid hof
      have HCL := Lib.hid hcl
      clear hof hcl
      have c0_ : ∀ z, (of z).cell? ⟨w.heap.size, 0, none⟩ = some (.slice A n c) := fun z => ((HLay.out.below (HOF.out z)).blk 0 rfl).cell 0
      have c1_ : ∀ z, (of z).cell? ⟨w.heap.size, 1, none⟩ = some (.slice A' m d) := fun z => ((HLay.out.below (HOF.out z)).blk 0 rfl).cell 1
      have c2_ : ∀ z, (of z).cell? ⟨w.heap.size + 1, 0, none⟩ = some (.int .i64 s.drops) := fun z => ((HLay.out.below (HOF.out z)).blk 1 rfl).cell 0
      have c3_ : ∀ z, (of z).cell? ⟨w.heap.size + 1, 1, none⟩ = some (.int .i64 s.pace.lo) := fun z => ((HLay.out.below (HOF.out z)).blk 1 rfl).cell 1
      have c4_ : ∀ z, (of z).cell? ⟨w.heap.size + 1, 2, none⟩ = some (.int .i64 s.pace.hi) := fun z => ((HLay.out.below (HOF.out z)).blk 1 rfl).cell 2
      have c5_ : ∀ z, (of z).cell? ⟨w.heap.size + 1, 3, none⟩ = some (.int .i64 s.step.lo) := fun z => ((HLay.out.below (HOF.out z)).blk 1 rfl).cell 3
      have c6_ : ∀ z, (of z).cell? ⟨w.heap.size + 1, 4, none⟩ = some (.int .i64 s.step.hi) := fun z => ((HLay.out.below (HOF.out z)).blk 1 rfl).cell 4
      have hfw : ∀ f, Fence.wide.fn f := fun _ => trivial
      simp only [pickB]
      repeat (gi_big_quiet_step (fail))
      refine wpQuietIn_nil ?_
      exact rfl
    intro W14 hW
    replace HLay := Lib.hid (HLay.out.below hW)
    clear hW
    gi_wp2
    refine ⟨trivial, (callsIn_wide.2 (drips_any s.pace.hi s.step.hi W14 (by have := HGS.out.pace; omega) (by have := HGS.out.step; omega))).mono ?_⟩
    rintro e W15 ⟨⟨b1, b2, rfl, hp1⟩, hb⟩
    replace HLay := Lib.hid (HLay.out.below hb)
    have HP1 := Lib.hid hp1
    clear hp1
    gi_wp2
    refine ⟨trivial, hb, ?_⟩
    clear hb
    refine wpFlow_cons (A := ?AF4) rfl ?hq4 ?_
    case hq4 =>
      rintro σ hσ of hof hcl
      have HOF := Lib.hid hof
      have HCL := Lib.hid hcl
      clear hof hcl
      have c0_ : ∀ z, (of z).cell? ⟨w.heap.size, 0, none⟩ = some (.slice A n c) := fun z => ((HLay.out.below (HOF.out z)).blk 0 rfl).cell 0
      have c1_ : ∀ z, (of z).cell? ⟨w.heap.size, 1, none⟩ = some (.slice A' m d) := fun z => ((HLay.out.below (HOF.out z)).blk 0 rfl).cell 1
      have c2_ : ∀ z, (of z).cell? ⟨w.heap.size + 1, 0, none⟩ = some (.int .i64 s.drops) := fun z => ((HLay.out.below (HOF.out z)).blk 1 rfl).cell 0
      have c3_ : ∀ z, (of z).cell? ⟨w.heap.size + 1, 1, none⟩ = some (.int .i64 s.pace.lo) := fun z => ((HLay.out.below (HOF.out z)).blk 1 rfl).cell 1
      have c4_ : ∀ z, (of z).cell? ⟨w.heap.size + 1, 2, none⟩ = some (.int .i64 s.pace.hi) := fun z => ((HLay.out.below (HOF.out z)).blk 1 rfl).cell 2
      have c5_ : ∀ z, (of z).cell? ⟨w.heap.size + 1, 3, none⟩ = some (.int .i64 s.step.lo) := fun z => ((HLay.out.below (HOF.out z)).blk 1 rfl).cell 3
      have c6_ : ∀ z, (of z).cell? ⟨w.heap.size + 1, 4, none⟩ = some (.int .i64 s.step.hi) := fun z => ((HLay.out.below (HOF.out z)).blk 1 rfl).cell 4
      have hfw : ∀ f, Fence.wide.fn f := fun _ => trivial
      simp only [pickB]
      repeat (gi_big_quiet_step (fail))
      refine wpQuietIn_nil ?_
      exact rfl
    intro W16 hW
    replace HLay := Lib.hid (HLay.out.below hW)
    replace HP1 := Lib.hid (HP1.out.below hW)
    clear hW
    gi_wp2
    refine ⟨trivial, (callsIn_wide.2 (callsIn_wide.1 (all_in A n c A' m d dk _ _ (lossP s.pace.hi s.step.hi) t u W16 hm20 ((HT.out.links.below HLay.out.1).more HLay.out.1.size) HP1.out HG.out.fine HFA.out (HUV.out u (by simp)) HG.out.ids))).mono ?_⟩
    rintro e W17 ⟨r, ms, rfl, hms, hrr, hoks, hfn, hb⟩
    replace HLay := Lib.hid (HLay.out.below hb)
    replace HP1 := Lib.hid (HP1.out.below hb)
    have HMS := Lib.hid hms
    have HOKS := Lib.hid hoks
    have HFN := Lib.hid hfn
    clear hms hrr hoks hfn
    gi_wp2
    refine ⟨trivial, hb, ?_⟩
    clear hb
    clear HP1
    have HOV := Lib.hid (show okI v from okI_of (by have := HG.out.ids v (HUV.out v (by simp)); omega) (by have := HG.out.ids v (HUV.out v (by simp)); omega))
    have HMG : Hid (∀ W, Below W17.heap.size W17 W → WkMap W r ms) := Lib.hid (fun W hb => HMS.out.below hb HMS.out.lt)
    cases hlk : look ms v with
    | none =>
      have HLK := Lib.hid hlk
      clear hlk
      have HBE : Hid (best t dk (lossP s.pace.hi s.step.hi) u v = none) := Lib.hid (by rw [← HFN.out v]; unfold fnOf; rw [HLK.out]; rfl)
      refine wpFlow_nil (A := ?AF5) ?hq5 ?_
      case hq5 =>
        rintro σ hσ of hof hcl
        have HOF := Lib.hid hof
        have HCL := Lib.hid hcl
        clear hof hcl
        have c0_ : ∀ z, (of z).cell? ⟨w.heap.size, 0, none⟩ = some (.slice A n c) := fun z => ((HLay.out.below (HOF.out z)).blk 0 rfl).cell 0
        have c1_ : ∀ z, (of z).cell? ⟨w.heap.size, 1, none⟩ = some (.slice A' m d) := fun z => ((HLay.out.below (HOF.out z)).blk 0 rfl).cell 1
        have c2_ : ∀ z, (of z).cell? ⟨w.heap.size + 1, 0, none⟩ = some (.int .i64 s.drops) := fun z => ((HLay.out.below (HOF.out z)).blk 1 rfl).cell 0
        have c3_ : ∀ z, (of z).cell? ⟨w.heap.size + 1, 1, none⟩ = some (.int .i64 s.pace.lo) := fun z => ((HLay.out.below (HOF.out z)).blk 1 rfl).cell 1
        have c4_ : ∀ z, (of z).cell? ⟨w.heap.size + 1, 2, none⟩ = some (.int .i64 s.pace.hi) := fun z => ((HLay.out.below (HOF.out z)).blk 1 rfl).cell 2
        have c5_ : ∀ z, (of z).cell? ⟨w.heap.size + 1, 3, none⟩ = some (.int .i64 s.step.lo) := fun z => ((HLay.out.below (HOF.out z)).blk 1 rfl).cell 3
        have c6_ : ∀ z, (of z).cell? ⟨w.heap.size + 1, 4, none⟩ = some (.int .i64 s.step.hi) := fun z => ((HLay.out.below (HOF.out z)).blk 1 rfl).cell 4
        have hfw : ∀ f, Fence.wide.fn f := fun _ => trivial
        have hlook : ∀ z, (Instr.lookup 113 (.map (some r)) (.int .i64 v) true).run Tryd.prog (of z) = .ok (.tuple #[zeroWk, .bool false]) (of z) := fun z => by
          have h := (HMG.out _ (HOF.out z)).lookup wkTy HOV.out true
          rw [HLK.out] at h
          exact h
        simp only [pickB]
        repeat (gi_big_quiet_step (fail))
        refine wpQuietIn_nil ?_
        exact rfl
      intro b W18 hW hbg hbb hbi
      replace HLay := Lib.hid (HLay.out.below hW)
      have c0 := hbb.cell 0
      have z0 := hbb.frozen 0
      have c1 := hbb.cell 1
      have z1 := hbb.frozen 1
      have c2 := hbb.cell 2
      have z2 := hbb.frozen 2
      have c3 := hbb.cell 3
      have z3 := hbb.frozen 3
      have c4 := hbb.cell 4
      have z4 := hbb.frozen 4
      have c5 := hbb.cell 5
      have z5 := hbb.frozen 5
      have hbl := hbb.lt
      have hbw : w.heap.size ≤ b := Nat.le_trans (Nat.le_trans HLay0.out.1.size hbg) (Nat.le_refl _)
      simp only [pickB]
      refine wpT_cons ?_
      gi_wp2
      refine wpT_nil ?_
      have R6 := ret6' hbb (Below.refl b W18) (Nat.le_refl _) (.int .i64 0) (.int .i64 0) (.int .i64 0) (.int .i64 0) (.int .i64 0) (.slice none 0 0)
      have HLay9 := Lib.hid (Lay.add (w := w) (bs := [(w.heap.size, 25, #[.slice A n c, .slice A' m d]), (w.heap.size + 1, 29, #[.int .i64 s.drops, .int .i64 s.pace.lo, .int .i64 s.pace.hi, .int .i64 s.step.lo, .int .i64 s.step.hi])]) ⟨HLay.out.1.trans (R6.2.1.mono hbw), fun p hp => ⟨(HLay.out.2 p hp).1, (HLay.out.2 p hp).2.below R6.2.1 (by have := (HLay0.out.2 p hp).2.lt; omega)⟩⟩ hbw R6.1)
      generalize ((((((W18.setCell ⟨b, 0, none⟩ (.int .i64 0)).setCell ⟨b, 1, none⟩ (.int .i64 0)).setCell ⟨b, 2, none⟩ (.int .i64 0)).setCell ⟨b, 3, none⟩ (.int .i64 0)).setCell ⟨b, 4, none⟩ (.int .i64 0)).setCell ⟨b, 5, none⟩ (.slice none 0 0)) = W99 at *
      clear c0 z0 c1 z1 c2 z2 c3 z3 c4 z4 c5 z5 hbl hbb hW hbg R6
      gi_wp2
      have hF : wetF t s u v dk = ([], 0, 6) := by unfold wetF; rw [if_pos HEE.out, HBE.out]
      refine bodyPost_ret (v := .tuple #[.slice none 0 0, .int .i64 0, .int .i64 6]) (by simp [results, Tryd.results13, go_sem]) rfl ?_
      rw [hF]
      exact ⟨none, 0, 0, rfl, Reads.none_, HLay9.out.1⟩
    | some x =>
      have HLK := Lib.hid hlk
      clear hlk
      have HBE : Hid (best t dk (lossP s.pace.hi s.step.hi) u v = some (x.cost, x.links)) := Lib.hid (by rw [← HFN.out v]; unfold fnOf; rw [HLK.out]; rfl)
      have HXO := Lib.hid (HOKS.out _ (look_mem HLK.out))
      have hcb := ((best_first HG.out.fine HFA.out dk u v) |> fun h => by rw [HBE.out] at h; exact h.1.bound HG.out.fine HFA.out)
      have hx9 : x.n ≤ 9 := HXO.out.short
      have HXL : Hid (x.n = x.links.length) := Lib.hid HXO.out.len
      have hca : 0 ≤ x.cost.a ∧ x.cost.a ≤ 2000000 := by have := HXL.out; omega
      obtain ⟨hca0, hca1⟩ := hca
      obtain ⟨hd0, hd1⟩ := HGS.out.drops
      clear hcb
      refine wpFlow_nil (A := ?AF6) ?hq6 ?_
      case hq6 =>
        rintro σ hσ of hof hcl
        have HOF := Lib.hid hof
        have HCL := Lib.hid hcl
        clear hof hcl
        have c0_ : ∀ z, (of z).cell? ⟨w.heap.size, 0, none⟩ = some (.slice A n c) := fun z => ((HLay.out.below (HOF.out z)).blk 0 rfl).cell 0
        have c1_ : ∀ z, (of z).cell? ⟨w.heap.size, 1, none⟩ = some (.slice A' m d) := fun z => ((HLay.out.below (HOF.out z)).blk 0 rfl).cell 1
        have c2_ : ∀ z, (of z).cell? ⟨w.heap.size + 1, 0, none⟩ = some (.int .i64 s.drops) := fun z => ((HLay.out.below (HOF.out z)).blk 1 rfl).cell 0
        have c3_ : ∀ z, (of z).cell? ⟨w.heap.size + 1, 1, none⟩ = some (.int .i64 s.pace.lo) := fun z => ((HLay.out.below (HOF.out z)).blk 1 rfl).cell 1
        have c4_ : ∀ z, (of z).cell? ⟨w.heap.size + 1, 2, none⟩ = some (.int .i64 s.pace.hi) := fun z => ((HLay.out.below (HOF.out z)).blk 1 rfl).cell 2
        have c5_ : ∀ z, (of z).cell? ⟨w.heap.size + 1, 3, none⟩ = some (.int .i64 s.step.lo) := fun z => ((HLay.out.below (HOF.out z)).blk 1 rfl).cell 3
        have c6_ : ∀ z, (of z).cell? ⟨w.heap.size + 1, 4, none⟩ = some (.int .i64 s.step.hi) := fun z => ((HLay.out.below (HOF.out z)).blk 1 rfl).cell 4
        have hfw : ∀ f, Fence.wide.fn f := fun _ => trivial
        have hlook : ∀ z, (Instr.lookup 113 (.map (some r)) (.int .i64 v) true).run Tryd.prog (of z) = .ok (.tuple #[x.val, .bool true]) (of z) := fun z => by
          have h := (HMG.out _ (HOF.out z)).lookup wkTy HOV.out true
          rw [HLK.out] at h
          exact h
        simp only [pickB]
        repeat (gi_big_quiet_step (fail))
        refine wpQuietIn_nil ?_
        exact rfl
      intro b W19 hW hbg hbb hbi
      replace HLay := Lib.hid (HLay.out.below hW)
      replace HXO := Lib.hid (HXO.out.below hW)
      have c0 := hbb.cell 0
      have z0 := hbb.frozen 0
      have c1 := hbb.cell 1
      have z1 := hbb.frozen 1
      have c2 := hbb.cell 2
      have z2 := hbb.frozen 2
      have c3 := hbb.cell 3
      have z3 := hbb.frozen 3
      have c4 := hbb.cell 4
      have z4 := hbb.frozen 4
      have c5 := hbb.cell 5
      have z5 := hbb.frozen 5
      have hbl := hbb.lt
      have hbw : w.heap.size ≤ b := Nat.le_trans (Nat.le_trans HLay0.out.1.size hbg) (Nat.le_refl _)
      simp only [pickB]
      refine wpT_cons ?_
      gi_wp2
      refine wpT_nil ?_
      have R6 := ret6' hbb (Below.refl b W19) (Nat.le_refl _) (.int .i64 x.to) (.int .i64 x.cost.a) (.int .i64 x.cost.b) (.int .i64 x.cost.c) (.int .i64 x.cost.d) (.slice x.A x.n x.cap)
      have HLay9 := Lib.hid (Lay.add (w := w) (bs := [(w.heap.size, 25, #[.slice A n c, .slice A' m d]), (w.heap.size + 1, 29, #[.int .i64 s.drops, .int .i64 s.pace.lo, .int .i64 s.pace.hi, .int .i64 s.step.lo, .int .i64 s.step.hi])]) ⟨HLay.out.1.trans (R6.2.1.mono hbw), fun p hp => ⟨(HLay.out.2 p hp).1, (HLay.out.2 p hp).2.below R6.2.1 (by have := (HLay0.out.2 p hp).2.lt; omega)⟩⟩ hbw R6.1)
      have HX9 := Lib.hid (HXO.out.grownBox R6.2.2 hbb)
      generalize ((((((W19.setCell ⟨b, 0, none⟩ (.int .i64 x.to)).setCell ⟨b, 1, none⟩ (.int .i64 x.cost.a)).setCell ⟨b, 2, none⟩ (.int .i64 x.cost.b)).setCell ⟨b, 3, none⟩ (.int .i64 x.cost.c)).setCell ⟨b, 4, none⟩ (.int .i64 x.cost.d)).setCell ⟨b, 5, none⟩ (.slice x.A x.n x.cap)) = W99 at *
      clear c0 z0 c1 z1 c2 z2 c3 z3 c4 z4 c5 z5 hbl hbb hW hbg R6
      gi_wp2
      replace HLay := HLay9
      refine wpIn_flow_old [] [true, true, true, true, true, true, true, true, true, true, true, true] [] (by kernel_rfl) (by kernel_rfl) (by kernel_rfl) (below_drewN (Below.refl _ _) 1) ?_
      refine wpFlow_nil (A := ?AF7) ?hq7 ?_
      case hq7 =>
        rintro σ hσ of hof hcl
        have HOF := Lib.hid hof
        have HCL := Lib.hid hcl
        clear hof hcl
        have c0_ : ∀ z, (of z).cell? ⟨w.heap.size + 1, 0, none⟩ = some (.int .i64 s.drops) := fun z => ((HLay.out.below (HOF.out z)).blk 1 rfl).cell 0
        have c1_ : ∀ z, (of z).cell? ⟨w.heap.size + 1, 1, none⟩ = some (.int .i64 s.pace.lo) := fun z => ((HLay.out.below (HOF.out z)).blk 1 rfl).cell 1
        have c2_ : ∀ z, (of z).cell? ⟨w.heap.size + 1, 2, none⟩ = some (.int .i64 s.pace.hi) := fun z => ((HLay.out.below (HOF.out z)).blk 1 rfl).cell 2
        have c3_ : ∀ z, (of z).cell? ⟨w.heap.size + 1, 3, none⟩ = some (.int .i64 s.step.lo) := fun z => ((HLay.out.below (HOF.out z)).blk 1 rfl).cell 3
        have c4_ : ∀ z, (of z).cell? ⟨w.heap.size + 1, 4, none⟩ = some (.int .i64 s.step.hi) := fun z => ((HLay.out.below (HOF.out z)).blk 1 rfl).cell 4
        have c5_ : ∀ z, (of z).cell? ⟨b, 0, none⟩ = some (.int .i64 x.to) := fun z => ((HLay.out.below (HOF.out z)).blk 2 rfl).cell 0
        have c6_ : ∀ z, (of z).cell? ⟨b, 1, none⟩ = some (.int .i64 x.cost.a) := fun z => ((HLay.out.below (HOF.out z)).blk 2 rfl).cell 1
        have c7_ : ∀ z, (of z).cell? ⟨b, 2, none⟩ = some (.int .i64 x.cost.b) := fun z => ((HLay.out.below (HOF.out z)).blk 2 rfl).cell 2
        have c8_ : ∀ z, (of z).cell? ⟨b, 3, none⟩ = some (.int .i64 x.cost.c) := fun z => ((HLay.out.below (HOF.out z)).blk 2 rfl).cell 3
        have c9_ : ∀ z, (of z).cell? ⟨b, 4, none⟩ = some (.int .i64 x.cost.d) := fun z => ((HLay.out.below (HOF.out z)).blk 2 rfl).cell 4
        have c10_ : ∀ z, (of z).cell? ⟨b, 5, none⟩ = some (.slice x.A x.n x.cap) := fun z => ((HLay.out.below (HOF.out z)).blk 2 rfl).cell 5
        have hfw : ∀ f, Fence.wide.fn f := fun _ => trivial
        simp only [pickB]
        repeat (gi_big_quiet_step (fail))
        refine wpQuietIn_nil ?_
        exact rfl
      intro W20 hW
      replace HLay := Lib.hid (HLay.out.below hW)
      replace HX9 := Lib.hid (HX9.out.below hW)
      clear hW
      simp only [pickB]
      refine wpT_nil ?_
      gi_wp2
      have hF : wetF t s u v dk = (x.links, max 0 (s.drops - x.cost.a), 0) := by unfold wetF; rw [if_pos HEE.out, HBE.out]
      refine bodyPost_ret (v := .tuple #[.slice x.A x.n x.cap, .int .i64 (max 0 (s.drops - x.cost.a)), .int .i64 0]) (by simp [results, Tryd.results13, go_sem]) rfl ?_
      rw [hF]
      exact ⟨x.A, x.n, x.cap, rfl, HX9.out.at_, HLay.out.1⟩
  · have h1 : (ee != 0) = true := by simpa using h0
    have HE0 := Lib.hid h0
    clear h0
    gi_wp2
    have hF : wetF t s u v dk = ([], 0, ee) := by unfold wetF; rw [HEE.out, if_neg HE0.out]
    refine bodyPost_ret (v := .tuple #[.slice none 0 0, .int .i64 0, .int .i64 ee]) (by simp [results, Tryd.results13, go_sem]) rfl ?_
    rw [hF]
    exact ⟨none, 0, 0, rfl, Reads.none_, HLay.out.1⟩

theorem wet_any (A : Option Addr) (n c : Nat) (A' : Option Addr) (m d : Nat) (t : Town) (s : Skin) (u v : Int) (dk : Bool) (w : World)
    (hn : n ≤ 1000) (hm : m ≤ 1000) (ht : TownAt w w.heap.size A n A' m t) (hL : Laid w) :
    Calls Tryd.prog 13 #[.agg #[.slice A n c, .slice A' m d], .agg #[.int .i64 s.drops, .int .i64 s.pace.lo, .int .i64 s.pace.hi, .int .i64 s.step.lo, .int .i64 s.step.hi], .int .i64 u, .int .i64 v, .bool dk] w (WetOut w (wetF t s u v dk)) :=
  callsIn_wide.1 (wet_in A n c A' m d t s u v dk w hn hm ht hL)
end Go.Proofs.YtahkjagjcogeiaaDoor
/- The answer's costs: its row of entries, plainly. -/
namespace Go.Proofs.YtahkjagjcogeiaaDoor
open Go.RowKit
set_option linter.unusedVariables false

def infC : Cost := ⟨1000000000, 0, 0, 0⟩
def entC (r : Option Cost) : Cost := r.getD infC
def eVals (E : List (Option Cost)) : List Value := E.flatMap fun r => (entC r).vals
theorem eVals_cons (r : Option Cost) (E : List (Option Cost)) : eVals (r :: E) = .int .i64 (entC r).a :: .int .i64 (entC r).b :: .int .i64 (entC r).c :: .int .i64 (entC r).d :: eVals E := by simp [eVals, Cost.vals]
theorem eVals_len (E : List (Option Cost)) : (eVals E).length = E.length * 4 := by
  induction E with
  | nil => rfl
  | cons r E ih => rw [eVals_cons]; simp [ih]; omega
theorem eVals_at {E : List (Option Cost)} {k j : Nat} {r : Option Cost} (h : E[k]? = some r) (hj : j < 4) : (eVals E)[k * 4 + j]? = (entC r).vals[j]? := by
  induction E generalizing k with
  | nil => simp at h
  | cons y l ih =>
    rw [eVals_cons]
    cases k with
    | zero =>
      simp at h
      subst h
      rcases (show j = 0 ∨ j = 1 ∨ j = 2 ∨ j = 3 by omega) with rfl | rfl | rfl | rfl <;> rfl
    | succ k =>
      have e : (k + 1) * 4 + j = (k * 4 + j) + 1 + 1 + 1 + 1 := by omega
      rw [e]
      simp only [List.getElem?_cons_succ]
      exact ih (by simpa using h)
theorem eVals_set {E : List (Option Cost)} {k : Nat} {r : Option Cost} (hk : k < E.length) :
    ((((eVals E).set (k * 4) (.int .i64 (entC r).a)).set (k * 4 + 1) (.int .i64 (entC r).b)).set (k * 4 + 2) (.int .i64 (entC r).c)).set (k * 4 + 3) (.int .i64 (entC r).d) = eVals (E.set k r) := by
  induction E generalizing k with
  | nil => simp at hk
  | cons y l ih =>
    cases k with
    | zero => simp only [eVals_cons, List.set_cons_zero]; rfl
    | succ k =>
      have e : (k + 1) * 4 = k * 4 + 1 + 1 + 1 + 1 := by omega
      have e1 : (k + 1) * 4 + 1 = (k * 4 + 1) + 1 + 1 + 1 + 1 := by omega
      have e2 : (k + 1) * 4 + 2 = (k * 4 + 2) + 1 + 1 + 1 + 1 := by omega
      have e3 : (k + 1) * 4 + 3 = (k * 4 + 3) + 1 + 1 + 1 + 1 := by omega
      rw [e1, e2, e3, e, List.set_cons_succ, eVals_cons, eVals_cons]
      simp only [List.set_cons_succ]
      rw [ih (by simpa using hk)]
theorem eVals_inf {E : List (Option Cost)} {k : Nat} (h : E[k]? = some (some zeroC)) : (eVals E).set (k * 4) (.int .i64 1000000000) = eVals (E.set k none) := by
  induction E generalizing k with
  | nil => simp at h
  | cons y l ih =>
    cases k with
    | zero =>
      simp at h
      subst h
      simp only [eVals_cons, List.set_cons_zero]; rfl
    | succ k =>
      have e : (k + 1) * 4 = k * 4 + 1 + 1 + 1 + 1 := by omega
      rw [e, List.set_cons_succ, eVals_cons, eVals_cons]
      simp only [List.set_cons_succ]
      rw [ih (by simpa using h)]
theorem eVals_zero (n : Nat) : eVals (List.replicate n (some zeroC)) = List.replicate (n * 4) (.int .i64 0) := by
  induction n with
  | zero => rfl
  | succ n ih =>
    have e : (n + 1) * 4 = n * 4 + 1 + 1 + 1 + 1 := by omega
    rw [List.replicate_succ, eVals_cons, ih, e]
    rfl
theorem made_zero (n : Nat) : madeCells #[.int .i64 0, .int .i64 0, .int .i64 0, .int .i64 0] (n * 4) = (eVals (List.replicate n (some zeroC))).toArray := by
  rw [eVals_zero]
  unfold madeCells
  apply Array.ext'
  rw [Array.toList_map]
  apply List.ext_getElem
  · simp
  · intro i h1 h2
    simp
    rcases (show i % 4 = 0 ∨ i % 4 = 1 ∨ i % 4 = 2 ∨ i % 4 = 3 by omega) with h | h | h | h <;> simp [h]

theorem lessC_cmp (x y : Cost) : lessC x y = decide (cmpL x.list y.list < 0) := by
  unfold lessC
  simp only [cmpL, Cost.list]
  by_cases h1 : x.a = y.a
  · by_cases h2 : x.b = y.b
    · by_cases h3 : x.c = y.c
      · by_cases h4 : x.d = y.d
        · simp [h1, h2, h3, h4]
        · rcases (show x.d < y.d ∨ y.d < x.d by omega) with h | h
          · simp [h1, h2, h3, h4, h]
          · simp [h1, h2, h3, h4, h, show ¬ x.d < y.d by omega]
      · rcases (show x.c < y.c ∨ y.c < x.c by omega) with h | h
        · simp [h1, h2, h3, h]
        · simp [h1, h2, h3, h, show ¬ x.c < y.c by omega]
    · rcases (show x.b < y.b ∨ y.b < x.b by omega) with h | h
      · simp [h1, h2, h]
      · simp [h1, h2, h, show ¬ x.b < y.b by omega]
  · rcases (show x.a < y.a ∨ y.a < x.a by omega) with h | h
    · simp [h1, h]
    · simp [h1, h, show ¬ x.a < y.a by omega]

theorem leE_zero {E : List (Option Cost)} {i : Nat} (h : E[i]? = some (some zeroC)) : leE E i zeroC := ⟨zeroC, h, by simp [cmpL, Cost.list]⟩
/-- The start. -/
theorem BSt.start {t : Town} {dk : Bool} {p : Price} {to : Int} {E : List (Option Cost)} (hl : E.length = t.places.length) (h : ∀ (i : Nat) v, t.places[i]? = some v → E[i]? = some (if v = to then some zeroC else none)) : BSt t dk p to 0 0 0 0 E := by
  refine ⟨hl, ?_, ?_, ?_, fun i' hi => absurd hi (by omega), fun v _ x hx => by simp at hx⟩
  · intro i v c hv hc
    rw [h i v hv] at hc
    by_cases e : v = to
    · rw [if_pos e] at hc
      cases hc
      subst e
      exact ⟨[], .nil _, by simp⟩
    · rw [if_neg e] at hc
      cases hc
  · intro i hi
    exact leE_zero (by rw [h i to hi, if_pos rfl])
  · intro i v c l hv hw hlen
    obtain rfl : l = [] := List.length_eq_zero_iff.1 (by omega)
    cases hw
    exact leE_zero (by rw [h i _ hv, if_pos rfl])
/-- An entry is small. -/
structure Little (x : Cost) : Prop where
  a : 0 ≤ x.a ∧ x.a ≤ 250000000
  b : 0 ≤ x.b ∧ x.b ≤ 1000000
  c : 0 ≤ x.c ∧ x.c ≤ 4000000
  d : 0 ≤ x.d ∧ x.d ≤ 2000
theorem BSt.little {t : Town} {dk : Bool} {p : Price} {to : Int} {k i j M : Nat} {E : List (Option Cost)} (h : BSt t dk p to k i j M E) (ht : Fine t) (hp : Fair p) (hM : M ≤ 2000) {q : Nat} {d : Cost} (hd : E[q]? = some (some d)) : Little d := by
  have hq : q < t.places.length := by rw [← h.len]; exact (List.getElem?_eq_some_iff.1 hd).1
  obtain ⟨l, hw, hl⟩ := h.sound q _ d (List.getElem?_eq_getElem hq) hd
  have := hw.bound ht hp
  exact ⟨by omega, by omega, by omega, by omega⟩
/-- A row of entries, in memory. -/
def EAt (w : World) (B : Nat) (A : Option Addr) (n : Nat) (E : List (Option Cost)) : Prop := Reads w B 4 A n (eVals E)
end Go.Proofs.YtahkjagjcogeiaaDoor
