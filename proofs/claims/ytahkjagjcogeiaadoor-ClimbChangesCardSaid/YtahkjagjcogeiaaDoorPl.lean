/- Towns, walks and their order: plain Lean, no program in sight. -/
import Derived.Test.YtahkjagjcogeiaaDoorOrd
namespace Go.Proofs.YtahkjagjcogeiaaDoor
set_option linter.unusedVariables false

structure Link where
  id : Int
  fr : Int
  to : Int
  steps : Int
  paces : Int
  deriving DecidableEq

structure Town where
  places : List Int
  links : List Link
  deriving DecidableEq

structure Cost where
  a : Int
  b : Int
  c : Int
  d : Int
  deriving DecidableEq

structure Price where
  pace : Int
  up : Int
  step : Int
  deriving DecidableEq

def Cost.list (c : Cost) : List Int := [c.a, c.b, c.c, c.d]
def addC (x y : Cost) : Cost := ⟨x.a + y.a, x.b + y.b, x.c + y.c, x.d + y.d⟩
def zeroC : Cost := ⟨0, 0, 0, 0⟩
theorem addC_zero (x : Cost) : addC x zeroC = x := by simp [addC, zeroC]
theorem zero_addC (x : Cost) : addC zeroC x = x := by simp [addC, zeroC]
theorem addC_assoc (x y z : Cost) : addC (addC x y) z = addC x (addC y z) := by simp [addC]; omega
theorem addC_comm (x y : Cost) : addC x y = addC y x := by simp [addC]; omega

/-- What walks are ordered by. -/
def key (c : Cost) (l : List Int) : List Int := c.list ++ l
theorem key_inj {c d : Cost} {l m : List Int} (h : key c l = key d m) : c = d ∧ l = m := by
  obtain ⟨a1, a2, a3, a4⟩ := c
  obtain ⟨b1, b2, b3, b4⟩ := d
  simp [key, Cost.list] at h
  obtain ⟨rfl, rfl, rfl, rfl, rfl⟩ := h
  exact ⟨rfl, rfl⟩
theorem cmp_key (c d : Cost) (l m : List Int) : cmpL (key c l) (key d m) = if cmpL c.list d.list = 0 then cmpL l m else cmpL c.list d.list := cmpL_append l m rfl
theorem list_eq {c d : Cost} (h : cmpL c.list d.list = 0) : c = d := by
  have := cmpL_eq h
  obtain ⟨a1, a2, a3, a4⟩ := c
  obtain ⟨b1, b2, b3, b4⟩ := d
  simp [Cost.list] at this
  obtain ⟨rfl, rfl, rfl, rfl⟩ := this
  rfl
theorem cmpC_unf (c d : Cost) : cmpL c.list d.list = if c.a < d.a then -1 else if d.a < c.a then 1 else if c.b < d.b then -1 else if d.b < c.b then 1 else if c.c < d.c then -1 else if d.c < c.c then 1 else if c.d < d.d then -1 else if d.d < c.d then 1 else 0 := rfl
theorem cmpC_add (c d x : Cost) : cmpL (addC c x).list (addC d x).list = cmpL c.list d.list := by
  rw [cmpC_unf, cmpC_unf]
  unfold addC
  have e : ∀ u v w : Int, (u + w < v + w) = (u < v) := fun u v w => propext ⟨fun h => by omega, fun h => by omega⟩
  simp only [e]
theorem cmpC_add' (c d x : Cost) : cmpL (addC x c).list (addC x d).list = cmpL c.list d.list := by rw [addC_comm x c, addC_comm x d]; exact cmpC_add c d x
theorem cmpC_grow (c x : Cost) (ha : 0 ≤ x.a) (hb : 0 ≤ x.b) (hc : 0 < x.c) : cmpL c.list (addC c x).list = -1 := by
  rw [cmpC_unf]
  unfold addC
  split
  · rfl
  · rw [if_neg (by simp; omega)]
    split
    · rfl
    · rw [if_neg (by simp; omega), if_pos (by simp; omega)]
/-- A link more at the end, or at the head. -/
theorem key_snoc (c d x : Cost) (l m : List Int) (i : Int) (h1 : c.d = l.length) (h2 : d.d = m.length) : cmpL (key (addC c x) (l ++ [i])) (key (addC d x) (m ++ [i])) = cmpL (key c l) (key d m) := by
  rw [cmp_key, cmp_key, cmpC_add]
  split
  · rename_i h
    have := list_eq h
    subst this
    rw [cmpL_append _ _ (by omega), cmpL_refl]
    split
    · rename_i h3; rw [h3]
    · rfl
  · rfl
theorem key_cons (c d x : Cost) (l m : List Int) (i : Int) : cmpL (key (addC x c) (i :: l)) (key (addC x d) (i :: m)) = cmpL (key c l) (key d m) := by
  rw [cmp_key, cmp_key, cmpC_add', cmpL_same]
theorem key_grow (c x : Cost) (l m : List Int) (ha : 0 ≤ x.a) (hb : 0 ≤ x.b) (hc : 0 < x.c) : cmpL (key c l) (key (addC c x) m) < 0 := by
  rw [cmp_key, cmpC_grow c x ha hb hc, if_neg (by decide)]; decide

/-- The place to which a link leads from one, and what it costs. -/
def leads (dk : Bool) (p : Price) (x : Link) (v : Int) : Option (Int × Cost) :=
  if dk = true ∧ 0 < x.steps then none
  else if x.fr = v then some (x.to, ⟨x.paces * p.pace + x.steps * (p.up + p.step), x.steps, x.paces, 1⟩)
  else if x.to = v then some (x.fr, ⟨x.paces * p.pace + x.steps * p.step, 0, x.paces, 1⟩)
  else none

inductive Walk (t : Town) (dk : Bool) (p : Price) : Int → Int → Cost → List Int → Prop
  | nil (v : Int) : Walk t dk p v v zeroC []
  | cons {u m v : Int} {x : Link} {c d : Cost} {l : List Int} (hx : x ∈ t.links) (hl : leads dk p x u = some (m, c)) (h : Walk t dk p m v d l) : Walk t dk p u v (addC c d) (x.id :: l)

/-- What is right about a town, for walks; and about a price. -/
structure Fine (t : Town) : Prop where
  steps : ∀ x ∈ t.links, 0 ≤ x.steps ∧ x.steps ≤ 500
  paces : ∀ x ∈ t.links, 1 ≤ x.paces ∧ x.paces ≤ 2000
  ends : ∀ x ∈ t.links, x.fr ∈ t.places ∧ x.to ∈ t.places
  ids : t.links.Pairwise fun x y => x.id < y.id
  size : t.places.length ≤ 9
structure Fair (p : Price) : Prop where
  pace : 0 ≤ p.pace ∧ p.pace ≤ 50
  up : 0 ≤ p.up
  step : 0 ≤ p.step
  both : p.up + p.step ≤ 50

section
variable {t : Town} {dk : Bool} {p : Price} {u v m : Int} {c d : Cost} {l k : List Int} {x : Link}
theorem leads_cost (hx : x ∈ t.links) (ht : Fine t) (hp : Fair p) (h : leads dk p x u = some (m, c)) : 0 ≤ c.a ∧ c.a ≤ 125000 ∧ 0 ≤ c.b ∧ c.b ≤ 500 ∧ 1 ≤ c.c ∧ c.c ≤ 2000 ∧ c.d = 1 := by
  have h1 := ht.steps x hx
  have h2 := ht.paces x hx
  obtain ⟨hp1, hp2, hp3, hp4⟩ := hp
  have m1 : 0 ≤ x.paces * p.pace ∧ x.paces * p.pace ≤ 2000 * 50 := ⟨Int.mul_nonneg (by omega) (by omega), Int.mul_le_mul (by omega) (by omega) (by omega) (by omega)⟩
  have m2 : 0 ≤ x.steps * (p.up + p.step) ∧ x.steps * (p.up + p.step) ≤ 500 * 50 := ⟨Int.mul_nonneg (by omega) (by omega), Int.mul_le_mul (by omega) (by omega) (by omega) (by omega)⟩
  have m3 : 0 ≤ x.steps * p.step ∧ x.steps * p.step ≤ 500 * 50 := ⟨Int.mul_nonneg (by omega) (by omega), Int.mul_le_mul (by omega) (by omega) (by omega) (by omega)⟩
  unfold leads at h
  split at h
  · cases h
  · split at h
    · cases h; refine ⟨?_, ?_, ?_, ?_, ?_, ?_, rfl⟩ <;> simp <;> omega
    · split at h
      · cases h; refine ⟨?_, ?_, ?_, ?_, ?_, ?_, rfl⟩ <;> simp <;> omega
      · cases h
theorem leads_ends (hx : x ∈ t.links) (ht : Fine t) (h : leads dk p x u = some (m, c)) : u ∈ t.places ∧ m ∈ t.places := by
  have := ht.ends x hx
  unfold leads at h
  split at h
  · cases h
  · split at h
    · rename_i e; cases h; subst e; exact ⟨this.1, this.2⟩
    · split at h
      · rename_i e; cases h; subst e; exact ⟨this.2, this.1⟩
      · cases h
theorem Walk.append (h : Walk t dk p u v c l) : ∀ {m : Int} {d : Cost} {k : List Int}, Walk t dk p v m d k → Walk t dk p u m (addC c d) (l ++ k) := by
  induction h with
  | nil v => intro m d k h; rw [zero_addC]; exact h
  | cons hx hl _ ih => intro m d k h; rw [addC_assoc]; exact .cons hx hl (ih h)
theorem Walk.snoc (h : Walk t dk p u v c l) (hx : x ∈ t.links) (hl : leads dk p x v = some (m, d)) : Walk t dk p u m (addC c d) (l ++ [x.id]) := by
  have := h.append (.cons hx hl (.nil m))
  rwa [addC_zero] at this
theorem Walk.bound (h : Walk t dk p u v c l) (ht : Fine t) (hp : Fair p) : 0 ≤ c.a ∧ c.a ≤ 125000 * l.length ∧ 0 ≤ c.b ∧ c.b ≤ 500 * l.length ∧ l.length ≤ c.c ∧ c.c ≤ 2000 * l.length ∧ c.d = l.length := by
  induction h with
  | nil v => simp [zeroC]
  | cons hx hl _ ih =>
    have := leads_cost hx ht hp hl
    obtain ⟨i1, i2, i3, i4, i5, i6, i7⟩ := ih
    simp only [addC, List.length_cons]
    omega
theorem Walk.ends (h : Walk t dk p u v c l) (ht : Fine t) : (u = v ∧ l = []) ∨ (u ∈ t.places ∧ v ∈ t.places) := by
  induction h with
  | nil v => exact .inl ⟨rfl, rfl⟩
  | cons hx hl _ ih =>
    have := leads_ends hx ht hl
    rcases ih with ⟨rfl, _⟩ | ih
    · exact .inr this
    · exact .inr ⟨this.1, ih.2⟩
/-- Out of a set of places. -/
theorem Walk.cross (S : Int → Prop) (h : Walk t dk p u v c l) : S u → ¬ S v → ∃ m n x c1 c2 c3 l1 l2, Walk t dk p u m c1 l1 ∧ S m ∧ x ∈ t.links ∧ leads dk p x m = some (n, c2) ∧ ¬ S n ∧ Walk t dk p n v c3 l2 ∧ c = addC (addC c1 c2) c3 ∧ l = (l1 ++ [x.id]) ++ l2 := by
  induction h with
  | nil v => intro h1 h2; exact absurd h1 h2
  | @cons u m v x c d l hx hl hw ih =>
    intro h1 h2
    by_cases hm : S m
    · obtain ⟨m', n, y, c1, c2, c3, l1, l2, w1, s1, hy, ly, sn, w2, e1, e2⟩ := ih hm h2
      refine ⟨m', n, y, addC c c1, c2, c3, x.id :: l1, l2, .cons hx hl w1, s1, hy, ly, sn, w2, ?_, ?_⟩
      · rw [e1, addC_assoc, addC_assoc, addC_assoc]
      · rw [e2]; simp
    · exact ⟨u, m, x, zeroC, c, d, [], l, .nil u, h1, hx, hl, hm, hw, by rw [zero_addC], by simp⟩
end

/-- r tells the walk before all others; none: there is none. -/
def First (t : Town) (dk : Bool) (p : Price) (u v : Int) : Option (Cost × List Int) → Prop
  | none => ∀ c l, ¬ Walk t dk p u v c l
  | some (c, l) => Walk t dk p u v c l ∧ ∀ c' l', Walk t dk p u v c' l' → cmpL (key c l) (key c' l') ≤ 0

section
variable {t : Town} {dk : Bool} {p : Price} {u v m : Int} {c d : Cost} {l k : List Int} {x : Link}
theorem First.unique {r r' : Option (Cost × List Int)} (h : First t dk p u v r) (h' : First t dk p u v r') : r = r' := by
  match r, r', h, h' with
  | none, none, _, _ => rfl
  | none, some (c, l), h, h' => exact absurd h'.1 (h c l)
  | some (c, l), none, h, h' => exact absurd h.1 (h' c l)
  | some (c, l), some (d, k), h, h' =>
    have := cmpL_antisymm (h.2 _ _ h'.1) (h'.2 _ _ h.1)
    obtain ⟨rfl, rfl⟩ := key_inj this
    rfl
/-- Each link more costs more. -/
theorem Walk.longer (h : Walk t dk p u v c l) (ht : Fine t) (hp : Fair p) (d : Cost) (k m : List Int) : cmpL (key d k) (key (addC d c) m) < 0 ∨ (l = [] ∧ c = zeroC ∧ u = v) := by
  have hb := h.bound ht hp
  cases h with
  | nil v => exact .inr ⟨rfl, rfl, rfl⟩
  | cons hx hl hw =>
    refine .inl (key_grow d _ k m hb.1 hb.2.2.1 ?_)
    have := hb.2.2.2.2.1
    simp at this ⊢
    omega
theorem Walk.longer' (h : Walk t dk p u v c l) (ht : Fine t) (hp : Fair p) (d : Cost) (k : List Int) : cmpL (key d k) (key (addC d c) (k ++ l)) ≤ 0 := by
  rcases h.longer ht hp d k (k ++ l) with h1 | ⟨rfl, rfl, _⟩
  · omega
  · rw [addC_zero, List.append_nil, cmpL_refl]; omega

/-- THE STEP: the least of all open walks is the first one to its place. -/
structure DInv (t : Town) (dk : Bool) (p : Price) (s : Int) (S O : Int → Option (Cost × List Int)) : Prop where
  disj : ∀ v, O v ≠ none → S v = none
  sFirst : ∀ v r, S v = some r → First t dk p s v (some r)
  oWalk : ∀ v c l, O v = some (c, l) → Walk t dk p s v c l
  cross : ∀ u c l, S u = some (c, l) → ∀ x ∈ t.links, ∀ n d, leads dk p x u = some (n, d) → S n ≠ none ∨ ∃ c' l', O n = some (c', l') ∧ cmpL (key c' l') (key (addC c d) (l ++ [x.id])) ≤ 0
  start : S s ≠ none ∨ O s = some (zeroC, [])

theorem DInv.least {s : Int} {S O : Int → Option (Cost × List Int)} (h : DInv t dk p s S O) (ht : Fine t) (hp : Fair p) {c : Cost} {l : List Int} (ho : O v = some (c, l))
    (hmin : ∀ v' c' l', O v' = some (c', l') → cmpL (key c l) (key c' l') ≤ 0) : First t dk p s v (some (c, l)) := by
  refine ⟨h.oWalk _ _ _ ho, fun c' l' hw => ?_⟩
  rcases h.start with hs | hs
  · have hv : ¬ S v ≠ none := fun hc => hc (h.disj v (by rw [ho]; simp))
    obtain ⟨m, n, x, c1, c2, c3, l1, l2, w1, sm, hx, lx, sn, w2, rfl, rfl⟩ := hw.cross (fun v => S v ≠ none) hs hv
    cases hm : S m with
    | none => exact absurd hm sm
    | some r =>
      obtain ⟨cm, lm⟩ := r
      have fm := h.sFirst m _ hm
      rcases h.cross m cm lm hm x hx n c2 lx with hn | ⟨cn, ln, hn, hle⟩
      · exact absurd hn sn
      · have k1 := hmin n cn ln hn
        have k2 := fm.2 _ _ w1
        have k3 : cmpL (key (addC cm c2) (lm ++ [x.id])) (key (addC c1 c2) (l1 ++ [x.id])) ≤ 0 := by
          rw [key_snoc _ _ _ _ _ _ (fm.1.bound ht hp).2.2.2.2.2.2 (w1.bound ht hp).2.2.2.2.2.2]; exact k2
        exact cmpL_trans (cmpL_trans (cmpL_trans k1 hle) k3) (w2.longer' ht hp _ _)
  · have k1 := hmin s _ _ hs
    have := hw.longer' ht hp zeroC []
    rw [zero_addC, List.nil_append] at this
    exact cmpL_trans k1 this

theorem DInv.over {s : Int} {S O : Int → Option (Cost × List Int)} (h : DInv t dk p s S O) (hO : ∀ v, O v = none) (v : Int) : First t dk p s v (S v) := by
  cases hv : S v with
  | some r => exact h.sFirst v r hv
  | none =>
    intro c l hw
    rcases h.start with hs | hs
    · obtain ⟨m, n, x, c1, c2, c3, l1, l2, w1, sm, hx, lx, sn, _⟩ := hw.cross (fun v => S v ≠ none) hs (by simp [hv])
      cases hm : S m with
      | none => exact absurd hm sm
      | some r =>
        obtain ⟨cm, lm⟩ := r
        rcases h.cross m cm lm hm x hx n c2 lx with hn | ⟨cn, ln, hn, _⟩
        · exact absurd hn sn
        · rw [hO n] at hn; cases hn
    · rw [hO s] at hs; cases hs

/-- Within the round: the links of w (at place a) up to k are done. -/
structure DMid (t : Town) (dk : Bool) (p : Price) (s a : Int) (cw : Cost) (lw : List Int) (k : Nat) (S O : Int → Option (Cost × List Int)) : Prop where
  disj : ∀ v, O v ≠ none → S v = none
  sFirst : ∀ v r, S v = some r → First t dk p s v (some r)
  oWalk : ∀ v c l, O v = some (c, l) → Walk t dk p s v c l
  cross : ∀ u c l, S u = some (c, l) → u ≠ a → ∀ x ∈ t.links, ∀ n d, leads dk p x u = some (n, d) → S n ≠ none ∨ ∃ c' l', O n = some (c', l') ∧ cmpL (key c' l') (key (addC c d) (l ++ [x.id])) ≤ 0
  now : ∀ x ∈ t.links.take k, ∀ n d, leads dk p x a = some (n, d) → S n ≠ none ∨ ∃ c' l', O n = some (c', l') ∧ cmpL (key c' l') (key (addC cw d) (lw ++ [x.id])) ≤ 0
  start : S s ≠ none
  here : S a = some (cw, lw)

def setF {β : Type} (f : Int → Option β) (v : Int) (r : Option β) : Int → Option β := fun u => if u = v then r else f u
theorem setF_same {β : Type} (f : Int → Option β) (v : Int) (r : Option β) : setF f v r v = r := by simp [setF]
theorem setF_other {β : Type} (f : Int → Option β) {v u : Int} (r : Option β) (h : u ≠ v) : setF f v r u = f u := by simp [setF, h]

theorem DInv.enter {s a : Int} {S O : Int → Option (Cost × List Int)} (h : DInv t dk p s S O) (ht : Fine t) (hp : Fair p) {c : Cost} {l : List Int} (ho : O a = some (c, l))
    (hmin : ∀ v' c' l', O v' = some (c', l') → cmpL (key c l) (key c' l') ≤ 0) : DMid t dk p s a c l 0 (setF S a (some (c, l))) (setF O a none) := by
  have hf := h.least ht hp ho hmin
  refine ⟨?_, ?_, ?_, ?_, ?_, ?_, setF_same _ _ _⟩
  · intro v hv
    by_cases e : v = a
    · subst e; rw [setF_same] at hv; exact absurd rfl hv
    · rw [setF_other _ _ e] at hv ⊢; exact h.disj v hv
  · intro v r hr
    by_cases e : v = a
    · subst e; rw [setF_same] at hr; cases hr; exact hf
    · rw [setF_other _ _ e] at hr; exact h.sFirst v r hr
  · intro v c' l' hr
    by_cases e : v = a
    · subst e; rw [setF_same] at hr; cases hr
    · rw [setF_other _ _ e] at hr; exact h.oWalk v _ _ hr
  · intro u c' l' hu hne x hx n d hl
    rw [setF_other _ _ hne] at hu
    by_cases e : n = a
    · subst e; left; rw [setF_same]; simp
    · rw [setF_other _ _ e, setF_other _ _ e]
      exact h.cross u c' l' hu x hx n d hl
  · intro x hx; simp at hx
  · by_cases e : s = a
    · subst e; rw [setF_same]; simp
    · rw [setF_other _ _ e]
      rcases h.start with hs | hs
      · exact hs
      · exfalso
        have h1 := hmin s _ _ hs
        have h2 := (h.oWalk a _ _ ho).longer ht hp zeroC [] l
        rw [zero_addC] at h2
        rcases h2 with h2 | ⟨_, _, h2⟩
        · have := cmpL_swap (key c l) (key zeroC [])
          omega
        · exact e h2

theorem DMid.leave {s a : Int} {S O : Int → Option (Cost × List Int)} {cw : Cost} {lw : List Int} {k : Nat} (h : DMid t dk p s a cw lw k S O) (hk : t.links.length ≤ k) : DInv t dk p s S O := by
  refine ⟨h.disj, h.sFirst, h.oWalk, ?_, .inl h.start⟩
  intro u c l hu x hx n d hl
  by_cases e : u = a
  · subst e
    rw [h.here] at hu
    cases hu
    exact h.now x (by rw [List.take_of_length_le hk]; exact hx) n d hl
  · exact h.cross u c l hu e x hx n d hl

/-- A link that leads nowhere new. -/
theorem DMid.skip {s a : Int} {S O : Int → Option (Cost × List Int)} {cw : Cost} {lw : List Int} {k : Nat} (h : DMid t dk p s a cw lw k S O) (hx : t.links[k]? = some x)
    (hno : ∀ n d, leads dk p x a = some (n, d) → S n ≠ none ∨ ∃ c' l', O n = some (c', l') ∧ cmpL (key c' l') (key (addC cw d) (lw ++ [x.id])) ≤ 0) : DMid t dk p s a cw lw (k + 1) S O := by
  refine ⟨h.disj, h.sFirst, h.oWalk, h.cross, ?_, h.start, h.here⟩
  intro y hy n d hl
  obtain ⟨hk, rfl⟩ := List.getElem?_eq_some_iff.1 hx
  rw [List.take_succ_eq_append_getElem hk, List.mem_append] at hy
  rcases hy with hy | hy
  · exact h.now y hy n d hl
  · simp at hy; subst hy; exact hno n d hl

/-- A link that leads to a place by a walk that is before. -/
theorem DMid.take {s a n : Int} {S O : Int → Option (Cost × List Int)} {cw dx : Cost} {lw : List Int} {k : Nat} (h : DMid t dk p s a cw lw k S O) (hx : t.links[k]? = some x) (hl : leads dk p x a = some (n, dx)) (hn : S n = none)
    (hbe : ∀ c' l', O n = some (c', l') → cmpL (key (addC cw dx) (lw ++ [x.id])) (key c' l') ≤ 0) : DMid t dk p s a cw lw (k + 1) S (setF O n (some (addC cw dx, lw ++ [x.id]))) := by
  have hxm : x ∈ t.links := List.mem_of_getElem? hx
  have hw : Walk t dk p s n (addC cw dx) (lw ++ [x.id]) := (h.sFirst a _ h.here).1.snoc hxm hl
  have old : ∀ {m : Int} {K : List Int}, (S m ≠ none ∨ ∃ c' l', O m = some (c', l') ∧ cmpL (key c' l') K ≤ 0) → S m ≠ none ∨ ∃ c' l', setF O n (some (addC cw dx, lw ++ [x.id])) m = some (c', l') ∧ cmpL (key c' l') K ≤ 0 := by
    intro m K h1
    rcases h1 with h1 | ⟨c', l', h1, h2⟩
    · exact .inl h1
    · by_cases e : m = n
      · subst e
        exact .inr ⟨_, _, setF_same _ _ _, cmpL_trans (hbe _ _ h1) h2⟩
      · exact .inr ⟨c', l', by rw [setF_other _ _ e]; exact h1, h2⟩
  refine ⟨?_, h.sFirst, ?_, ?_, ?_, h.start, h.here⟩
  · intro v hv
    by_cases e : v = n
    · subst e; exact hn
    · rw [setF_other _ _ e] at hv; exact h.disj v hv
  · intro v c' l' hr
    by_cases e : v = n
    · subst e; rw [setF_same] at hr; cases hr; exact hw
    · rw [setF_other _ _ e] at hr; exact h.oWalk v _ _ hr
  · intro u c' l' hu hne y hy m d hl'
    exact old (h.cross u c' l' hu hne y hy m d hl')
  · intro y hy m d hl'
    obtain ⟨hk, rfl⟩ := List.getElem?_eq_some_iff.1 hx
    rw [List.take_succ_eq_append_getElem hk, List.mem_append] at hy
    rcases hy with hy | hy
    · exact old (h.now y hy m d hl')
    · simp at hy; subst hy
      rw [hl] at hl'
      cases hl'
      exact .inr ⟨_, _, setF_same _ _ _, by rw [cmpL_refl]; omega⟩

theorem DInv.init (s : Int) : DInv t dk p s (fun _ => none) (fun v => if v = s then some (zeroC, []) else none) := by
  refine ⟨fun _ _ => rfl, fun _ _ h => (by cases h), ?_, fun _ _ _ h => (by cases h), .inr (by simp)⟩
  intro v c l h
  split at h
  · rename_i e; cases h; subst e; exact .nil _
  · cases h
end
end Go.Proofs.YtahkjagjcogeiaaDoor
