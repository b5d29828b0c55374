/- Part 3 of the texts of this claim, joined. -/
import Derived.Deep.RegionHeld3
import Derived.OwnWalk
import Derived.Shelf.Abstract
import Derived.Scope
import Derived.Test.YtahkjagjcogeiaaGreatDoorZb2
set_option linter.unusedVariables false
/- Short walks, the first walk by trial of all, costs by repetition: plain Lean. -/
namespace Go.Proofs.YtahkjagjcogeiaaGreatDoor

/-- A walk that comes to no place twice. -/
inductive SW (t : Town) (dk : Bool) (p : Price) : Int → Int → Cost → List Int → List Int → Prop
 | nil (v : Int) : SW t dk p v v zeroC [] [v]
 | cons {u m v : Int} {x : Link} {c d : Cost} {l vs : List Int} (hx : x ∈ t.links) (hl : leads dk p x u = some (m, c)) (h : SW t dk p m v d l vs) (hu : u ∉ vs) : SW t dk p u v (addC c d) (x.id :: l) (u :: vs)

theorem nodup_le : ∀ {a b : List Int}, a.Nodup → (∀ x ∈ a, x ∈ b) → a.length ≤ b.length
 | [], _, _, _ => by simp
 | x :: a, b, h, hs => by
  rw [List.nodup_cons] at h
  have hb : x ∈ b := hs x (by simp)
  have := nodup_le (a := a) (b := b.erase x) h.2 (fun y hy => (List.mem_erase_of_ne (fun e => h.1 (by rw [← e]; exact hy))).2 (hs y (by simp [hy])))
  rw [List.length_erase_of_mem hb] at this
  have hp : 0 < b.length := List.length_pos_of_mem hb
  simp; omega

section
variable {t : Town} {dk : Bool} {p : Price} {u v m : Int} {c d : Cost} {l k vs : List Int} {x : Link}
theorem SW.walk (h : SW t dk p u v c l vs) : Walk t dk p u v c l := by
 induction h with
 | nil v => exact .nil v
 | cons hx hl _ _ ih => exact .cons hx hl ih
theorem SW.facts (h : SW t dk p u v c l vs) (ht : Fine t) : vs.Nodup ∧ vs.length = l.length + 1 ∧ (l = [] ∨ ∀ w ∈ vs, w ∈ t.places) ∧ (l = [] → vs = [v] ∧ u = v) := by
 induction h with
 | nil v => simp
 | @cons u m v x c d l vs hx hl h hu ih =>
  obtain ⟨i1, i2, i3, i4⟩ := ih
  have he := leads_ends hx ht hl
  refine ⟨List.nodup_cons.2 ⟨hu, i1⟩, by simp [i2], .inr fun w hw => ?_, by simp⟩
  rcases List.mem_cons.1 hw with rfl | hw
  ·exact he.1
  ·rcases i3 with rfl | i3
   ·obtain ⟨rfl, rfl⟩ := i4 rfl
    simp at hw; subst hw; exact he.2
   ·exact i3 w hw
theorem SW.short (h : SW t dk p u v c l vs) (ht : Fine t) : l = [] ∨ l.length < t.places.length := by
 obtain ⟨i1, i2, i3, _⟩ := h.facts ht
 rcases i3 with h3 | h3
 ·exact .inl h3
 ·have := nodup_le i1 h3
  exact .inr (by omega)
theorem grow_cons (ht : Fine t) (hp : Fair p) (hx : x ∈ t.links) (hl : leads dk p x u = some (m, c)) (d : Cost) (l : List Int) : cmpL (key d l) (key (addC c d) (x.id :: l)) < 0 := by
 have := leads_cost hx ht hp hl
 rw [addC_comm]
 exact key_grow _ _ _ _ (by omega) (by omega) (by omega)
theorem SW.suffix (h : SW t dk p u v c l vs) (ht : Fine t) (hp : Fair p) {w : Int} (hw : w ∈ vs) : ∃ c' l' vs', SW t dk p w v c' l' vs' ∧ cmpL (key c' l') (key c l) ≤ 0 := by
 induction h with
 | nil v => simp at hw; subst hw; exact ⟨_, _, _, .nil w, by rw [cmpL_refl]; omega⟩
 | @cons u m v x c d l vs hx hl h hu ih =>
  rcases List.mem_cons.1 hw with rfl | hw
  ·exact ⟨_, _, _, .cons hx hl h hu, by rw [cmpL_refl]; omega⟩
  ·obtain ⟨c', l', vs', h1, h2⟩ := ih hw
   have := cmpL_le_lt h2 (grow_cons ht hp hx hl d l)
   exact ⟨c', l', vs', h1, by omega⟩
theorem Walk.simple (h : Walk t dk p u v c l) (ht : Fine t) (hp : Fair p) : ∃ c' l' vs', SW t dk p u v c' l' vs' ∧ cmpL (key c' l') (key c l) ≤ 0 := by
 induction h with
 | nil v => exact ⟨_, _, _, .nil v, by rw [cmpL_refl]; omega⟩
 | @cons u m v x c d l hx hl h ih =>
  obtain ⟨c', l', vs', h1, h2⟩ := ih
  by_cases hu : u ∈ vs'
  ·obtain ⟨c2, l2, vs2, h3, h4⟩ := h1.suffix ht hp hu
   have := cmpL_le_lt (cmpL_trans h4 h2) (grow_cons ht hp hx hl d l)
   exact ⟨c2, l2, vs2, h3, by omega⟩
  ·exact ⟨_, _, _, .cons hx hl h1 hu, by rw [key_cons]; exact h2⟩
theorem Walk.short (h : Walk t dk p u v c l) (ht : Fine t) (hp : Fair p) : ∃ c' l', Walk t dk p u v c' l' ∧ cmpL (key c' l') (key c l) ≤ 0 ∧ (l' = [] ∨ l'.length < t.places.length) := by
 obtain ⟨c', l', vs', h1, h2⟩ := h.simple ht hp
 exact ⟨c', l', h1.walk, h2, h1.short ht⟩
theorem First.short (h : First t dk p u v (some (c, l))) (ht : Fine t) (hp : Fair p) : l.length ≤ 8 := by
 obtain ⟨c', l', h1, h2, h3⟩ := h.1.short ht hp
 have := cmpL_antisymm (h.2 _ _ h1) h2
 obtain ⟨rfl, rfl⟩ := key_inj this
 have := ht.size
 rcases h3 with rfl | h3
 ·simp
 ·omega
end

/-- All walks of at most so many links. -/
def paths (t : Town) (dk : Bool) (p : Price) : Nat → Int → List (Int × Cost × List Int)
 | 0, u => [(u, zeroC, [])]
 | k + 1, u => (u, zeroC, []) :: t.links.flatMap fun x => match leads dk p x u with
  | none => []
  | some (m, c) => (paths t dk p k m).map fun r => (r.1, addC c r.2.1, x.id :: r.2.2)
/-- The least of some. -/
def minK : List (Cost × List Int) → Option (Cost × List Int)
 | [] => none
 | r :: rs => match minK rs with
  | none => some r
  | some s => if cmpL (key r.1 r.2) (key s.1 s.2) ≤ 0 then some r else some s
/-- The first walk. -/
def best (t : Town) (dk : Bool) (p : Price) (u v : Int) : Option (Cost × List Int) :=
 minK (((paths t dk p t.places.length u).filter fun r => decide (r.1 = v)).map fun r => r.2)

section
variable {t : Town} {dk : Bool} {p : Price} {u v m : Int} {c d : Cost} {l k vs : List Int} {x : Link}
theorem mem_paths (n : Nat) : ∀ {u v : Int} {c : Cost} {l : List Int}, (v, c, l) ∈ paths t dk p n u ↔ Walk t dk p u v c l ∧ l.length ≤ n := by
 induction n with
 | zero =>
  intro u v c l
  simp only [paths, List.mem_singleton, Prod.mk.injEq]
  constructor
  ·rintro ⟨rfl, rfl, rfl⟩; exact ⟨.nil _, by simp⟩
  ·rintro ⟨h, hl⟩
   cases h with
   | nil v => exact ⟨rfl, rfl, rfl⟩
   | cons => simp at hl
 | succ n ih =>
  intro u v c l
  simp only [paths, List.mem_cons, Prod.mk.injEq, List.mem_flatMap]
  constructor
  ·rintro (⟨rfl, rfl, rfl⟩ | ⟨x, hx, h⟩)
   ·exact ⟨.nil _, by simp⟩
   ·cases hl : leads dk p x u with
    | none => rw [hl] at h; simp at h
    | some r =>
     obtain ⟨m, cx⟩ := r
     rw [hl] at h
     simp only [List.mem_map, Prod.mk.injEq] at h
     obtain ⟨⟨v', c', l'⟩, h1, rfl, rfl, rfl⟩ := h
     have := ih.1 h1
     exact ⟨.cons hx hl this.1, by simp; exact this.2⟩
  ·rintro ⟨h, hl⟩
   cases h with
   | nil v => exact .inl ⟨rfl, rfl, rfl⟩
   | @cons _ m _ x cx d l hx hlead hw =>
    refine .inr ⟨x, hx, ?_⟩
    rw [hlead]
    simp only [List.mem_map, Prod.mk.injEq]
    exact ⟨(v, d, l), ih.2 ⟨hw, by simpa using hl⟩, rfl, rfl, rfl⟩
theorem minK_none {rs : List (Cost × List Int)} : minK rs = none ↔ rs = [] := by
 cases rs with
 | nil => simp [minK]
 | cons r rs =>
  simp only [minK]
  cases minK rs with
  | none => simp
  | some s => simp only; split <;> simp
theorem minK_some : ∀ {rs : List (Cost × List Int)} {r : Cost × List Int}, minK rs = some r → r ∈ rs ∧ ∀ s ∈ rs, cmpL (key r.1 r.2) (key s.1 s.2) ≤ 0
 | [], r, h => by simp [minK] at h
 | q :: rs, r, h => by
  simp only [minK] at h
  cases hm : minK rs with
  | none =>
   rw [hm] at h
   cases h
   rw [minK_none.1 hm]
   exact ⟨by simp, fun s hs => by simp at hs; subst hs; rw [cmpL_refl]; omega⟩
  | some s =>
   have ⟨i1, i2⟩ := minK_some hm
   rw [hm] at h
   simp only at h
   split at h
   ·rename_i hle
    cases h
    refine ⟨by simp, fun y hy => ?_⟩
    rcases List.mem_cons.1 hy with rfl | hy
    ·rw [cmpL_refl]; omega
    ·exact cmpL_trans hle (i2 y hy)
   ·rename_i hle
    cases h
    refine ⟨by simp [i1], fun y hy => ?_⟩
    rcases List.mem_cons.1 hy with rfl | hy
    ·rcases cmpL_total (key y.1 y.2) (key r.1 r.2) with h1 | h1
     ·exact absurd h1 hle
     ·exact h1
    ·exact i2 y hy
theorem best_first (ht : Fine t) (hp : Fair p) (dk : Bool) (u v : Int) : First t dk p u v (best t dk p u v) := by
 have hm : ∀ c l, (c, l) ∈ ((paths t dk p t.places.length u).filter fun r => decide (r.1 = v)).map (fun r => r.2) ↔ Walk t dk p u v c l ∧ l.length ≤ t.places.length := by
  intro c l
  rw [← mem_paths]
  simp only [List.mem_map, List.mem_filter, decide_eq_true_eq]
  constructor
  ·rintro ⟨⟨v', r⟩, ⟨h1, h2⟩, h3⟩
   simp only at h2 h3
   subst h2 h3
   exact h1
  ·intro h
   exact ⟨(v, c, l), ⟨h, rfl⟩, rfl⟩
 have hs : ∀ {c l}, Walk t dk p u v c l → ∃ c' l', (Walk t dk p u v c' l' ∧ l'.length ≤ t.places.length) ∧ cmpL (key c' l') (key c l) ≤ 0 := by
  intro c l h
  obtain ⟨c', l', h1, h2, h3⟩ := h.short ht hp
  refine ⟨c', l', ⟨h1, ?_⟩, h2⟩
  rcases h3 with rfl | h3
  ·simp
  ·omega
 unfold best
 cases hb : minK (((paths t dk p t.places.length u).filter fun r => decide (r.1 = v)).map fun r => r.2) with
 | none =>
  rw [minK_none] at hb
  intro c l h
  obtain ⟨c', l', h1, _⟩ := hs h
  have := (hm c' l').2 h1
  rw [hb] at this
  simp at this
 | some r =>
  obtain ⟨c, l⟩ := r
  obtain ⟨h1, h2⟩ := minK_some hb
  refine ⟨((hm c l).1 h1).1, fun c' l' hw => ?_⟩
  obtain ⟨c2, l2, h3, h4⟩ := hs hw
  exact cmpL_trans (h2 _ ((hm c2 l2).2 h3)) h4
theorem first_iff (ht : Fine t) (hp : Fair p) {r : Option (Cost × List Int)} : First t dk p u v r ↔ r = best t dk p u v :=
 ⟨fun h => h.unique (best_first ht hp dk u v), fun h => by rw [h]; exact best_first ht hp dk u v⟩
end

/-- An entry is no more than a cost. -/
def leE (E : List (Option Cost)) (i : Nat) (c : Cost) : Prop := ∃ e, E[i]? = some (some e) ∧ cmpL e.list c.list ≤ 0
/-- Costs at work: k rounds are done, of this one the places up to i, and of i's the links up to j. -/
structure BSt (t : Town) (dk : Bool) (p : Price) (to : Int) (k i j M : Nat) (E : List (Option Cost)) : Prop where
 len : E.length = t.places.length
 sound : ∀ (i : Nat) v c, t.places[i]? = some v → E[i]? = some (some c) → ∃ l, Walk t dk p v to c l ∧ l.length ≤ M
 home : ∀ i : Nat, t.places[i]? = some to → leE E i zeroC
 opt : ∀ (i : Nat) v c l, t.places[i]? = some v → Walk t dk p v to c l → l.length ≤ k → leE E i c
 done : ∀ i' : Nat, i' < i → ∀ v c l, t.places[i']? = some v → Walk t dk p v to c l → l.length ≤ k + 1 → leE E i' c
 now : ∀ v, t.places[i]? = some v → ∀ x ∈ t.links.take j, ∀ n cx, leads dk p x v = some (n, cx) → ∀ c l, Walk t dk p n to c l → l.length ≤ k → leE E i (addC cx c)
/-- Nothing can be bettered, up to i and j. -/
def Stable (t : Town) (dk : Bool) (p : Price) (E : List (Option Cost)) (i j : Nat) : Prop :=
 ∀ (i' : Nat) v, t.places[i']? = some v → ∀ (j' : Nat) x, t.links[j']? = some x → (i' < i ∨ (i' = i ∧ j' < j)) → ∀ n cx, leads dk p x v = some (n, cx) → ∀ (i2 : Nat) d, t.places[i2]? = some n → E[i2]? = some (some d) → leE E i' (addC cx d)
/-- The least costs. -/
def Costs (t : Town) (dk : Bool) (p : Price) (to : Int) (E : List (Option Cost)) : Prop :=
 E.length = t.places.length ∧ ∀ (i : Nat) v, t.places[i]? = some v → ∀ r, E[i]? = some r → match r with
  | none => ∀ c l, ¬ Walk t dk p v to c l
  | some c => (∃ l, Walk t dk p v to c l) ∧ ∀ c' l', Walk t dk p v to c' l' → cmpL c.list c'.list ≤ 0

theorem leE_set {E : List (Option Cost)} {i i' : Nat} {c d : Cost} (h : leE E i' c) (hd : ∀ e, E[i]? = some (some e) → cmpL d.list e.list ≤ 0) (hi : i < E.length) : leE (E.set i (some d)) i' c := by
 obtain ⟨e, h1, h2⟩ := h
 by_cases hii : i = i'
 ·subst hii
  exact ⟨d, by rw [List.getElem?_set_self hi], cmpL_trans (hd e h1) h2⟩
 ·exact ⟨e, by rw [List.getElem?_set_ne hii]; exact h1, h2⟩
theorem leE_of_same {E : List (Option Cost)} {i : Nat} {c d : Cost} (h : leE E i c) (hd : cmpL c.list d.list ≤ 0) : leE E i d := by
 obtain ⟨e, h1, h2⟩ := h
 exact ⟨e, h1, cmpL_trans h2 hd⟩
section
variable {t : Town} {dk : Bool} {p : Price} {to v n : Int} {k i j M : Nat} {E : List (Option Cost)} {x : Link} {cx : Cost}
theorem BSt.more (h : BSt t dk p to k i j M E) (hM : M ≤ M + 1) : BSt t dk p to k i j (M + 1) E :=
 ⟨h.len, fun i v c h1 h2 => by obtain ⟨l, h3, h4⟩ := h.sound i v c h1 h2; exact ⟨l, h3, by omega⟩, h.home, h.opt, h.done, h.now⟩
/-- This link betters nothing. -/
theorem BSt.skip (h : BSt t dk p to k i j M E) (hx : t.links[j]? = some x) (hv : t.places[i]? = some v)
  (hno : ∀ n cx, leads dk p x v = some (n, cx) → ∀ (i2 : Nat) d, t.places[i2]? = some n → E[i2]? = some (some d) → leE E i (addC cx d)) (ht : Fine t) : BSt t dk p to k i (j + 1) M E := by
 refine ⟨h.len, h.sound, h.home, h.opt, h.done, ?_⟩
 intro v' hv' y hy n cx hl c l hw hlen
 rw [hv] at hv'
 cases hv'
 obtain ⟨hj, rfl⟩ := List.getElem?_eq_some_iff.1 hx
 rw [List.take_succ_eq_append_getElem hj, List.mem_append] at hy
 rcases hy with hy | hy
 ·exact h.now v hv y hy n cx hl c l hw hlen
 ·simp at hy
  subst hy
  have hn := (leads_ends (List.getElem_mem hj) ht hl).2
  obtain ⟨i2, h2⟩ := List.getElem?_of_mem hn
  obtain ⟨d, h3, h4⟩ := h.opt i2 n c l h2 hw hlen
  exact leE_of_same (hno n cx hl i2 d h2 h3) (by rw [cmpC_add']; exact h4)
/-- This link betters i's entry. -/
theorem BSt.take (h : BSt t dk p to k i j M E) (hx : t.links[j]? = some x) (hv : t.places[i]? = some v) (hl : leads dk p x v = some (n, cx)) {i2 : Nat} {d : Cost} (h2 : t.places[i2]? = some n) (h3 : E[i2]? = some (some d))
  (hbe : ∀ e, E[i]? = some (some e) → cmpL (addC cx d).list e.list ≤ 0) (hnd : t.places.Nodup) : BSt t dk p to k i (j + 1) (M + 1) (E.set i (some (addC cx d))) := by
 have hi : i < E.length := by
  rw [h.len]
  exact (List.getElem?_eq_some_iff.1 hv).1
 have up : ∀ {i' c}, leE E i' c → leE (E.set i (some (addC cx d))) i' c := fun h1 => leE_set h1 hbe hi
 refine ⟨by simpa using h.len, ?_, fun i' h1 => up (h.home i' h1), fun i' v c l h1 h4 h5 => up (h.opt i' v c l h1 h4 h5), fun i' hi' v c l h1 h4 h5 => up (h.done i' hi' v c l h1 h4 h5), ?_⟩
 ·intro i' v' c h1 h4
  by_cases hii : i = i'
  ·subst hii
   rw [List.getElem?_set_self hi] at h4
   cases h4
   rw [hv] at h1
   cases h1
   obtain ⟨l, h5, h6⟩ := h.sound i2 n d h2 h3
   exact ⟨x.id :: l, .cons (List.mem_of_getElem? hx) hl h5, by simp; exact h6⟩
  ·rw [List.getElem?_set_ne hii] at h4
   obtain ⟨l, h5, h6⟩ := h.sound i' v' c h1 h4
   exact ⟨l, h5, by omega⟩
 ·intro v' hv' y hy n' cx' hl' c l hw hlen
  rw [hv] at hv'
  cases hv'
  obtain ⟨hj, rfl⟩ := List.getElem?_eq_some_iff.1 hx
  rw [List.take_succ_eq_append_getElem hj, List.mem_append] at hy
  rcases hy with hy | hy
  ·exact up (h.now v hv y hy n' cx' hl' c l hw hlen)
  ·simp at hy
   subst hy
   rw [hl] at hl'
   cases hl'
   refine ⟨addC cx d, by rw [List.getElem?_set_self hi], ?_⟩
   rw [cmpC_add']
   obtain ⟨e, h5, h6⟩ := h.opt i2 n c l h2 hw hlen
   rw [h3] at h5
   cases h5
   exact h6
/-- The next place. -/
theorem BSt.next (h : BSt t dk p to k i j M E) (hj : t.links.length ≤ j) : BSt t dk p to k (i + 1) 0 M E := by
 refine ⟨h.len, h.sound, h.home, h.opt, ?_, fun _ _ x hx => by simp at hx⟩
 intro i' hi' v c l h1 hw hlen
 by_cases e : i' = i
 ·subst e
  cases hw with
  | nil v => exact h.home i' h1
  | @cons _ m _ x cx d l hx hl hw' =>
   exact h.now v h1 x (by rw [List.take_of_length_le hj]; exact hx) m cx hl d l hw' (by simpa using hlen)
 ·exact h.done i' (by omega) v c l h1 hw hlen
/-- The next round. -/
theorem BSt.round (h : BSt t dk p to k i j M E) (hi : t.places.length ≤ i) : BSt t dk p to (k + 1) 0 0 M E := by
 refine ⟨h.len, h.sound, h.home, ?_, fun _ h1 => absurd h1 (by omega), fun _ _ x hx => by simp at hx⟩
 intro i' v c l h1 hw hlen
 exact h.done i' (by have := (List.getElem?_eq_some_iff.1 h1).1; omega) v c l h1 hw hlen
theorem Stable.keep (h : Stable t dk p E i j) (hj : t.links.length ≤ j) : Stable t dk p E (i + 1) 0 := by
 intro i' v hv j' x hx hor
 exact h i' v hv j' x hx (by
  have := (List.getElem?_eq_some_iff.1 hx).1
  omega)
theorem Stable.step (h : Stable t dk p E i j) (hx : t.links[j]? = some x) (hv : t.places[i]? = some v)
  (hno : ∀ n cx, leads dk p x v = some (n, cx) → ∀ (i2 : Nat) d, t.places[i2]? = some n → E[i2]? = some (some d) → leE E i (addC cx d)) : Stable t dk p E i (j + 1) := by
 intro i' v' hv' j' y hy hor n cx hl
 by_cases e : i' = i ∧ j' = j
 ·obtain ⟨rfl, rfl⟩ := e
  rw [hv] at hv'
  cases hv'
  rw [hx] at hy
  cases hy
  exact hno n cx hl
 ·exact h i' v' hv' j' y hy (by omega) n cx hl
theorem BSt.costs (h : BSt t dk p to k i j M E) (hs : Stable t dk p E t.places.length 0) (ht : Fine t) : Costs t dk p to E := by
 have main : ∀ {v c l}, Walk t dk p v to c l → ∀ i' : Nat, t.places[i']? = some v → leE E i' c := by
  intro v c l hw
  have gen : ∀ {v w c l}, Walk t dk p v w c l → w = to → ∀ i' : Nat, t.places[i']? = some v → leE E i' c := by
   intro v w c l hw
   induction hw with
   | nil v => intro e i' h1; subst e; exact h.home i' h1
   | @cons u m v x cx d l hx hl _ ih =>
    intro e i' h1
    obtain ⟨i2, h2⟩ := List.getElem?_of_mem (leads_ends hx ht hl).2
    obtain ⟨e', h3, h4⟩ := ih e i2 h2
    obtain ⟨j', hj'⟩ := List.getElem?_of_mem hx
    exact leE_of_same (hs i' u h1 j' x hj' (.inl (List.getElem?_eq_some_iff.1 h1).1) m cx hl i2 e' h2 h3) (by rw [cmpC_add']; exact h4)
  exact gen hw rfl
 refine ⟨h.len, fun i' v hv r hr => ?_⟩
 cases r with
 | none =>
  intro c l hw
  obtain ⟨e, h1, _⟩ := main hw i' hv
  rw [hr] at h1
  cases h1
 | some c =>
  obtain ⟨l, hl, _⟩ := h.sound i' v c hv hr
  refine ⟨⟨l, hl⟩, fun c' l' hw => ?_⟩
  obtain ⟨e, h1, h2⟩ := main hw i' hv
  rw [hr] at h1
  cases h1
  exact h2

end
end Go.Proofs.YtahkjagjcogeiaaGreatDoor
/- Prices, and what a link costs: climb.chart.cost, cost.plus, cost.toil. -/
namespace Go.Proofs.YtahkjagjcogeiaaGreatDoor
open Go.RowKit

/-- What a link costs first. -/
def priceOf (p : Price) (x : Link) (climbed : Bool) : Int := if climbed then x.paces * p.pace + x.steps * (p.up + p.step) else x.paces * p.pace + x.steps * p.step
/-- A link within its limits. -/
structure Fit (x : Link) : Prop where
 steps : 0 ≤ x.steps ∧ x.steps ≤ 500
 paces : 1 ≤ x.paces ∧ x.paces ≤ 2000

/-- A function value that tells prices. -/
structure PriceAt (w : World) (p : Price) (F : FuncId) (C : Array Value) : Prop where
 enters : ∀ args W, (callFunc F args).run Tryz.prog W = .ok (.enter F args) W
 calls : ∀ x cl W, Below w.heap.size w W → Fit x → Calls Tryz.prog F (#[.agg #[.int .i64 x.id, .int .i64 x.fr, .int .i64 x.to, .int .i64 x.steps, .int .i64 x.paces], .bool cl] ++ C) W fun e w' => e = .returned (.int .i64 (priceOf p x cl)) ∧ Below W.heap.size W w'
theorem PriceAt.below {w w' : World} {p : Price} {F : FuncId} {C : Array Value} (h : PriceAt w p F C) (hb : Below w.heap.size w w') : PriceAt w' p F C :=
 ⟨h.enters, fun x cl W hW hx => h.calls x cl W (hb.trans (hW.mono hb.size)) hx⟩

@[reducible] def linkV (x : Link) : Value := .agg #[.int .i64 x.id, .int .i64 x.fr, .int .i64 x.to, .int .i64 x.steps, .int .i64 x.paces]
@[reducible] def chartV (A : Option Addr) (n c : Nat) (A' : Option Addr) (m d : Nat) (dk : Bool) (F : FuncId) (C : Array Value) : Value := .agg #[.slice A n c, .slice A' m d, .bool dk, .func (.func F) #[] C]
@[reducible] def costV (c : Cost) : Value := .agg #[.int .i64 c.a, .int .i64 c.b, .int .i64 c.c, .int .i64 c.d]

theorem far4 {w : World} {g h : Nat} {t : TypeId} {cs : Array Value} (b : Blk w g t cs) (hp : g ≠ h) (u0 u1 u2 u3 : Value) : Blk ((((w.setCell ⟨h, 0, none⟩ u0).setCell ⟨h, 1, none⟩ u1).setCell ⟨h, 2, none⟩ u2).setCell ⟨h, 3, none⟩ u3) g t cs :=
 (((b.far (p := ⟨h, 0, none⟩) hp u0).far (p := ⟨h, 1, none⟩) hp u1).far (p := ⟨h, 2, none⟩) hp u2).far (p := ⟨h, 3, none⟩) hp u3
def costOf (p : Price) (x : Link) (cl : Bool) : Cost := ⟨priceOf p x cl, if cl then x.steps else 0, x.paces, 1⟩

set_option maxRecDepth 100000 in
set_option maxHeartbeats 4000000 in
theorem cost_any (A : Option Addr) (n c : Nat) (A' : Option Addr) (m d : Nat) (dk : Bool) (F : FuncId) (C : Array Value) (p : Price) (x : Link) (cl : Bool) (w : World) (hp : PriceAt w p F C) (hx : Fit x) :
  Calls Tryz.prog 130 #[.agg #[.slice A n c, .slice A' m d, .bool dk, .func (.func F) #[] C], .agg #[.int .i64 x.id, .int .i64 x.fr, .int .i64 x.to, .int .i64 x.steps, .int .i64 x.paces], .bool cl] w fun e w' => e = .returned (costV (costOf p x cl)) ∧ Below w.heap.size w w' := by
 have hen := hp.enters
 have HP := Lib.hid hp
 have HX := Lib.hid hx
 clear hp hx
 cases cl
 all_goals
  go_enter Tryz.func130, Tryz.ntmps130
  go_wp2_with fail
  have X1 := (Blk.new w 107 #[.slice A n c, .slice A' m d, .bool dk, .func (.func F) #[] C])
  have X2 := (X1.alloc (.cells #[.int .i64 x.id, .int .i64 x.fr, .int .i64 x.to, .int .i64 x.steps, .int .i64 x.paces] 52)).alloc (.cells #[.int .i64 0, .int .i64 0, .int .i64 0, .int .i64 0] 97)
  have Y2 := (Blk.new (w.alloc (.cells #[.slice A n c, .slice A' m d, .bool dk, .func (.func F) #[] C] 107)) 52 #[.int .i64 x.id, .int .i64 x.fr, .int .i64 x.to, .int .i64 x.steps, .int .i64 x.paces]).alloc (.cells #[.int .i64 0, .int .i64 0, .int .i64 0, .int .i64 0] 97)
  have Z2 := Blk.new ((w.alloc (.cells #[.slice A n c, .slice A' m d, .bool dk, .func (.func F) #[] C] 107)).alloc (.cells #[.int .i64 x.id, .int .i64 x.fr, .int .i64 x.to, .int .i64 x.steps, .int .i64 x.paces] 52)) 97 #[.int .i64 0, .int .i64 0, .int .i64 0, .int .i64 0]
  have B2 : Below w.heap.size w (((w.alloc (.cells #[.slice A n c, .slice A' m d, .bool dk, .func (.func F) #[] C] 107)).alloc (.cells #[.int .i64 x.id, .int .i64 x.fr, .int .i64 x.to, .int .i64 x.steps, .int .i64 x.paces] 52)).alloc (.cells #[.int .i64 0, .int .i64 0, .int .i64 0, .int .i64 0] 97)) := (((Below.refl _ _).alloc (Nat.le_refl _) _).alloc (by simp) _).alloc (by simp; omega) _
  rw [World.size_alloc] at Y2
  rw [World.size_alloc, World.size_alloc] at Z2
  clear X1
  generalize (((w.alloc (.cells #[.slice A n c, .slice A' m d, .bool dk, .func (.func F) #[] C] 107)).alloc (.cells #[.int .i64 x.id, .int .i64 x.fr, .int .i64 x.to, .int .i64 x.steps, .int .i64 x.paces] 52)).alloc (.cells #[.int .i64 0, .int .i64 0, .int .i64 0, .int .i64 0] 97)) = w0 at *
  have hz := Z2.lt
  have K0 : w0.drew.cell? ⟨w.heap.size, 3, none⟩ = some (.func (.func F) #[] C) ∧ w0.drew.cell? ⟨w.heap.size + 1, 0, none⟩ = some (.int .i64 x.id) ∧ w0.drew.cell? ⟨w.heap.size + 1, 1, none⟩ = some (.int .i64 x.fr) ∧ w0.drew.cell? ⟨w.heap.size + 1, 2, none⟩ = some (.int .i64 x.to) ∧ w0.drew.cell? ⟨w.heap.size + 1, 3, none⟩ = some (.int .i64 x.steps) ∧ w0.drew.cell? ⟨w.heap.size + 1, 4, none⟩ = some (.int .i64 x.paces) := ⟨X2.cell 3, Y2.cell 0, Y2.cell 1, Y2.cell 2, Y2.cell 3, Y2.cell 4⟩
  go_region_held3 (fun w' => w'.cell? ⟨w.heap.size, 3, none⟩ = some (.func (.func F) #[] C) ∧ w'.cell? ⟨w.heap.size + 1, 0, none⟩ = some (.int .i64 x.id) ∧ w'.cell? ⟨w.heap.size + 1, 1, none⟩ = some (.int .i64 x.fr) ∧ w'.cell? ⟨w.heap.size + 1, 2, none⟩ = some (.int .i64 x.to) ∧ w'.cell? ⟨w.heap.size + 1, 3, none⟩ = some (.int .i64 x.steps) ∧ w'.cell? ⟨w.heap.size + 1, 4, none⟩ = some (.int .i64 x.paces))
   (first | with_reducible assumption | exact ⟨(far4 X3 (by omega) _ _ _ _).cell 3, (far4 Y3 (by omega) _ _ _ _).cell 0, (far4 Y3 (by omega) _ _ _ _).cell 1, (far4 Y3 (by omega) _ _ _ _).cell 2, (far4 Y3 (by omega) _ _ _ _).cell 3, (far4 Y3 (by omega) _ _ _ _).cell 4⟩)
   (first | (refine (HP.out.calls x _ _ (below_drewN B2 1) HX.out).mono ?_; rintro e w1 ⟨rfl, hb⟩; have X3 := (Blk.drewN X2 1).below hb (by show w.heap.size < w0.heap.size; omega); have Y3 := (Blk.drewN Y2 1).below hb (by show w.heap.size + 1 < w0.heap.size; omega); have Z3 := (Blk.drewN Z2 1).below hb hz; have z0 := Z3.cell 0; have z1 := Z3.cell 1; have z2 := Z3.cell 2; have z3 := Z3.cell 3; have y0 := Z3.frozen 0; have y1 := Z3.frozen 1; have y2 := Z3.frozen 2; have y3 := Z3.frozen 3; have K1 : w1.cell? ⟨w.heap.size, 3, none⟩ = some (.func (.func F) #[] C) ∧ w1.cell? ⟨w.heap.size + 1, 0, none⟩ = some (.int .i64 x.id) ∧ w1.cell? ⟨w.heap.size + 1, 1, none⟩ = some (.int .i64 x.fr) ∧ w1.cell? ⟨w.heap.size + 1, 2, none⟩ = some (.int .i64 x.to) ∧ w1.cell? ⟨w.heap.size + 1, 3, none⟩ = some (.int .i64 x.steps) ∧ w1.cell? ⟨w.heap.size + 1, 4, none⟩ = some (.int .i64 x.paces) := ⟨X3.cell 3, Y3.cell 0, Y3.cell 1, Y3.cell 2, Y3.cell 3, Y3.cell 4⟩))
  go_wp2_with fail
  exact bodyPost_ret (v := costV (costOf p x _)) (by simp [results, Tryz.results130, go_sem, costOf, z0, z1, z2, z3]) rfl ⟨rfl, ((((((below_drewN B2 1).trans (hb.mono (by show w.heap.size ≤ w0.heap.size; omega))).setCell (by simp; omega) _).setCell (by simp; omega) _).setCell (by simp; omega) _).setCell (by simp; omega) _)⟩
end Go.Proofs.YtahkjagjcogeiaaGreatDoor
/- The three prices: climb.free, drips, takes. -/
namespace Go.Proofs.YtahkjagjcogeiaaGreatDoor
open Go.RowKit

theorem mul_fits {a b m n : Int} (ha : 0 ≤ a ∧ a ≤ m) (hb : 0 ≤ b ∧ b ≤ n) : 0 ≤ a * b ∧ a * b ≤ m * n :=
 ⟨Int.mul_nonneg ha.1 hb.1, Int.mul_le_mul ha.2 hb.2 hb.1 (by omega)⟩

theorem boxed_keep {w W : World} {g : Nat} {t : TypeId} {v : Value} (h : Blk w g t #[v]) (hb : Below w.heap.size w W) : W.cell? ⟨g, 0, none⟩ = some v := (h.below hb h.lt).cell 0

set_option maxRecDepth 100000 in
set_option maxHeartbeats 2000000 in
theorem free_price (w : World) : PriceAt w ⟨0, 0, 0⟩ 58 #[] := by
 refine ⟨enters_of Tryz.func58 (by kernel_rfl) rfl, fun x cl W hW hx => ?_⟩
 go_enter Tryz.func58, Tryz.ntmps58
 go_wp2_with fail
 go_ret
 exact ⟨by cases cl <;> simp [priceOf], (Below.refl _ _).alloc (Nat.le_refl _) _⟩

set_option maxRecDepth 100000 in
set_option maxHeartbeats 2000000 in
theorem drips1_price (w : World) (b1 b2 : Nat) (pace step : Int) (h1 : Blk w b1 3 #[.int .i64 pace]) (h2 : Blk w b2 3 #[.int .i64 step]) (hp : 0 ≤ pace ∧ pace ≤ 100) (hs : 0 ≤ step ∧ step ≤ 100) :
  PriceAt w ⟨pace, 0, step⟩ 122 #[.pointer (some ⟨b1, 0, none⟩), .pointer (some ⟨b2, 0, none⟩)] := by
 refine ⟨enters_of Tryz.func122 (by kernel_rfl) rfl, fun x cl W hW hx => ?_⟩
 have c1 := boxed_keep h1 hW
 have c2 := boxed_keep h2 hW
 have l1 : b1 < W.heap.size := Nat.lt_of_lt_of_le h1.lt hW.size
 have l2 : b2 < W.heap.size := Nat.lt_of_lt_of_le h2.lt hW.size
 obtain ⟨m1, m2⟩ := mul_fits (m := 2000) (n := 100) (show 0 ≤ x.paces ∧ x.paces ≤ 2000 from ⟨by have := hx.paces; omega, hx.paces.2⟩) hp
 obtain ⟨m3, m4⟩ := mul_fits (m := 500) (n := 100) hx.steps hs
 clear h1 h2 hW hx hp hs
 go_enter Tryz.func122, Tryz.ntmps122
 go_wp2_with fail
 go_ret
 exact ⟨by cases cl <;> simp [priceOf], (Below.refl _ _).alloc (Nat.le_refl _) _⟩

set_option maxRecDepth 100000 in
set_option maxHeartbeats 2000000 in
theorem takes1_price (w : World) (b1 b2 : Nat) (pace step : Int) (h1 : Blk w b1 3 #[.int .i64 pace]) (h2 : Blk w b2 3 #[.int .i64 step]) (hp : 0 ≤ pace ∧ pace ≤ 100) (hs : 0 ≤ step ∧ step ≤ 100) :
  PriceAt w ⟨pace, step, 0⟩ 123 #[.pointer (some ⟨b1, 0, none⟩), .pointer (some ⟨b2, 0, none⟩)] := by
 refine ⟨enters_of Tryz.func123 (by kernel_rfl) rfl, fun x cl W hW hx => ?_⟩
 have c1 := boxed_keep h1 hW
 have c2 := boxed_keep h2 hW
 have l1 : b1 < W.heap.size := Nat.lt_of_lt_of_le h1.lt hW.size
 have l2 : b2 < W.heap.size := Nat.lt_of_lt_of_le h2.lt hW.size
 obtain ⟨m1, m2⟩ := mul_fits (m := 2000) (n := 100) (show 0 ≤ x.paces ∧ x.paces ≤ 2000 from ⟨by have := hx.paces; omega, hx.paces.2⟩) hp
 obtain ⟨m3, m4⟩ := mul_fits (m := 500) (n := 100) hx.steps hs
 clear h1 h2 hW hx hp hs
 cases cl
 ·go_enter Tryz.func123, Tryz.ntmps123
  go_wp2_with fail
  go_ret
  exact ⟨by simp [priceOf], (Below.refl _ _).alloc (Nat.le_refl _) _⟩
 ·go_enter Tryz.func123, Tryz.ntmps123
  go_wp2_with fail
  go_ret
  exact ⟨by simp [priceOf], (Below.refl _ _).alloc (Nat.le_refl _) _⟩

set_option maxRecDepth 100000 in
set_option maxHeartbeats 2000000 in
theorem drips_any (pace step : Int) (w : World) (hp : 0 ≤ pace ∧ pace ≤ 100) (hs : 0 ≤ step ∧ step ≤ 100) :
  Calls Tryz.prog 91 #[.int .i64 pace, .int .i64 step] w fun e w' => (∃ b1 b2, e = .returned (.func (.func 122) #[] #[.pointer (some ⟨b1, 0, none⟩), .pointer (some ⟨b2, 0, none⟩)]) ∧ PriceAt w' ⟨pace, 0, step⟩ 122 #[.pointer (some ⟨b1, 0, none⟩), .pointer (some ⟨b2, 0, none⟩)]) ∧ Below w.heap.size w w' := by
 have HP := Lib.hid hp
 have HS := Lib.hid hs
 clear hp hs
 go_enter Tryz.func91, Tryz.ntmps91
 go_wp2_with fail
 go_ret
 have Y := Blk.new (w.alloc (.cells #[.int .i64 pace] 3)) 3 #[.int .i64 step]
 rw [World.size_alloc] at Y
 exact ⟨⟨_, _, rfl, drips1_price _ _ _ pace step ((Blk.new w _ _).alloc _) Y HP.out HS.out⟩, ((Below.refl _ _).alloc (Nat.le_refl _) _).alloc (by simp) _⟩

set_option maxRecDepth 100000 in
set_option maxHeartbeats 2000000 in
theorem takes_any (pace step : Int) (w : World) (hp : 0 ≤ pace ∧ pace ≤ 100) (hs : 0 ≤ step ∧ step ≤ 100) :
  Calls Tryz.prog 94 #[.int .i64 pace, .int .i64 step] w fun e w' => (∃ b1 b2, e = .returned (.func (.func 123) #[] #[.pointer (some ⟨b1, 0, none⟩), .pointer (some ⟨b2, 0, none⟩)]) ∧ PriceAt w' ⟨pace, step, 0⟩ 123 #[.pointer (some ⟨b1, 0, none⟩), .pointer (some ⟨b2, 0, none⟩)]) ∧ Below w.heap.size w w' := by
 have HP := Lib.hid hp
 have HS := Lib.hid hs
 clear hp hs
 go_enter Tryz.func94, Tryz.ntmps94
 go_wp2_with fail
 go_ret
 have Y := Blk.new (w.alloc (.cells #[.int .i64 pace] 3)) 3 #[.int .i64 step]
 rw [World.size_alloc] at Y
 exact ⟨⟨_, _, rfl, takes1_price _ _ _ pace step ((Blk.new w _ _).alloc _) Y HP.out HS.out⟩, ((Below.refl _ _).alloc (Nat.le_refl _) _).alloc (by simp) _⟩
end Go.Proofs.YtahkjagjcogeiaaGreatDoor
/- A scope within a fence: where no jump to a label is made. -/
namespace Go.Proofs.YtahkjagjcogeiaaGreatDoor
open Go.RowKit

section
variable {F : Fence} {n : Nat} {P : Program} {b : Frame} {a : Act} {k : List Item} {cs : List Frame} {w : World} {Q : Exit → Act → World → Prop}
theorem stepR_scope {c : Code} : step P (lone (b.atR a (.code (.scope c) :: k)) cs w) = .next (lone (b.atR a (.code c :: .inScope c :: k)) cs w) :=
 step_lone_go (by simp [stepG, stepG.exec, Frame.atR])
theorem stepR_inScope {c : Code} : step P (lone (b.atR a (.inScope c :: k)) cs w) = .next (lone (b.atR a k) cs w) :=
 step_lone_go (by simp [stepG, stepG.exec, Frame.atR])
theorem wpIn_scope_straight {c : Code} (h : c.wpIn F n P (Exit.noGoto Q) a w) : (Code.scope c).wpIn F n P Q a w := by
 intro b k cs hro hb hr
 have h0 : (lone (b.atR a (.code (.scope c) :: k)) cs w).fenced P F := fenced_calm hb hr rfl
 obtain ⟨e, a₁, w₁, hq, harr⟩ := h b (.inScope c :: k) cs hro hb hr
 cases e with
 | normal => exact ⟨.normal, a₁, w₁, hq, .head h0 stepR_scope (StepsIn.trans harr (.one (fenced_calm hb hr rfl) stepR_inScope))⟩
 | exit id =>
  have hx : exitTo id (.inScope c :: k) = exitTo id k := by simp [exitTo]
  exact ⟨.exit id, a₁, w₁, hq, fun k' hk => .head h0 stepR_scope (harr.1 k' (by rw [hx]; exact hk)),
   fun hr' hk => let ⟨k₁, h1, h2⟩ := harr.2 hr' (by rw [hx]; exact hk); ⟨k₁, h1, .head h0 stepR_scope h2⟩⟩
 | goto l => exact hq.elim
 | ret => exact ⟨_, a₁, w₁, hq, .of_steps (.one h0 stepR_scope) harr⟩
 | panic ch => exact ⟨_, a₁, w₁, hq, .of_steps (.one h0 stepR_scope) harr⟩
 | outgrown => exact ⟨_, a₁, w₁, hq, .of_steps (.one h0 stepR_scope) harr⟩
end
end Go.Proofs.YtahkjagjcogeiaaGreatDoor
