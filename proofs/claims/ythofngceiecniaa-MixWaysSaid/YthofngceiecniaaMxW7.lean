/- Part 7 of the texts of this claim, joined. -/
import Derived.Sort.CutIn
import Derived.Test.YthofngceiecniaaMxW6
set_option linter.unusedVariables false
/- All ways of a drop, plain Lean: the program's search and the answer's lists have the same ways. -/
namespace Go.Proofs.Ythofngceiecniaa
section
section
variable {m : Mix} {A : List Held} {f : Int}
inductive Ext (m : Mix) (A : List Held) (n : Nat) (s : Int) (l : List Int) : Nat → Int → List Int → Prop
 | done : Ext m A n s l n s l
 | pour {t : Nat} {x : MAct} {v : Int} {w : List Int} (hx : m.acts[t]? = some x) (hk : x.kind = 2) (hv : idxV m.vessels x.fr = v) (h : Ext m A n s l (t + 1) (idxV m.vessels x.to) (w ++ [(t : Int) + 1])) : Ext m A n s l t v w
 | stay {t : Nat} {x : MAct} {v : Int} {w : List Int} {all : Held} (hx : m.acts[t]? = some x) (ha : A[t]? = some all) (hs : fromI m x ≠ v ∨ sizeA m all x ≠ heldAt all v) (h : Ext m A n s l (t + 1) v w) : Ext m A n s l t v w
theorem Ext.way {n : Nat} {s : Int} {l : List Int} {t : Nat} {v : Int} {w : List Int} (h : Ext m A n s l t v w) : WayTo m A f t v w → WayTo m A f n s l := by
 induction h with
 | done => exact id
 | pour hx hk hv _ ih => exact fun h => ih (.pour h hx hk hv)
 | stay hx ha hs _ ih => exact fun h => ih (.stay h hx ha hs)
theorem Ext.snoc {n n' : Nat} {s s' : Int} {l l' : List Int} (h' : Ext m A n' s' l' n s l) {t : Nat} {v : Int} {w : List Int} (h : Ext m A n s l t v w) : Ext m A n' s' l' t v w := by
 induction h with
 | done => exact h'
 | pour hx hk hv _ ih => exact .pour hx hk hv ih
 | stay hx ha hs _ ih => exact .stay hx ha hs ih
theorem Ext.le {n : Nat} {s : Int} {l : List Int} {t : Nat} {v : Int} {w : List Int} (h : Ext m A n s l t v w) : t ≤ n := by
 induction h with
 | done => exact Nat.le_refl _
 | pour _ _ _ _ ih => omega
 | stay _ _ _ _ ih => omega
theorem Ext.inv {n : Nat} {s : Int} {l : List Int} {t : Nat} {v : Int} {w : List Int} (h : Ext m A n s l t v w) (hne : t ≠ n) :
  (∃ x, m.acts[t]? = some x ∧ x.kind = 2 ∧ idxV m.vessels x.fr = v ∧ Ext m A n s l (t + 1) (idxV m.vessels x.to) (w ++ [(t : Int) + 1])) ∨
  (∃ x all, m.acts[t]? = some x ∧ A[t]? = some all ∧ (fromI m x ≠ v ∨ sizeA m all x ≠ heldAt all v) ∧ Ext m A n s l (t + 1) v w) := by
 cases h with
 | done => exact absurd rfl hne
 | pour hx hk hv h => exact .inl ⟨_, hx, hk, hv, h⟩
 | stay hx ha hs h => exact .inr ⟨_, _, hx, ha, hs, h⟩
theorem way_ext {n : Nat} {s : Int} {l : List Int} (h : WayTo m A f n s l) : ∃ i x, m.acts[i]? = some x ∧ x.kind = 1 ∧ x.fr = f ∧ i < n ∧ Ext m A n s l (i + 1) (idxV m.vessels x.to) [(i : Int) + 1] := by
 induction h with
 | @enter t x hx hk hf => exact ⟨t, x, hx, hk, hf, Nat.lt_succ_self t, .done⟩
 | pour _ hx hk hv ih =>
  obtain ⟨i, y, h1, h2, h3, h4, h5⟩ := ih
  exact ⟨i, y, h1, h2, h3, by omega, Ext.snoc (.pour hx hk hv .done) h5⟩
 | stay _ hx ha hs ih =>
  obtain ⟨i, y, h1, h2, h3, h4, h5⟩ := ih
  exact ⟨i, y, h1, h2, h3, by omega, Ext.snoc (.stay hx ha hs .done) h5⟩
def folP (m : Mix) (A : List Held) (s : Int) : Nat → Nat → Int → List Int → List (List Int)
 | 0, _, v, w => if v = s then [w] else []
 | k + 1, t, v, w => match m.acts[t]?, A[t]? with
  | some x, some all => if fromI m x ≠ v then folP m A s k (t + 1) v w else
    (if 0 ≤ toI m x then folP m A s k (t + 1) (toI m x) (w ++ [(t : Int) + 1]) else []) ++ (if sizeA m all x = heldAt all v then [] else folP m A s k (t + 1) v w)
  | _, _ => []
theorem mem_fol (hA : allM m m.acts = some A) (hv4 : m.vessels.length ≤ 4) {s : Int} {l : List Int} : ∀ {k t : Nat} {v : Int} {w : List Int}, 0 ≤ v → t + k ≤ m.acts.length → (l ∈ folP m A s k t v w ↔ Ext m A (t + k) s l t v w)
 | 0, t, v, w, hv, ht => by
  unfold folP
  rw [Nat.add_zero]
  constructor
  ·intro h
   split at h
   ·rename_i e
    subst e
    rw [List.mem_singleton.1 h]
    exact .done
   ·cases h
  ·intro h
   cases h with
   | done => simp
   | pour _ _ _ h => have := h.le; omega
   | stay _ _ _ h => have := h.le; omega
 | k + 1, t, v, w, hv, ht => by
  have hlt : t < m.acts.length := by omega
  obtain ⟨all, _, ha, _, _⟩ := allM_step hA (List.getElem?_eq_getElem hlt)
  obtain ⟨x, hx⟩ : ∃ x, m.acts[t]? = some x := ⟨_, List.getElem?_eq_getElem hlt⟩
  have hok := (act_ok hA hv4 hx ha).1
  have e : t + (k + 1) = t + 1 + k := by omega
  unfold folP
  rw [hx, ha, e]
  dsimp only
  by_cases hf : fromI m x ≠ v
  ·rw [if_pos hf, mem_fol hA hv4 hv (by omega)]
   constructor
   ·exact fun h => .stay hx ha (.inl hf) h
   ·intro h
    rcases h.inv (by omega) with ⟨y, hx', hk, hv', h⟩ | ⟨y, all', hx', ha', hs, h⟩
    ·rw [hx] at hx'
     cases hx'
     exact absurd (by unfold fromI; rw [if_neg (by omega)]; exact hv') hf
    ·exact h
  ·have hf' : fromI m x = v := by omega
   rw [if_neg hf, List.mem_append]
   have hk1 : x.kind ≠ 1 := fun e => by unfold fromI at hf'; rw [if_pos e] at hf'; omega
   constructor
   ·rintro (h | h)
    ·split at h
     ·rename_i hto
      have hk2 : x.kind = 2 := by
       unfold toI at hto
       split at hto
       ·rename_i h; rcases h with h | h
        ·exact absurd h hk1
        ·exact h
       ·omega
      have ht2 : toI m x = idxV m.vessels x.to := by unfold toI; rw [if_pos (.inr hk2)]
      rw [mem_fol hA hv4 hto (by omega), ht2] at h
      exact .pour hx hk2 (by rw [← hf']; unfold fromI; rw [if_neg hk1]) h
     ·cases h
    ·split at h
     ·cases h
     ·rename_i hs
      rw [mem_fol hA hv4 hv (by omega)] at h
      exact .stay hx ha (.inr hs) h
   ·intro h
    rcases h.inv (by omega) with ⟨y, hx', hk, hv', h⟩ | ⟨y, all', hx', ha', hs, h⟩
    ·rw [hx] at hx'
     cases hx'
     left
     have ht2 : toI m x = idxV m.vessels x.to := by unfold toI; rw [if_pos (.inr hk)]
     have h0 := hok.to_ (.inr hk)
     rw [if_pos (by omega), mem_fol hA hv4 (by omega) (by omega), ht2]
     exact h
    ·rw [hx] at hx'
     cases hx'
     rw [ha] at ha'
     cases ha'
     right
     rw [if_neg (by rcases hs with h1 | h1; exact absurd hf' h1; exact h1), mem_fol hA hv4 hv (by omega)]
     exact h
def waysP (m : Mix) (A : List Held) (f s : Int) (n : Nat) : List (List Int) := (List.range n).flatMap fun i => match m.acts[i]? with
 | some x => if x.kind = 1 ∧ x.fr = f then folP m A s (n - (i + 1)) (i + 1) (idxV m.vessels x.to) [(i : Int) + 1] else []
 | none => []
theorem mem_waysP (hA : allM m m.acts = some A) (hv4 : m.vessels.length ≤ 4) {s : Int} {n : Nat} (hn : n ≤ m.acts.length) {l : List Int} : l ∈ waysP m A f s n ↔ WayTo m A f n s l := by
 unfold waysP
 rw [List.mem_flatMap]
 constructor
 ·rintro ⟨i, hi, h⟩
  have hi' := List.mem_range.1 hi
  have hlt : i < m.acts.length := by omega
  rw [List.getElem?_eq_getElem hlt] at h
  have hx := List.getElem?_eq_getElem hlt
  obtain ⟨all, _, ha, _, _⟩ := allM_step hA hx
  have hok := (act_ok hA hv4 hx ha).1
  dsimp only at h
  split at h
  ·rename_i hc
   rw [mem_fol hA hv4 (hok.to_ (.inl hc.1)) (by omega), show i + 1 + (n - (i + 1)) = n from by omega] at h
   exact h.way (.enter hx hc.1 hc.2)
  ·cases h
 ·intro h
  obtain ⟨i, x, hx, hk, hf, hi, he⟩ := way_ext h
  refine ⟨i, List.mem_range.2 hi, ?_⟩
  rw [hx]
  dsimp only
  have hlt : i < m.acts.length := by omega
  obtain ⟨all, _, ha, _, _⟩ := allM_step hA hx
  have hok := (act_ok hA hv4 hx ha).1
  rw [if_pos ⟨hk, hf⟩, mem_fol hA hv4 (hok.to_ (.inl hk)) (by omega), show i + 1 + (n - (i + 1)) = n from by omega]
  exact he
def comeR (x : MAct) (f : Int) (t : Nat) (L : List (List Int)) : List (List Int) := if x.kind = 1 ∧ x.fr = f then [[(t : Int) + 1]] else if x.kind = 2 then L.map (· ++ [(t : Int) + 1]) else []
def listR (m : Mix) (A : List Held) (f : Int) : Nat → Int → List (List Int)
 | 0, _ => []
 | t + 1, v => match m.acts[t]?, A[t]? with
  | some x, some all =>
   (if x.kind ≠ 1 ∧ idxV m.vessels x.fr = v ∧ (x.kind = 4 ∨ x.drops = heldAt all (idxV m.vessels x.fr)) then [] else listR m A f t v) ++
   (if x.kind < 3 ∧ idxV m.vessels x.to = v then comeR x f t (listR m A f t (idxV m.vessels x.fr)) else [])
  | _, _ => []
theorem mem_listR (hA : allM m m.acts = some A) (hv4 : m.vessels.length ≤ 4) : ∀ {t : Nat} {v : Int} {l : List Int}, 0 ≤ v → t ≤ m.acts.length → (l ∈ listR m A f t v ↔ WayTo m A f t v l)
 | 0, v, l, hv, ht => by
  unfold listR
  constructor
  ·intro h; cases h
  ·intro h; cases h
 | t + 1, v, l, hv, ht => by
  have hlt : t < m.acts.length := by omega
  obtain ⟨x, hx⟩ : ∃ x, m.acts[t]? = some x := ⟨_, List.getElem?_eq_getElem hlt⟩
  obtain ⟨all, _, ha, _, _⟩ := allM_step hA hx
  have hok := (act_ok hA hv4 hx ha).1
  have hst : (fromI m x ≠ v ∨ sizeA m all x ≠ heldAt all v) ↔ ¬ (x.kind ≠ 1 ∧ idxV m.vessels x.fr = v ∧ (x.kind = 4 ∨ x.drops = heldAt all (idxV m.vessels x.fr))) := by
   unfold fromI sizeA fromI
   by_cases h1 : x.kind = 1
   ·rw [if_pos h1]
    exact ⟨fun _ h => h.1 h1, fun _ => .inl (by omega)⟩
   ·rw [if_neg h1]
    by_cases h2 : idxV m.vessels x.fr = v
    ·rw [h2]
     by_cases h4 : x.kind = 4
     ·rw [if_pos h4]
      simp [h4]
     ·rw [if_neg h4]
      simp [h1, h4]
    ·simp [h2]
  unfold listR
  rw [hx, ha]
  dsimp only
  rw [List.mem_append]
  constructor
  ·rintro (h | h)
   ·split at h
    ·cases h
    ·rename_i hc
     exact .stay ((mem_listR hA hv4 (l := l) hv (by omega)).1 h) hx ha (hst.2 hc)
   ·split at h
    ·rename_i hc
     obtain ⟨hc1, hc2⟩ := hc
     unfold comeR at h
     subst hc2
     split at h
     ·rename_i hk
      rw [List.mem_singleton.1 h]
      exact .enter hx hk.1 hk.2
     ·split at h
      ·rename_i hk2
       obtain ⟨w, hw, rfl⟩ := List.mem_map.1 h
       exact .pour ((mem_listR hA hv4 (l := w) (hok.from_ (by omega)) (by omega)).1 hw) hx hk2 rfl
      ·cases h
    ·cases h
  ·intro h
   cases h with
   | enter hx' hk hf =>
    rw [hx] at hx'
    cases hx'
    right
    rw [if_pos ⟨by omega, rfl⟩]
    unfold comeR
    rw [if_pos ⟨hk, hf⟩]
    simp
   | pour h hx' hk hv' =>
    rw [hx] at hx'
    cases hx'
    right
    rw [if_pos ⟨by omega, rfl⟩]
    unfold comeR
    rw [if_neg (by omega), if_pos hk]
    exact List.mem_map.2 ⟨_, (mem_listR hA hv4 (hok.from_ (by omega)) (by omega)).2 (by rw [hv']; exact h), rfl⟩
   | stay h hx' ha' hs =>
    rw [hx] at hx'
    cases hx'
    rw [ha] at ha'
    cases ha'
    left
    rw [if_neg (hst.1 hs)]
    exact (mem_listR hA hv4 (l := l) hv (by omega)).2 h
end
end
section
def metM (m : Mix) (v a f0 f1 : Int) : Int := if askM m v a [f0, f1] = 0 then (if f0 = f1 then 2 else 0) else askM m v a [f0, f1]
def MetIs (m : Mix) (v a f0 f1 : Int) (b : Bool) (e : Int) : Prop :=
 (metM m v a f0 f1 ≠ 0 ∧ b = false ∧ e = metM m v a f0 f1) ∨ (metM m v a f0 f1 = 0 ∧ e = 0 ∧ ∃ A, allM m m.acts = some A ∧ (b = true ↔ NowP m A f0 f1 a.toNat (idxV m.vessels v, idxV m.vessels v)))
def FirstIs (m : Mix) (v a f : Int) (P : List Held → List Int → Prop) (l : List Int) (e : Int) : Prop :=
 (askM m v a [f] ≠ 0 ∧ l = [] ∧ e = askM m v a [f]) ∨ (askM m v a [f] = 0 ∧ ∃ A, allM m m.acts = some A ∧
  (((∀ k, ¬ WayTo m A f a.toNat (idxV m.vessels v) k) ∧ l = [] ∧ e = 6) ∨ ((∃ k, WayTo m A f a.toNat (idxV m.vessels v) k) ∧ e = 0 ∧ FirstS (P A) l)))
def PathIs (m : Mix) (v a f : Int) : List Int → Int → Prop := FirstIs m v a f fun A => WayTo m A f a.toNat (idxV m.vessels v)
def WatchP (m : Mix) (v a f : Int) (A : List Held) (l : List Int) : Prop := UpTo a.toNat l ∧ ∀ w, WayTo m A f a.toNat (idxV m.vessels v) w → ∃ n ∈ w, n ∈ l
def WatchIs (m : Mix) (v a f : Int) : List Int → Int → Prop := FirstIs m v a f (WatchP m v a f)
section
variable {m : Mix} {v a f f0 f1 e e' : Int} {l l' : List Int} {b b' : Bool} {P : List Held → List Int → Prop}
theorem MetIs.same (h : MetIs m v a f0 f1 b e) (h' : MetIs m v a f0 f1 b' e') : b = b' ∧ e = e' := by
 rcases h with ⟨h0, rfl, rfl⟩ | ⟨h0, rfl, A, hA, h⟩ <;> rcases h' with ⟨k0, rfl, rfl⟩ | ⟨k0, rfl, B, hB, k⟩
 ·exact ⟨rfl, rfl⟩
 ·exact absurd k0 h0
 ·exact absurd h0 k0
 ·rw [hA] at hB
  cases hB
  refine ⟨?_, rfl⟩
  cases b <;> cases b' <;> simp_all
theorem FirstIs.same (h : FirstIs m v a f P l e) (h' : FirstIs m v a f P l' e') : l = l' ∧ e = e' := by
 rcases h with ⟨h0, rfl, rfl⟩ | ⟨h0, A, hA, h⟩ <;> rcases h' with ⟨k0, rfl, rfl⟩ | ⟨k0, B, hB, k⟩
 ·exact ⟨rfl, rfl⟩
 ·exact absurd k0 h0
 ·exact absurd h0 k0
 ·rw [hA] at hB
  cases hB
  rcases h with ⟨h1, rfl, rfl⟩ | ⟨⟨w, h1⟩, rfl, h2⟩ <;> rcases k with ⟨k1, rfl, rfl⟩ | ⟨⟨u, k1⟩, rfl, k2⟩
  ·exact ⟨rfl, rfl⟩
  ·exact absurd k1 (h1 _)
  ·exact absurd h1 (k1 _)
  ·exact ⟨h2.same k2, rfl⟩
theorem PathIs.same (h : PathIs m v a f l e) (h' : PathIs m v a f l' e') : l = l' ∧ e = e' := FirstIs.same h h'
theorem WatchIs.same (h : WatchIs m v a f l e) (h' : WatchIs m v a f l' e') : l = l' ∧ e = e' := FirstIs.same h h'
theorem hits_ways {A : List Held} {ways : List (List Int)} (hw : ∀ w, w ∈ ways ↔ WayTo m A f a.toNat (idxV m.vessels v) w) {l : List Int} : (UpTo a.toNat l ∧ Hits ways l) ↔ WatchP m v a f A l :=
 ⟨fun h => ⟨h.1, fun w k => h.2 w ((hw w).2 k)⟩, fun h => ⟨h.1, fun w k => h.2 w ((hw w).1 k)⟩⟩
theorem FirstS.congr {P Q : List Int → Prop} (h : FirstS P l) (e : ∀ k, P k ↔ Q k) : FirstS Q l := ⟨(e l).1 h.1, fun k hk => h.2 k ((e k).2 hk)⟩
end
end
section
section
variable {m : Mix} {f : Int} {A : List Held}
end
def rightB (fr xf f c : Int) (g : Bool) : Bool := !g || (if fr < 0 then decide (c = -1) && decide (xf = f) else decide (c = fr))
theorem rightB_iff {fr xf f c : Int} {g : Bool} : rightB fr xf f c g = true ↔ rightP fr xf f c g := by
 unfold rightB rightP
 cases g
 ·simp
 ·by_cases h : fr < 0 <;> simp [h]
def stepB (fr to n al xf f0 f1 : Int) (c : Int × Int) (g : Bool × Bool) : Bool :=
 rightB fr xf f0 c.1 g.1 && rightB fr xf f1 c.2 g.2 && (decide (fr < 0) || (decide (b1 g.1 + b1 g.2 ≤ n) && decide (b1 (!g.1 && decide (c.1 = fr)) + b1 (!g.2 && decide (c.2 = fr)) ≤ al - n)))
def sets4 : List (Bool × Bool) := [(false, false), (false, true), (true, false), (true, true)]
def stepL (fr to n al xf f0 f1 : Int) (c : Int × Int) : List (Int × Int) := (sets4.filter (stepB fr to n al xf f0 f1 c)).map fun g => (dropP fr to c.1 g.1, dropP fr to c.2 g.2)
theorem mem_stepL {fr to n al xf f0 f1 : Int} {c d : Int × Int} : d ∈ stepL fr to n al xf f0 f1 c ↔ StepP fr to n al xf f0 f1 c d := by
 have key : ∀ g0 g1 : Bool, stepB fr to n al xf f0 f1 c (g0, g1) = true ↔ rightP fr xf f0 c.1 g0 ∧ rightP fr xf f1 c.2 g1 ∧ (0 ≤ fr → b1 g0 + b1 g1 ≤ n ∧ b1 (!g0 && decide (c.1 = fr)) + b1 (!g1 && decide (c.2 = fr)) ≤ al - n) := fun g0 g1 => by
  unfold stepB
  simp only [Bool.and_eq_true, Bool.or_eq_true, decide_eq_true_eq, rightB_iff, and_assoc]
  refine and_congr Iff.rfl (and_congr Iff.rfl ?_)
  by_cases h : fr < 0
  ·simp [h]; omega
  ·simp [h]; omega
 unfold stepL StepP
 rw [List.mem_map]
 constructor
 ·rintro ⟨⟨g0, g1⟩, h1, rfl⟩
  obtain ⟨a, b, c⟩ := (key g0 g1).1 (List.mem_filter.1 h1).2
  exact ⟨g0, g1, a, b, rfl, c⟩
 ·rintro ⟨g0, g1, a, b, rfl, c⟩
  refine ⟨(g0, g1), List.mem_filter.2 ⟨?_, (key g0 g1).2 ⟨a, b, c⟩⟩, rfl⟩
  cases g0 <;> cases g1 <;> decide
def firstB (m : Mix) (v a f : Int) (Q : List (List Int) → List Int → Bool) (l : List Int) (e : Int) : Bool :=
 if askM m v a [f] = 0 then match allM m m.acts with
  | some A => if (waysP m A f (idxV m.vessels v) a.toNat).isEmpty then decide (l = []) && decide (e = 6) else decide (e = 0) && Q (waysP m A f (idxV m.vessels v) a.toNat) l
  | none => false
 else decide (l = []) && decide (e = askM m v a [f])
def pathB (m : Mix) (v a f : Int) (l : List Int) (e : Int) : Bool := firstB m v a f (fun ws l => ws.contains l && ws.all fun k => decide (cmpS l k ≤ 0)) l e
end
section
open Go.RowKit Go.Shelf
abbrev C2 := Int × Int
def C2.key (x : C2) : Value := .agg #[.int .i64 x.1, .int .i64 x.2]
def okC (x : C2) : Prop := okZ x.1 ∧ okZ x.2
abbrev CpMap (w : World) (r : Nat) (m : List (C2 × Bool)) : Prop := MapIs C2.key Value.bool okC w r m
theorem arrC : WideMaps.ArrKey Try.prog 130 3 2 := ⟨Try.underlying130, by kernel_rfl, by kernel_rfl, by kernel_rfl⟩
theorem cpTy : MapTy Try.prog 131 130 4 C2 Bool C2.key Value.bool okC (.bool false) where
 und := Try.underlying131
 keyed := Maps.Keyed.of_law arrC.law
 reads := fun x hx => ⟨_, WideMaps.keyOf_pair arrC Try.underlying3 types_pos hx.1 hx.2⟩
 inj := fun x y h => by
  obtain ⟨a, b⟩ := x
  obtain ⟨a', b'⟩ := y
  simp [C2.key] at h
  simp [h]
 zero := fun w => by kernel_rfl
structure CpIs (m : List (C2 × Bool)) (P : C2 → Prop) : Prop where
 all : ∀ p ∈ m, p.2 = true
 keys : ∀ x : C2, (∃ v, (x, v) ∈ m) ↔ P x
section
variable {m : List (C2 × Bool)} {P Q : C2 → Prop} {x : C2}
theorem CpIs.nil : CpIs [] fun _ => False := ⟨(fun p h => by cases h), fun x => ⟨(fun ⟨v, h⟩ => by cases h), fun h => h.elim⟩⟩
theorem CpIs.congr (h : CpIs m P) (e : ∀ x : C2, P x ↔ Q x) : CpIs m Q := ⟨h.all, fun x => (h.keys x).trans (e x)⟩
theorem CpIs.put (h : CpIs m P) (x : C2) : CpIs (put m x true) fun s => P s ∨ s = x := by
 refine ⟨fun p hp => ?_, fun y => ?_⟩
 ·rcases mem_put hp with rfl | ⟨hp, _⟩
  ·rfl
  ·exact h.all p hp
 ·constructor
  ·rintro ⟨v, hv⟩
   rcases mem_put hv with e | ⟨hv, _⟩
   ·right
    exact congrArg Prod.fst e
   ·left
    exact (h.keys y).1 ⟨v, hv⟩
  ·intro hy
   have h1 := look_put (m := m) (x := x) (y := y) (v := true)
   by_cases e : y = x
   ·rw [if_pos e] at h1
    exact ⟨_, look_mem h1⟩
   ·rw [if_neg e] at h1
    rcases hy with hy | hy
    ·obtain ⟨v, hv⟩ := (h.keys y).2 hy
     cases hl2 : look m y with
     | none => exact absurd rfl (look_none.1 hl2 _ hv)
     | some u =>
      rw [hl2] at h1
      exact ⟨_, look_mem h1⟩
    ·exact absurd hy e
theorem CpIs.look_some (h : CpIs m P) (hp : P x) : look m x = some true := by
 obtain ⟨v, hv⟩ := (h.keys x).2 hp
 cases hl : look m x with
 | none => exact absurd rfl (look_none.1 hl _ hv)
 | some u =>
  have := h.all _ (look_mem hl)
  dsimp only at this
  rw [this]
theorem CpIs.look_none (h : CpIs m P) (hp : ¬ P x) : look m x = none := by
 cases hl : look m x with
 | none => rfl
 | some u => exact absurd ((h.keys x).1 ⟨u, look_mem hl⟩) hp
end
theorem maps_not {w : World} {g : Nat} {t : TypeId} {cs : Array Value} {r : Nat} {m : List (C2 × Bool)} (h : CpMap w r m) (b : Blk w g t cs) : r ≠ g := fun e => by
 subst e
 obtain ⟨es, cl, h1, _⟩ := h
 have h2 := b
 unfold Blk at h2
 rw [h1] at h2
 cases h2
theorem iter_not {w : World} {g it r : Nat} {t : TypeId} {cs : Array Value} {m left : List (C2 × Bool)} (h : IterIs C2.key Value.bool okC w it r m left) (b : Blk w g t cs) : it ≠ g := fun e => by
 subst e
 obtain ⟨_, _, _, _, _, _, _, _, _, h5, _⟩ := h
 have h2 := b
 unfold Blk at h2
 rw [h5] at h2
 cases h2
theorem iter_notm {w : World} {it r rn : Nat} {m left mn : List (C2 × Bool)} (h : IterIs C2.key Value.bool okC w it r m left) (b : CpMap w rn mn) : it ≠ rn := fun e => by
 subst e
 obtain ⟨_, _, _, _, _, _, _, _, _, h5, _⟩ := h
 obtain ⟨_, _, h1, _⟩ := b
 rw [h5] at h1
 cases h1
structure MS (WB W : World) (it r rn : Nat) (mm left mn : List (C2 × Bool)) (bs : List (Nat × TypeId × Array Value)) : Prop where
 lay : Lay WB W bs
 iter : IterIs C2.key Value.bool okC W it r mm left
 map : CpMap W rn mn
 ne : rn ≠ r
 ge : WB.heap.size ≤ it ∧ WB.heap.size ≤ r ∧ WB.heap.size ≤ rn
section
variable {WB W W' : World} {it r rn : Nat} {mm left left' mn mn' : List (C2 × Bool)} {bs bs' : List (Nat × TypeId × Array Value)}
theorem MS.below (h : MS WB W it r rn mm left mn bs) (hb : Below W.heap.size W W') : MS WB W' it r rn mm left mn bs := ⟨h.lay.below hb, h.iter.below hb h.iter.map.lt h.iter.lt, h.map.below hb h.map.lt, h.ne, h.ge⟩
theorem MS.sub (h : MS WB W it r rn mm left mn bs) (hs : ∀ b ∈ bs', b ∈ bs) : MS WB W it r rn mm left mn bs' := ⟨h.lay.sub hs, h.iter, h.map, h.ne, h.ge⟩
theorem MS.box (h : MS WB W it r rn mm left mn bs) (t : TypeId) (cs : Array Value) : MS WB (W.alloc (.cells cs t)) it r rn mm left mn (bs ++ [(W.heap.size, t, cs)]) := by
 have h1 := h.below ((Below.refl _ _).alloc (Nat.le_refl _) (.cells cs t))
 exact ⟨h.lay.alloc t cs, h1.iter, h1.map, h1.ne, h1.ge⟩
theorem MS.set {g : Nat} {t : TypeId} {cs : Array Value} (h : MS WB W it r rn mm left mn (bs ++ [(g, t, cs)])) (hne : ∀ p ∈ bs, p.1 ≠ g) (k : Nat) (v : Value) : MS WB (W.setCell ⟨g, k, none⟩ v) it r rn mm left mn (bs ++ [(g, t, cs.setIfInBounds k v)]) := by
 have hg := grown_setCell (row := some g) (grown_refl W _) (p := ⟨g, k, none⟩) (.inl rfl) v
 have hb := (h.lay.2 (g, t, cs) (by simp)).2
 exact ⟨h.lay.setLast hne k v, h.iter.grown hg (fun e => maps_not h.iter.map hb (Option.some.inj e)) (fun e => iter_not h.iter hb (Option.some.inj e)), h.map.grown hg (fun e => maps_not h.map hb (Option.some.inj e)), h.ne, h.ge⟩
theorem MS.upd (h : MS WB W it r rn mm left mn bs) (hm : CpMap W' rn mn') (hg : W.grownBy W' (some rn)) : MS WB W' it r rn mm left mn' bs :=
 ⟨h.lay.row hg (fun k e => by cases e; exact ⟨h.ge.2.2, fun b hb e => maps_not h.map (h.lay.2 b hb).2 e.symm⟩), h.iter.grown hg (fun e => h.ne (Option.some.inj e).symm) (fun e => iter_notm h.iter h.map (Option.some.inj e)), hm, h.ne, h.ge⟩
theorem MS.next (h : MS WB W it r rn mm left mn bs) (hi : IterIs C2.key Value.bool okC W' it r mm left') (hg : W.grownBy W' (some it)) : MS WB W' it r rn mm left' mn bs :=
 ⟨h.lay.row hg (fun k e => by cases e; exact ⟨h.ge.1, fun b hb e => iter_not h.iter (h.lay.2 b hb).2 e.symm⟩), hi, h.map.grown hg (fun e => iter_notm h.iter h.map (Option.some.inj e).symm), h.ne, h.ge⟩
end
def gB (s : Nat) : Bool × Bool := (s % 2 == 1, s / 2 % 2 == 1)
def SetP (fr to n al xf f0 f1 : Int) (c : C2) (s : Nat) (d : C2) : Prop := ∃ i, i < s ∧ stepB fr to n al xf f0 f1 c (gB i) = true ∧ d = (dropP fr to c.1 (gB i).1, dropP fr to c.2 (gB i).2)
theorem setP_zero {fr to n al xf f0 f1 : Int} {c d : C2} : ¬ SetP fr to n al xf f0 f1 c 0 d := fun ⟨_, h, _⟩ => absurd h (Nat.not_lt_zero _)
theorem setP_succ {fr to n al xf f0 f1 : Int} {c d : C2} {s : Nat} : SetP fr to n al xf f0 f1 c (s + 1) d ↔ SetP fr to n al xf f0 f1 c s d ∨ (stepB fr to n al xf f0 f1 c (gB s) = true ∧ d = (dropP fr to c.1 (gB s).1, dropP fr to c.2 (gB s).2)) := by
 constructor
 ·rintro ⟨i, h1, h2⟩
  rcases Nat.lt_or_ge i s with h | h
  ·exact .inl ⟨i, h, h2⟩
  ·obtain rfl : i = s := by omega
   exact .inr h2
 ·rintro (⟨i, h1, h2⟩ | h)
  ·exact ⟨i, by omega, h2⟩
  ·exact ⟨s, by omega, h⟩
theorem setP_four {fr to n al xf f0 f1 : Int} {c d : C2} : SetP fr to n al xf f0 f1 c 4 d ↔ StepP fr to n al xf f0 f1 c d := by
 rw [← mem_stepL]
 unfold stepL
 rw [List.mem_map]
 constructor
 ·rintro ⟨i, h1, h2, rfl⟩
  refine ⟨gB i, List.mem_filter.2 ⟨?_, h2⟩, rfl⟩
  match i, h1 with
  | 0, _ => decide
  | 1, _ => decide
  | 2, _ => decide
  | 3, _ => decide
 ·rintro ⟨g, h1, rfl⟩
  obtain ⟨h2, h3⟩ := List.mem_filter.1 h1
  unfold sets4 at h2
  simp only [List.mem_cons, List.not_mem_nil, or_false] at h2
  rcases h2 with rfl | rfl | rfl | rfl
  ·exact ⟨0, by omega, h3, rfl⟩
  ·exact ⟨2, by omega, h3, rfl⟩
  ·exact ⟨1, by omega, h3, rfl⟩
  ·exact ⟨3, by omega, h3, rfl⟩
def GoneP2 (fr to n al xf f0 f1 : Int) (mm left : List (C2 × Bool)) (d : C2) : Prop := ∃ p ∈ mm, (∀ q ∈ left, q.1 ≠ p.1) ∧ StepP fr to n al xf f0 f1 p.1 d
theorem goneP_start {fr to n al xf f0 f1 : Int} {mm : List (C2 × Bool)} {d : C2} : ¬ GoneP2 fr to n al xf f0 f1 mm mm d := fun ⟨p, h1, h2, _⟩ => h2 p h1 rfl
theorem goneP_step {fr to n al xf f0 f1 : Int} {mm left : List (C2 × Bool)} {i : Nat} {y : C2} {v : Bool} (hn : (left.map Prod.fst).Nodup) (hp : left[i]? = some (y, v)) (hm : (y, v) ∈ mm) (d : C2) :
  GoneP2 fr to n al xf f0 f1 mm (left.eraseIdx i) d ↔ GoneP2 fr to n al xf f0 f1 mm left d ∨ StepP fr to n al xf f0 f1 y d := by
 have hpe : left.Perm ((y, v) :: left.eraseIdx i) := (perm_erase hp).symm
 have hnd : ∀ q ∈ left.eraseIdx i, q.1 ≠ y := by
  have h1 := (hpe.map Prod.fst).nodup_iff.1 hn
  rw [List.map_cons, List.nodup_cons] at h1
  exact fun q hq e => h1.1 (List.mem_map.2 ⟨q, hq, e⟩)
 constructor
 ·rintro ⟨p, h1, h2, h3⟩
  by_cases e : p.1 = y
  ·right
   rw [← e]
   exact h3
  ·left
   refine ⟨p, h1, fun q hq => ?_, h3⟩
   rcases List.mem_cons.1 (hpe.mem_iff.1 hq) with rfl | hq
   ·exact fun h => e h.symm
   ·exact h2 q hq
 ·rintro (⟨p, h1, h2, h3⟩ | h)
  ·exact ⟨p, h1, fun q hq => h2 q (hpe.mem_iff.2 (List.mem_cons_of_mem _ hq)), h3⟩
  ·exact ⟨(y, v), hm, hnd, h⟩
theorem goneP_end {m : Mix} {A : List Held} {f0 f1 : Int} {t : Nat} {x : MAct} {all : Held} {mm : List (C2 × Bool)} (hx : m.acts[t]? = some x) (ha : A[t]? = some all) (hm : CpIs mm (NowP m A f0 f1 t)) (d : C2) :
  GoneP2 (fromI m x) (toI m x) (sizeA m all x) (heldAt all (fromI m x)) x.fr f0 f1 mm [] d ↔ NowP m A f0 f1 (t + 1) d := by
 unfold NowP
 constructor
 ·rintro ⟨p, h1, _, h3⟩
  exact ⟨p.1, x, all, (hm.keys p.1).1 ⟨p.2, h1⟩, hx, ha, h3⟩
 ·rintro ⟨c, x', al, h1, h2, h3, h4⟩
  rw [hx] at h2
  cases h2
  rw [ha] at h3
  cases h3
  obtain ⟨v, hv⟩ := (hm.keys c).2 h1
  exact ⟨(c, v), hv, fun q hq => (by cases hq), h4⟩
theorem left_nodup {left : List (C2 × Bool)} {i : Nat} (hn : (left.map Prod.fst).Nodup) : ((left.eraseIdx i).map Prod.fst).Nodup := hn.sublist ((List.eraseIdx_sublist _ _).map _)
end
section
open Go.RowKit
def PlacedOut (MA : World → Nat → Prop) (ca : Nat) (w : World) (m : Mix) (vessel after : Int) (fs : List Int) (e : Ending) (w' : World) : Prop :=
 ∃ p s1 s2, e = .returned (.tuple #[.pointer p, .agg #[.int .i64 s1, .int .i64 s2], .int .i64 (askM m vessel after fs)]) ∧ Below w.heap.size w w' ∧ (askM m vessel after fs = 0 → okMix m = true ∧ s1 = idxV m.vessels vessel ∧ s2 = after ∧ 0 ≤ s1 ∧ (0 ≤ after ∧ after ≤ m.acts.length) ∧
  ∃ T : Tb, p = some ⟨T.g, 0, none⟩ ∧ T.m = m ∧ allM m m.acts = some T.L ∧ w.heap.size ≤ T.g ∧ TbOwn w' w.heap.size T ∧ (∀ W B, MA W B → MixAt W B T.Av T.nv T.Aa T.na T.At T.nt T.m) ∧ T.ca = ca)
section
variable {MA : World → Nat → Prop} {ca : Nat} {w w' : World} {m : Mix} {vessel after a b : Int} {fs : List Int}
theorem PlacedOut.bad {p : Option Addr} (h : askM m vessel after fs ≠ 0) (hb : Below w.heap.size w w') : PlacedOut MA ca w m vessel after fs (.returned (.tuple #[.pointer p, .agg #[.int .i64 a, .int .i64 b], .int .i64 (askM m vessel after fs)])) w' :=
 ⟨_, _, _, rfl, hb, fun h' => absurd h' h⟩
theorem PlacedOut.good (T : Tb) (h : askM m vessel after fs = 0) (hk : okMix m = true) (hm : T.m = m) (hL : allM m m.acts = some T.L) (hi : idxV m.vessels vessel = a) (h0 : 0 ≤ a) (hr : 0 ≤ after ∧ after ≤ m.acts.length) (hb : Below w.heap.size w w') (hg : w.heap.size ≤ T.g) (hT : TbOwn w' w.heap.size T) (hMA : (∀ W B, MA W B → MixAt W B T.Av T.nv T.Aa T.na T.At T.nt T.m) ∧ T.ca = ca) :
  PlacedOut MA ca w m vessel after fs (.returned (.tuple #[.pointer (some ⟨T.g, 0, none⟩), .agg #[.int .i64 a, .int .i64 after], .int .i64 (askM m vessel after fs)])) w' :=
 ⟨_, _, _, rfl, hb, fun _ => ⟨hk, hi.symm, rfl, h0, hr, T, rfl, hm, hL, hg, hT, hMA⟩⟩
theorem inB_all {lo hi : Int} {l : List Int} (h : ∀ f ∈ l, lo ≤ f ∧ f ≤ hi) : inB lo hi l = true := by
 unfold inB
 rw [Bool.not_eq_true', List.any_eq_false]
 intro x hx
 have := h x hx
 simp
 omega
theorem all_inB {lo hi : Int} {l : List Int} (h : inB lo hi l = true) : ∀ f ∈ l, lo ≤ f ∧ f ≤ hi := by
 unfold inB at h
 rw [Bool.not_eq_true', List.any_eq_false] at h
 intro x hx
 have := h x hx
 simp at this
 omega
end
theorem TbOwn.off {W W' : World} {T : Tb} {B B1 g0 : Nat} (hT : TbOwn W B1 T) (hg : W.grownBy W' (some g0)) (hg0 : g0 < B1) (hB : B ≤ B1) (hm : MixAt W' B T.Av T.nv T.Aa T.na T.At T.nt T.m) : TbOwn W' B T :=
 ⟨hT.blk.grown hg (fun e => by have := hT.le.2; cases e; omega), hm, (hT.own.grown hg (fun a ha e => by have := (hT.own.lt ha).1; have := Option.some.inj e; omega)).mono hB, hT.ne, ⟨Nat.le_trans hB (Nat.le_trans hT.le.1 hg.size), Nat.le_trans hB hT.le.2⟩, hT.small⟩
set_option maxRecDepth 100000 in
set_option maxHeartbeats 8000000 in
theorem placed_in (Av : Option Addr) (nv cv : Nat) (Aa : Option Addr) (na ca : Nat) (At : Option Addr) (nt ct : Nat) (m : Mix) (vessel after : Int) (Af : Option Addr) (nf cf : Nat) (fs : List Int) (w : World) (h : MixS w Av nv Aa na At nt m) (hf : IntsAt w w.heap.size Af nf fs) (hnf : nf ≤ maxLen) :
  CallsIn Fence.wide 9 Try.prog 56 #[.agg #[.int .i64 m.fountains, .slice Av nv cv, .slice Aa na ca, .slice At nt ct], .int .i64 vessel, .int .i64 after, .slice Af nf cf] w (PlacedOut (fun W B => MixAt W B Av nv Aa na At nt m) ca w m vessel after fs) := by
 have HM := lh h
 have HLA := lh h.at_.lenA
 have HFS := lh hf
 clear h hf
 refine callsIn_of_wp Try.func56 rfl trivial ?_ rfl
 simp only [Try.ntmps56, List.size_toArray, List.length_cons, List.length_nil, Nat.reduceAdd, Nat.reduceSub, Array.replicate_succ, Array.replicate_zero, List.push_toArray, List.append_toArray, List.nil_append, List.cons_append]
 gi_upto_region 1 with fail
 have Ly := lh (Lay.two w 26 #[.int .i64 m.fountains, .slice Av nv cv, .slice Aa na ca, .slice At nt ct] 118 #[.int .i64 0, .int .i64 0])
 generalize ((w.alloc (.cells #[.int .i64 m.fountains, .slice Av nv cv, .slice Aa na ca, .slice At nt ct] 26)).alloc (.cells #[.int .i64 0, .int .i64 0] 118)) = w0 at *
 have HG0 := lh (Ly.out.lt 1 rfl)
 have HB0 := lh Ly.out.1.size
 obtain ⟨x0_0, x0_1, x0_2, x0_3⟩ := lyc4 Ly 0 rfl
 have l0_ := Ly.out.lt 0 rfl
 gi_wp2
 clear x0_0 x0_1 x0_2 x0_3 l0_
 refine ⟨trivial, (callsIn_wide.2 (MixS.laid (HM.out.up Ly.out.1))).mono ?_⟩
 rintro e W1 ⟨p, rfl, hb, hp⟩
 have HP := lh hp
 clear hp
 replace Ly := lyb Ly hb
 clear hb
 cases hk : okMix m with
 | false =>
  have HA : Hid (askM m vessel after fs = 40) := lh (by unfold askM; rw [hk]; rfl)
  clear hk
  have x1_0 := lyc Ly 1 rfl 0
  have z1_0 := lyf Ly 1 rfl 0
  have x1_1 := lyc Ly 1 rfl 1
  have z1_1 := lyf Ly 1 rfl 1
  have l1_ := Ly.out.lt 1 rfl
  gi_wp2
  have R2 := ret2' (Ly.out.blk 1 rfl) Ly.out.1 (Ly.out.ge 1 rfl) (.int .i64 (0)) (.int .i64 (0))
  have v0 := R2.1.cell 0
  have v1 := R2.1.cell 1
  refine bodyPost_ret (v := .tuple #[.pointer none, .agg #[.int .i64 (0), .int .i64 (0)], .int .i64 (40)]) (by simp [results, Try.results56, go_sem, v0, v1]) rfl ?_
  rw [← HA.out]
  exact PlacedOut.bad (by rw [HA.out]; decide) R2.2.1
 | true =>
  obtain ⟨g, AA, nl, cl, L, rfl, hg, hL, hT⟩ := HP.out hk
  obtain ⟨T, hTT⟩ : ∃ T : Tb, T = ⟨g, Av, nv, cv, Aa, na, ca, At, nt, ct, AA, nl, cl, m, L⟩ := ⟨_, rfl⟩
  have hTg : g = T.g := by rw [hTT]
  have hTm : T.m = m := by rw [hTT]
  have HMX : Hid ((∀ W B, MixAt W B Av nv Aa na At nt m → MixAt W B T.Av T.nv T.Aa T.na T.At T.nt T.m) ∧ T.ca = ca) := lh (by rw [hTT]; exact ⟨fun _ _ h => h, rfl⟩)
  have HTL : Hid (allM m m.acts = some T.L) := lh (by rw [hTT]; exact hL)
  rw [← hTT] at hT
  subst hTg
  have HK := lh hk
  have HT := lh hT
  have HG := lh hg
  have HTM := lh hTm
  clear HP hTT hL hg hT hk hTm
  obtain ⟨x0_0, x0_1, x0_2, x0_3⟩ := lyc4 Ly 0 rfl
  have l0_ := Ly.out.lt 0 rfl
  gi_wp2
  clear x0_0 x0_1 x0_2 x0_3 l0_
  refine ⟨trivial, (callsIn_wide.2 (vessel_any T vessel W1 HT.out.at_)).mono ?_⟩
  rintro e W2 ⟨rfl, hb⟩
  replace Ly := lyb Ly hb
  replace HT := lh (HT.out.below hb)
  clear hb
  rw [HTM.out]
  obtain ⟨ix, hix⟩ : ∃ ix, idxV m.vessels vessel = ix := ⟨_, rfl⟩
  rw [hix]
  have HIX := lh hix
  clear hix
  obtain ⟨x0_0, x0_1, x0_2, x0_3⟩ := lyc4 Ly 0 rfl
  have l0_ := Ly.out.lt 0 rfl
  gi_upto_region 5 with fail
  clear x0_0 x0_1 x0_2 x0_3 l0_
  obtain ⟨V3, hV⟩ : ∃ V, (W2.alloc (.cells #[.int .i64 ix, .int .i64 after] 118)) = V := ⟨_, rfl⟩
  rw [hV]
  have hb := fbox_bel hV
  have hnew := fbox_blk hV
  have hge := Ly.out.bel.size
  replace Ly := lyb Ly hb
  replace HT := lh (HT.out.below hb)
  replace Ly := lh (Ly.out.add hge hnew)
  clear hnew hge hb hV
  obtain ⟨G4, hG⟩ : ∃ g, W2.heap.size = g := ⟨_, rfl⟩
  rw [hG] at Ly ⊢
  clear hG
  by_cases h6 : ix < 0
  ·
   have HA : Hid (askM m vessel after fs = 6) := lh (by unfold askM; rw [if_pos HK.out, HIX.out, if_pos h6])
   have x1_0 := lyc Ly 1 rfl 0
   have z1_0 := lyf Ly 1 rfl 0
   have x1_1 := lyc Ly 1 rfl 1
   have z1_1 := lyf Ly 1 rfl 1
   have l1_ := Ly.out.lt 1 rfl
   obtain ⟨x2_0, x2_1⟩ := lyc2 Ly 2 rfl
   have l2_ := Ly.out.lt 2 rfl
   gi_wp2
   gi_region
   all_goals gi_wp2
   all_goals
    have R2 := ret2' (Ly.out.blk 1 rfl) Ly.out.1 (Ly.out.ge 1 rfl) (.int .i64 (ix)) (.int .i64 (after))
    have v0 := R2.1.cell 0
    have v1 := R2.1.cell 1
    refine bodyPost_ret (v := .tuple #[.pointer none, .agg #[.int .i64 (ix), .int .i64 (after)], .int .i64 (6)]) (by simp [results, Try.results56, go_sem, v0, v1]) rfl ?_
    rw [← HA.out]
    exact PlacedOut.bad (by rw [HA.out]; decide) (below_drewN R2.2.1 1)
  ·
   have H6 := lh h6
   obtain ⟨x0_0, x0_1, x0_2, x0_3⟩ := lyc4 Ly 0 rfl
   have l0_ := Ly.out.lt 0 rfl
   obtain ⟨x2_0, x2_1⟩ := lyc2 Ly 2 rfl
   have l2_ := Ly.out.lt 2 rfl
   gi_wp2
   clear x0_0 x0_1 x0_2 x0_3 l0_ x2_0 x2_1 l2_
   have Y := IntsAt.new V3 3 [after] (V3.heap.size + 1) (by omega)
   have hb1 : Below V3.heap.size V3 (V3.alloc (.cells #[.int .i64 after] 3)) := (Below.refl _ _).alloc (Nat.le_refl _) _
   have hc := in_any 0 na (some ⟨V3.heap.size, 0, none⟩) 1 1 [after] _ (Y.more (by simp)) (by decide)
   refine ⟨trivial, (callsIn_wide.2 hc).mono ?_⟩
   clear hc Y
   rintro e W8 ⟨rfl, hb⟩
   have hbb := hb1.trans (hb.mono hb1.size)
   clear hb hb1 h6
   replace Ly := lyb Ly hbb
   replace HT := lh (HT.out.below hbb)
   clear hbb
   by_cases hr : 0 ≤ after ∧ after ≤ na
   ·
    have hi : inB 0 na [after] = true := by rw [inB_one]; exact decide_eq_true hr
    rw [hi]
    have HR := lh hr
    clear hr hi
    obtain ⟨x0_0, x0_1, x0_2, x0_3⟩ := lyc4 Ly 0 rfl
    have l0_ := Ly.out.lt 0 rfl
    gi_wp2
    clear x0_0 x0_1 x0_2 x0_3 l0_
    refine ⟨trivial, (callsIn_wide.2 (in_any 1 m.fountains Af nf cf fs W8 (ints_up HFS.out Ly.out.1) hnf)).mono ?_⟩
    rintro e W5 ⟨rfl, hb⟩
    replace Ly := lyb Ly hb
    replace HT := lh (HT.out.below hb)
    clear hb
    cases hq : inB 1 m.fountains fs with
    | false =>
     have HA : Hid (askM m vessel after fs = 2) := lh (by unfold askM; rw [if_pos HK.out, HIX.out, if_neg (by have := H6.out; omega), if_neg (fun h => by rw [inB_all h.2] at hq; cases hq)])
     clear hq
     have x1_0 := lyc Ly 1 rfl 0
     have z1_0 := lyf Ly 1 rfl 0
     have x1_1 := lyc Ly 1 rfl 1
     have z1_1 := lyf Ly 1 rfl 1
     have l1_ := Ly.out.lt 1 rfl
     obtain ⟨x2_0, x2_1⟩ := lyc2 Ly 2 rfl
     have l2_ := Ly.out.lt 2 rfl
     gi_wp2
     gi_region
     all_goals gi_wp2
     all_goals
      have R2 := ret2' (Ly.out.blk 1 rfl) Ly.out.1 (Ly.out.ge 1 rfl) (.int .i64 (ix)) (.int .i64 (after))
      have v0 := R2.1.cell 0
      have v1 := R2.1.cell 1
      refine bodyPost_ret (v := .tuple #[.pointer none, .agg #[.int .i64 (ix), .int .i64 (after)], .int .i64 (2)]) (by simp [results, Try.results56, go_sem, v0, v1]) rfl ?_
      rw [← HA.out]
      exact PlacedOut.bad (by rw [HA.out]; decide) (below_drewN R2.2.1 1)
    | true =>
     have HA : Hid (askM m vessel after fs = 0) := lh (by unfold askM; rw [if_pos HK.out, HIX.out, if_neg (by have := H6.out; omega), if_pos ⟨by rw [HLA.out]; exact HR.out, all_inB hq⟩])
     clear hq
     have x1_0 := lyc Ly 1 rfl 0
     have z1_0 := lyf Ly 1 rfl 0
     have x1_1 := lyc Ly 1 rfl 1
     have z1_1 := lyf Ly 1 rfl 1
     have l1_ := Ly.out.lt 1 rfl
     obtain ⟨x2_0, x2_1⟩ := lyc2 Ly 2 rfl
     have l2_ := Ly.out.lt 2 rfl
     gi_wp2
     gi_region
     all_goals gi_wp2
     all_goals
      have R2 := ret2' (Ly.out.blk 1 rfl) Ly.out.1 (Ly.out.ge 1 rfl) (.int .i64 (ix)) (.int .i64 (after))
      have v0 := R2.1.cell 0
      have v1 := R2.1.cell 1
      refine bodyPost_ret (v := .tuple #[.pointer (some ⟨T.g, 0, none⟩), .agg #[.int .i64 (ix), .int .i64 (after)], .int .i64 (0)]) (by simp [results, Try.results56, go_sem, v0, v1]) rfl ?_
      rw [← HA.out]
      exact PlacedOut.good T HA.out HK.out HTM.out HTL.out HIX.out (by have := H6.out; omega) (by rw [HLA.out]; exact HR.out) (below_drewN R2.2.1 1) (Nat.le_trans HB0.out HG.out) ((HT.out.off R2.2.2 HG0.out HB0.out (HMX.out.1 _ _ (HM.out.at_.below R2.2.1))).below (below_drewN (Below.refl _ _) 1)) HMX.out
   ·
    have hi : inB 0 na [after] = false := by rw [inB_one]; exact decide_eq_false hr
    rw [hi]
    have HA : Hid (askM m vessel after fs = 2) := lh (by unfold askM; rw [if_pos HK.out, HIX.out, if_neg (by have := H6.out; omega), if_neg (fun h => hr (by rw [HLA.out] at h; exact h.1))])
    clear hr hi
    obtain ⟨x0_0, x0_1, x0_2, x0_3⟩ := lyc4 Ly 0 rfl
    have l0_ := Ly.out.lt 0 rfl
    gi_wp2
    refine ⟨trivial, ?_⟩
    clear x0_0 x0_1 x0_2 x0_3 l0_
    have x1_0 := lyc Ly 1 rfl 0
    have z1_0 := lyf Ly 1 rfl 0
    have x1_1 := lyc Ly 1 rfl 1
    have z1_1 := lyf Ly 1 rfl 1
    have l1_ := Ly.out.lt 1 rfl
    obtain ⟨x2_0, x2_1⟩ := lyc2 Ly 2 rfl
    have l2_ := Ly.out.lt 2 rfl
    gi_wp2
    gi_region
    all_goals gi_wp2
    all_goals
     have R2 := ret2' (Ly.out.blk 1 rfl) Ly.out.1 (Ly.out.ge 1 rfl) (.int .i64 (ix)) (.int .i64 (after))
     have v0 := R2.1.cell 0
     have v1 := R2.1.cell 1
     refine bodyPost_ret (v := .tuple #[.pointer none, .agg #[.int .i64 (ix), .int .i64 (after)], .int .i64 (2)]) (by simp [results, Try.results56, go_sem, v0, v1]) rfl ?_
     rw [← HA.out]
     exact PlacedOut.bad (by rw [HA.out]; decide) (below_drewN R2.2.1 1)
end
section
open Go.RowKit
structure Ey1 {α : Type} (P : α → Prop) : Prop where
 ex : ∃ a, P a
structure Ey2 {α β : Type} (P : α → β → Prop) : Prop where
 ex : ∃ a b, P a b
structure Ey3 {α β γ : Type} (P : α → β → γ → Prop) : Prop where
 ex : ∃ a b c, P a b c
theorem cp_first {m : Mix} {A : List Held} {f0 f1 : Int} : CpIs [((-1, -1), true)] (NowP m A f0 f1 0) := ⟨(fun p hp => by obtain rfl := List.mem_singleton.1 hp; rfl), fun x => by
 unfold NowP
 constructor
 ·rintro ⟨v, hv⟩
  exact congrArg Prod.fst (List.mem_singleton.1 hv)
 ·rintro rfl
  exact ⟨true, List.mem_singleton.2 rfl⟩⟩
def KSt (fr to xf f0 f1 y1 y2 : Int) (g : Bool × Bool) (j : Nat) (d1 d2 mv st : Int) (rb : Bool) : Prop :=
 d1 = (if 0 < j then dropP fr to y1 g.1 else y1) ∧ d2 = (if 1 < j then dropP fr to y2 g.2 else y2) ∧
 mv = (if 0 < j ∧ 0 ≤ fr then b1 g.1 else 0) + (if 1 < j ∧ 0 ≤ fr then b1 g.2 else 0) ∧
 st = (if 0 < j ∧ 0 ≤ fr then b1 (!g.1 && decide (y1 = fr)) else 0) + (if 1 < j ∧ 0 ≤ fr then b1 (!g.2 && decide (y2 = fr)) else 0) ∧
 rb = ((if 0 < j then rightB fr xf f0 y1 g.1 else true) && (if 1 < j then rightB fr xf f1 y2 g.2 else true))
theorem kst_zero {fr to xf f0 f1 y1 y2 : Int} {g : Bool × Bool} : KSt fr to xf f0 f1 y1 y2 g 0 y1 y2 0 0 true := by unfold KSt; simp
theorem KSt.of {fr to xf f0 f1 y1 y2 : Int} {g : Bool × Bool} {j : Nat} {d1 d2 mv st d1' d2' mv' st' : Int} {rb rb' : Bool} (h : KSt fr to xf f0 f1 y1 y2 g j d1 d2 mv st rb) (e1 : d1' = d1) (e2 : d2' = d2) (e3 : mv' = mv) (e4 : st' = st) (e5 : rb' = rb) : KSt fr to xf f0 f1 y1 y2 g j d1' d2' mv' st' rb' := by
 subst e1 e2 e3 e4 e5
 exact h
theorem kst_one {fr to xf f0 f1 y1 y2 : Int} {g : Bool × Bool} : KSt fr to xf f0 f1 y1 y2 g 1 (dropP fr to y1 g.1) y2 (if 0 ≤ fr then b1 g.1 else 0) (if 0 ≤ fr then b1 (!g.1 && decide (y1 = fr)) else 0) (rightB fr xf f0 y1 g.1) := by unfold KSt; simp
theorem kst_two {fr to xf f0 f1 y1 y2 : Int} {g : Bool × Bool} {d1 d2 mv st : Int} {rb : Bool} (h : KSt fr to xf f0 f1 y1 y2 g 1 d1 d2 mv st rb) : KSt fr to xf f0 f1 y1 y2 g 2 d1 (dropP fr to y2 g.2) (mv + if 0 ≤ fr then b1 g.2 else 0) (st + if 0 ≤ fr then b1 (!g.2 && decide (y2 = fr)) else 0) (rb && rightB fr xf f1 y2 g.2) := by
 obtain ⟨rfl, _, rfl, rfl, rfl⟩ := h
 unfold KSt
 simp
section
variable {fr to y xf f : Int} {g : Bool}
theorem dropP_neg (hg : g = true) (hf : fr < 0) : dropP fr to y g = to := by unfold dropP; rw [if_pos hg, if_pos hf]
theorem dropP_gone (hg : g = true) (hf : 0 ≤ fr) (ht : to < 0) : dropP fr to y g = -2 := by unfold dropP; rw [if_pos hg, if_neg (by omega), if_pos ht]
theorem dropP_pos (hg : g = true) (hf : 0 ≤ fr) (ht : 0 ≤ to) : dropP fr to y g = to := by unfold dropP; rw [if_pos hg, if_neg (by omega), if_neg (by omega)]
theorem dropP_stay (hg : g = false) : dropP fr to y g = y := by unfold dropP; rw [if_neg (by rw [hg]; decide)]
theorem b1if_neg (hf : fr < 0) : (if 0 ≤ fr then b1 g else 0) = 0 := by rw [if_neg (by omega)]
theorem b1if_t (hg : g = true) (hf : 0 ≤ fr) : (if 0 ≤ fr then b1 g else 0) = 1 := by rw [if_pos hf, hg]; rfl
theorem b1if_f (hg : g = false) : (if 0 ≤ fr then b1 g else 0) = 0 := by split; rw [hg]; rfl; rfl
theorem stif_neg (hf : fr < 0) : (if 0 ≤ fr then b1 (!g && decide (y = fr)) else 0) = 0 := by rw [if_neg (by omega)]
theorem stif_t (hg : g = true) : (if 0 ≤ fr then b1 (!g && decide (y = fr)) else 0) = 0 := by split; rw [hg]; rfl; rfl
theorem stif_1 (hg : g = false) (hf : 0 ≤ fr) (hy : y = fr) : (if 0 ≤ fr then b1 (!g && decide (y = fr)) else 0) = 1 := by rw [if_pos hf, hg, decide_eq_true hy]; rfl
theorem stif_0 (hg : g = false) (hf : 0 ≤ fr) (hy : ¬ y = fr) : (if 0 ≤ fr then b1 (!g && decide (y = fr)) else 0) = 0 := by rw [if_pos hf, hg, decide_eq_false hy]; rfl
theorem rightB_n1 (hg : g = true) (hf : fr < 0) (hy : y = -1) (hx : xf = f) : rightB fr xf f y g = true := by unfold rightB; rw [hg, if_pos hf, decide_eq_true hy, decide_eq_true hx]; rfl
theorem rightB_n2 (hg : g = true) (hf : fr < 0) (hy : y = -1) (hx : ¬ xf = f) : rightB fr xf f y g = false := by unfold rightB; rw [hg, if_pos hf, decide_eq_true hy, decide_eq_false hx]; rfl
theorem rightB_n0 (hg : g = true) (hf : fr < 0) (hy : ¬ y = -1) : rightB fr xf f y g = false := by unfold rightB; rw [hg, if_pos hf, decide_eq_false hy]; rfl
theorem rightB_p1 (hg : g = true) (hf : 0 ≤ fr) (hy : y = fr) : rightB fr xf f y g = true := by unfold rightB; rw [hg, if_neg (by omega), decide_eq_true hy]; rfl
theorem rightB_p0 (hg : g = true) (hf : 0 ≤ fr) (hy : ¬ y = fr) : rightB fr xf f y g = false := by unfold rightB; rw [hg, if_neg (by omega), decide_eq_false hy]; rfl
theorem rightB_s (hg : g = false) : rightB fr xf f y g = true := by unfold rightB; rw [hg]; rfl
end
theorem bits_0 {sv : Nat} (h : sv < 4) : (bits BinOp.and IntKind.i64 (sv : Int) 1 == 1) = (gB sv).1 := by
 match sv, h with
 | 0, _ => decide
 | 1, _ => decide
 | 2, _ => decide
 | 3, _ => decide
theorem bits_1 {sv : Nat} (h : sv < 4) : (bits BinOp.and IntKind.i64 ((sv : Int) / 2) 1 == 1) = (gB sv).2 := by
 match sv, h with
 | 0, _ => decide
 | 1, _ => decide
 | 2, _ => decide
 | 3, _ => decide
theorem b1_bd (b : Bool) : 0 ≤ b1 b ∧ b1 b ≤ 1 := by cases b <;> decide
theorem okZ_drop {fr to y : Int} {g : Bool} (ht : -1 ≤ to ∧ to < 4) (hy : okZ y) : okZ (dropP fr to y g) := by
 unfold dropP
 repeat' split
 ·exact okZ_of (by omega) (by omega)
 ·exact okZ_of (by decide) (by decide)
 ·exact okZ_of (by omega) (by omega)
 ·exact hy
theorem toI_bd {m : Mix} (hv : m.vessels.length ≤ 4) (x : MAct) : -1 ≤ toI m x ∧ toI m x < 4 := ⟨toI_ge1, toI_small hv x⟩
def MetOut (w : World) (m : Mix) (vessel after one other : Int) (e : Ending) (w' : World) : Prop := ∃ (b : Bool) (ee : Int), e = .returned (.tuple #[.bool b, .int .i64 ee]) ∧ MetIs m vessel after one other b ee ∧ Below w.heap.size w w'
inductive FrMetA (v3 v4 v5 v12 v13 v15 v54 v55 v56 : Value) : Act → Prop
 | mk (u0 u1 u2 u6 u7 u8 u9 u10 u11 u14 u16 u17 u18 u19 u20 u21 u22 u23 u24 u25 u26 u27 u28 u29 u30 u31 u32 u33 u34 u35 u36 u37 u38 u39 u40 u41 u42 u43 u44 u45 u46 u47 u48 u49 u50 u51 u52 u53 u57 u58 u59 u60 u61 u62 u63 u64 u65 u66 u67 u68 u69 u70 u71 u72 u73 u74 u75 u76 u77 u78 u79 u80 u81 u82 u83 u84 u85 u86 u87 u88 u89 u90 u91 u92 u93 u94 u95 u96 u97 u98 u99 u100 u101 u102 u103 u104 u105 u106 u107 u108 u109 u110 u111 u112 u113 u114 u115 u116 u117 u118 u119 u120 u121 u122 u123 u124 u125 u126 u127 u128 u129 u130 u131 u132 u133 u134 u135 u136 u137 u138 u139 u140 u141 u142 u143 u144 u145 u146 u147 u148 u149 u150 u151 u152 u153 u154 u155 u156 u157 u158 u159 u160 u161 u162 u163 u164 u165 u166 u167 u168 u169 u170 u171 u172 u173 u174 u175 u176 u177 u178 u179 u180 u181 u182 u183 u184 u185 u186 u187 : Value) : FrMetA v3 v4 v5 v12 v13 v15 v54 v55 v56 { tmps := #[u0, u1, u2, v3, v4, v5, u6, u7, u8, u9, u10, u11, v12, v13, u14, v15, u16, u17, u18, u19, u20, u21, u22, u23, u24, u25, u26, u27, u28, u29, u30, u31, u32, u33, u34, u35, u36, u37, u38, u39, u40, u41, u42, u43, u44, u45, u46, u47, u48, u49, u50, u51, u52, u53, v54, v55, v56, u57, u58, u59, u60, u61, u62, u63, u64, u65, u66, u67, u68, u69, u70, u71, u72, u73, u74, u75, u76, u77, u78, u79, u80, u81, u82, u83, u84, u85, u86, u87, u88, u89, u90, u91, u92, u93, u94, u95, u96, u97, u98, u99, u100, u101, u102, u103, u104, u105, u106, u107, u108, u109, u110, u111, u112, u113, u114, u115, u116, u117, u118, u119, u120, u121, u122, u123, u124, u125, u126, u127, u128, u129, u130, u131, u132, u133, u134, u135, u136, u137, u138, u139, u140, u141, u142, u143, u144, u145, u146, u147, u148, u149, u150, u151, u152, u153, u154, u155, u156, u157, u158, u159, u160, u161, u162, u163, u164, u165, u166, u167, u168, u169, u170, u171, u172, u173, u174, u175, u176, u177, u178, u179, u180, u181, u182, u183, u184, u185, u186, u187], defers := [] }
inductive FrMetB (v3 v4 v5 v12 v13 v15 v16 v17 v18 v19 v20 v21 v54 v55 v56 v72 : Value) : Act → Prop
 | mk (u0 u1 u2 u6 u7 u8 u9 u10 u11 u14 u22 u23 u24 u25 u26 u27 u28 u29 u30 u31 u32 u33 u34 u35 u36 u37 u38 u39 u40 u41 u42 u43 u44 u45 u46 u47 u48 u49 u50 u51 u52 u53 u57 u58 u59 u60 u61 u62 u63 u64 u65 u66 u67 u68 u69 u70 u71 u73 u74 u75 u76 u77 u78 u79 u80 u81 u82 u83 u84 u85 u86 u87 u88 u89 u90 u91 u92 u93 u94 u95 u96 u97 u98 u99 u100 u101 u102 u103 u104 u105 u106 u107 u108 u109 u110 u111 u112 u113 u114 u115 u116 u117 u118 u119 u120 u121 u122 u123 u124 u125 u126 u127 u128 u129 u130 u131 u132 u133 u134 u135 u136 u137 u138 u139 u140 u141 u142 u143 u144 u145 u146 u147 u148 u149 u150 u151 u152 u153 u154 u155 u156 u157 u158 u159 u160 u161 u162 u163 u164 u165 u166 u167 u168 u169 u170 u171 u172 u173 u174 u175 u176 u177 u178 u179 u180 u181 u182 u183 u184 u185 u186 u187 : Value) : FrMetB v3 v4 v5 v12 v13 v15 v16 v17 v18 v19 v20 v21 v54 v55 v56 v72 { tmps := #[u0, u1, u2, v3, v4, v5, u6, u7, u8, u9, u10, u11, v12, v13, u14, v15, v16, v17, v18, v19, v20, v21, u22, u23, u24, u25, u26, u27, u28, u29, u30, u31, u32, u33, u34, u35, u36, u37, u38, u39, u40, u41, u42, u43, u44, u45, u46, u47, u48, u49, u50, u51, u52, u53, v54, v55, v56, u57, u58, u59, u60, u61, u62, u63, u64, u65, u66, u67, u68, u69, u70, u71, v72, u73, u74, u75, u76, u77, u78, u79, u80, u81, u82, u83, u84, u85, u86, u87, u88, u89, u90, u91, u92, u93, u94, u95, u96, u97, u98, u99, u100, u101, u102, u103, u104, u105, u106, u107, u108, u109, u110, u111, u112, u113, u114, u115, u116, u117, u118, u119, u120, u121, u122, u123, u124, u125, u126, u127, u128, u129, u130, u131, u132, u133, u134, u135, u136, u137, u138, u139, u140, u141, u142, u143, u144, u145, u146, u147, u148, u149, u150, u151, u152, u153, u154, u155, u156, u157, u158, u159, u160, u161, u162, u163, u164, u165, u166, u167, u168, u169, u170, u171, u172, u173, u174, u175, u176, u177, u178, u179, u180, u181, u182, u183, u184, u185, u186, u187], defers := [] }
inductive FrMetC (v3 v4 v5 v12 v13 v15 v16 v17 v18 v19 v20 v21 v22 v54 v55 v56 v72 v77 : Value) : Act → Prop
 | mk (u0 u1 u2 u6 u7 u8 u9 u10 u11 u14 u23 u24 u25 u26 u27 u28 u29 u30 u31 u32 u33 u34 u35 u36 u37 u38 u39 u40 u41 u42 u43 u44 u45 u46 u47 u48 u49 u50 u51 u52 u53 u57 u58 u59 u60 u61 u62 u63 u64 u65 u66 u67 u68 u69 u70 u71 u73 u74 u75 u76 u78 u79 u80 u81 u82 u83 u84 u85 u86 u87 u88 u89 u90 u91 u92 u93 u94 u95 u96 u97 u98 u99 u100 u101 u102 u103 u104 u105 u106 u107 u108 u109 u110 u111 u112 u113 u114 u115 u116 u117 u118 u119 u120 u121 u122 u123 u124 u125 u126 u127 u128 u129 u130 u131 u132 u133 u134 u135 u136 u137 u138 u139 u140 u141 u142 u143 u144 u145 u146 u147 u148 u149 u150 u151 u152 u153 u154 u155 u156 u157 u158 u159 u160 u161 u162 u163 u164 u165 u166 u167 u168 u169 u170 u171 u172 u173 u174 u175 u176 u177 u178 u179 u180 u181 u182 u183 u184 u185 u186 u187 : Value) : FrMetC v3 v4 v5 v12 v13 v15 v16 v17 v18 v19 v20 v21 v22 v54 v55 v56 v72 v77 { tmps := #[u0, u1, u2, v3, v4, v5, u6, u7, u8, u9, u10, u11, v12, v13, u14, v15, v16, v17, v18, v19, v20, v21, v22, u23, u24, u25, u26, u27, u28, u29, u30, u31, u32, u33, u34, u35, u36, u37, u38, u39, u40, u41, u42, u43, u44, u45, u46, u47, u48, u49, u50, u51, u52, u53, v54, v55, v56, u57, u58, u59, u60, u61, u62, u63, u64, u65, u66, u67, u68, u69, u70, u71, v72, u73, u74, u75, u76, v77, u78, u79, u80, u81, u82, u83, u84, u85, u86, u87, u88, u89, u90, u91, u92, u93, u94, u95, u96, u97, u98, u99, u100, u101, u102, u103, u104, u105, u106, u107, u108, u109, u110, u111, u112, u113, u114, u115, u116, u117, u118, u119, u120, u121, u122, u123, u124, u125, u126, u127, u128, u129, u130, u131, u132, u133, u134, u135, u136, u137, u138, u139, u140, u141, u142, u143, u144, u145, u146, u147, u148, u149, u150, u151, u152, u153, u154, u155, u156, u157, u158, u159, u160, u161, u162, u163, u164, u165, u166, u167, u168, u169, u170, u171, u172, u173, u174, u175, u176, u177, u178, u179, u180, u181, u182, u183, u184, u185, u186, u187], defers := [] }
inductive FrMetD (v3 v4 v5 v12 v13 v15 v16 v17 v18 v19 v20 v21 v22 v23 v24 v25 v26 v27 v54 v55 v56 v72 v77 v83 v84 : Value) : Act → Prop
 | mk (u0 u1 u2 u6 u7 u8 u9 u10 u11 u14 u28 u29 u30 u31 u32 u33 u34 u35 u36 u37 u38 u39 u40 u41 u42 u43 u44 u45 u46 u47 u48 u49 u50 u51 u52 u53 u57 u58 u59 u60 u61 u62 u63 u64 u65 u66 u67 u68 u69 u70 u71 u73 u74 u75 u76 u78 u79 u80 u81 u82 u85 u86 u87 u88 u89 u90 u91 u92 u93 u94 u95 u96 u97 u98 u99 u100 u101 u102 u103 u104 u105 u106 u107 u108 u109 u110 u111 u112 u113 u114 u115 u116 u117 u118 u119 u120 u121 u122 u123 u124 u125 u126 u127 u128 u129 u130 u131 u132 u133 u134 u135 u136 u137 u138 u139 u140 u141 u142 u143 u144 u145 u146 u147 u148 u149 u150 u151 u152 u153 u154 u155 u156 u157 u158 u159 u160 u161 u162 u163 u164 u165 u166 u167 u168 u169 u170 u171 u172 u173 u174 u175 u176 u177 u178 u179 u180 u181 u182 u183 u184 u185 u186 u187 : Value) : FrMetD v3 v4 v5 v12 v13 v15 v16 v17 v18 v19 v20 v21 v22 v23 v24 v25 v26 v27 v54 v55 v56 v72 v77 v83 v84 { tmps := #[u0, u1, u2, v3, v4, v5, u6, u7, u8, u9, u10, u11, v12, v13, u14, v15, v16, v17, v18, v19, v20, v21, v22, v23, v24, v25, v26, v27, u28, u29, u30, u31, u32, u33, u34, u35, u36, u37, u38, u39, u40, u41, u42, u43, u44, u45, u46, u47, u48, u49, u50, u51, u52, u53, v54, v55, v56, u57, u58, u59, u60, u61, u62, u63, u64, u65, u66, u67, u68, u69, u70, u71, v72, u73, u74, u75, u76, v77, u78, u79, u80, u81, u82, v83, v84, u85, u86, u87, u88, u89, u90, u91, u92, u93, u94, u95, u96, u97, u98, u99, u100, u101, u102, u103, u104, u105, u106, u107, u108, u109, u110, u111, u112, u113, u114, u115, u116, u117, u118, u119, u120, u121, u122, u123, u124, u125, u126, u127, u128, u129, u130, u131, u132, u133, u134, u135, u136, u137, u138, u139, u140, u141, u142, u143, u144, u145, u146, u147, u148, u149, u150, u151, u152, u153, u154, u155, u156, u157, u158, u159, u160, u161, u162, u163, u164, u165, u166, u167, u168, u169, u170, u171, u172, u173, u174, u175, u176, u177, u178, u179, u180, u181, u182, u183, u184, u185, u186, u187], defers := [] }
set_option maxRecDepth 100000 in
set_option maxHeartbeats 16000000 in
theorem met_in (Av : Option Addr) (nv cv : Nat) (Aa : Option Addr) (na ca : Nat) (At : Option Addr) (nt ct : Nat) (m : Mix) (vessel after one other : Int) (w : World) (h : MixS w Av nv Aa na At nt m) (hca : na ≤ ca ∧ ca ≤ maxLen) :
  CallsIn Fence.wide 9 Try.prog 24 #[.agg #[.int .i64 m.fountains, .slice Av nv cv, .slice Aa na ca, .slice At nt ct], .int .i64 vessel, .int .i64 after, .int .i64 one, .int .i64 other] w (MetOut w m vessel after one other) := by
 have hmm := @run_makeMap Try.prog
 have HM := lh h
 clear h
 refine callsIn_of_wp Try.func24 rfl trivial ?_ rfl
 simp only [Try.ntmps24, List.size_toArray, List.length_cons, List.length_nil, Nat.reduceAdd, Nat.reduceSub, Array.replicate_succ, Array.replicate_zero, List.push_toArray, List.append_toArray, List.nil_append, List.cons_append]
 gi_upto_region 1 with fail
 have Ly := lh (Lay.one w 26 #[.int .i64 m.fountains, .slice Av nv cv, .slice Aa na ca, .slice At nt ct])
 generalize (w.alloc (.cells #[.int .i64 m.fountains, .slice Av nv cv, .slice Aa na ca, .slice At nt ct] 26)) = w0 at *
 obtain ⟨x0_0, x0_1, x0_2, x0_3⟩ := lyc4 Ly 0 rfl
 have l0_ := Ly.out.lt 0 rfl
 gi_wp2
 clear x0_0 x0_1 x0_2 x0_3 l0_
 have Y := IntsAt.new w0 3 [one, other] (w0.heap.size + 1) (by omega)
 have hb1 : Below w0.heap.size w0 (w0.alloc (.cells #[.int .i64 one, .int .i64 other] 3)) := (Below.refl _ _).alloc (Nat.le_refl _) _
 have hc := placed_in Av nv cv Aa na ca At nt ct m vessel after (some ⟨w0.heap.size, 0, none⟩) 2 2 [one, other] _ (HM.out.up (Ly.out.1.trans (hb1.mono Ly.out.1.size))) (Y.more (by simp)) (by decide)
 refine ⟨trivial, (callsIn_wide.2 (callsIn_wide.1 hc)).mono ?_⟩
 clear hc Y
 generalize (w0.alloc (.cells #[.int .i64 one, .int .i64 other] 3)) = W00 at *
 rintro e W8 ⟨pp, s1, s2, rfl, hb, hp⟩
 have HP := lh hp
 have hbb := hb1.trans (hb.mono hb1.size)
 clear hb hb1 hp
 replace Ly := lyb Ly hbb
 clear hbb
 obtain ⟨ee, hee⟩ : ∃ ee, askM m vessel after [one, other] = ee := ⟨_, rfl⟩
 rw [hee] at HP ⊢
 have HEE := lh hee
 clear hee
 gi_upto_region 2 with fail
 obtain ⟨V1, hV⟩ : ∃ V, (W8.alloc (.cells #[.int .i64 s1, .int .i64 s2] 118)) = V := ⟨_, rfl⟩
 rw [hV]
 have hb := fbox_bel hV
 have hnew := fbox_blk hV
 have hge := Ly.out.bel.size
 have HBX := lh hb
 replace Ly := lyb Ly hb
 replace Ly := lh (Ly.out.add hge hnew)
 clear hnew hge hb hV
 obtain ⟨G2, hG⟩ : ∃ g, W8.heap.size = g := ⟨_, rfl⟩
 rw [hG] at Ly ⊢
 clear hG
 replace Ly := lh (show Lay w V1 [(w.heap.size, 26, #[.int .i64 m.fountains, .slice Av nv cv, .slice Aa na ca, .slice At nt ct]), (G2, 118, #[.int .i64 s1, .int .i64 s2])] from Ly.out)
 by_cases h0 : ee = 0
 ·
  obtain ⟨hk, h1, h2, h3, h4, T, rfl, hTm, hTL, hTg, hT, _⟩ := HP.out h0
  subst h0
  subst h2
  obtain ⟨q, hq⟩ : ∃ q : Nat, s1 = q := ⟨s1.toNat, by omega⟩
  subst hq
  obtain ⟨k, hkk⟩ : ∃ k : Nat, s2 = k := ⟨s2.toNat, by omega⟩
  subst hkk
  have hv4 := (okMix_vess hk).1
  have HQ : Hid (q < 4 ∧ (q : Int) = idxV m.vessels vessel ∧ k ≤ m.acts.length ∧ m.acts.length ≤ 12) := lh ⟨by have := idxV_lt (l := m.vessels) (id := vessel) (by omega); omega, h1, by omega, (okMix_vess hk).2.1⟩
  have HOK : Hid (TbOk T) := lh ⟨by rw [hTm]; exact hk, by rw [hTm]; exact hTL⟩
  have HTM := lh hTm
  have HTL := lh hTL
  have HT := lh (hT.below (show Below W8.heap.size W8 V1 from HBX.out))
  have HLA := lh HM.out.at_.lenA
  clear HP hk h1 h3 h4 hTm hTL hTg hT hv4
  by_cases hoo : one = other
  ·
   have hob : (one == other) = true := by simpa using hoo
   have HOO := lh hoo
   clear hoo
   gi_wp2
   refine bodyPost_ret (v := .tuple #[.bool false, .int .i64 2]) (by simp [results, Try.results24, go_sem]) rfl ?_
   exact ⟨false, 2, rfl, .inl ⟨by unfold metM; rw [if_pos HEE.out, if_pos HOO.out]; decide, rfl, by unfold metM; rw [if_pos HEE.out, if_pos HOO.out]⟩, Ly.out.1⟩
  ·
   have hob : (one == other) = false := by simpa using hoo
   have HOO := lh hoo
   clear hoo
   have HBS0 := lh Ly.out
   have HTB := lh HT.out.at_
   have hm0 := MapIs.made (β := Bool) (encK := C2.key) (encV := Value.bool) (okK := okC) V1
   obtain ⟨w1, hup, hm1, hg1, hs1⟩ := hm0.update (P := Try.prog) cpTy (x := (-1, -1)) (show okC (-1, -1) from ⟨okZ_of (by decide) (by decide), okZ_of (by decide) (by decide)⟩) true
   replace hup : (Instr.mapUpdate 131 (.map (some V1.heap.size)) (.agg #[.int .i64 (-1), .int .i64 (-1)]) (.bool true)).run Try.prog (V1.alloc (.map #[] 0)) = .ok () w1 := hup
   have HB1 : Hid (Below V1.heap.size V1 w1) := lh (((Below.refl _ _).alloc (Nat.le_refl _) _).grown hg1 (by simp) (fun k e => by cases e; exact Nat.le_refl _))
   have HM1 : Hid (CpMap w1 V1.heap.size [((-1, -1), true)]) := lh hm1
   clear hm0 hg1 hs1 hm1
   obtain ⟨x0_0, x0_1, x0_2, x0_3⟩ := lyc4 Ly 0 rfl
   have l0_ := Ly.out.lt 0 rfl
   gi_upto_region 7 with fail
   clear hup
   clear x0_0 x0_1 x0_2 x0_3 l0_
   obtain ⟨R0, hR0⟩ : ∃ R0, V1.heap.size = R0 := ⟨_, rfl⟩
   rw [hR0] at HM1 ⊢
   have HR0 : Hid (V1.heap.size ≤ R0) := lh (by omega)
   clear hR0
   have HLW := lh (HBS0.out.below HB1.out)
   have x9 := (HLW.out.blk 0 rfl).cell 2
   have x9l := HLW.out.lt 0 rfl
   change _ = some (Value.slice Aa na ca) at x9
   have hkna : k ≤ na := by have h1 := HQ.out; have h2 := HLA.out; omega
   have hk12 : k ≤ 12 := by have h1 := HQ.out; omega
   have hkc : k ≤ ca := by have := hca; omega
   gi_wp2
   clear x9 x9l
   refine wpIn_loop (fun a W => ∃ (i r : Nat), Hid (Ey1 fun (mm : List (C2 × Bool)) => i ≤ k ∧ Below V1.heap.size V1 W ∧ CpMap W r mm ∧ V1.heap.size ≤ r ∧ CpIs mm (NowP m T.L one other i)) ∧ FrMetA (.int .i64 one) (.int .i64 other) (.pointer (some ⟨w.heap.size, 0, none⟩)) (.pointer (some ⟨T.g, 0, none⟩)) (.pointer (some ⟨G2, 0, none⟩)) (.map (some r)) (.slice Aa k ca) (.int .i64 k) (.int .i64 (i : Int)) a) (fun a _ => k - (intOf (a.tmps.getD 56 undef)).toNat) ?_ ?_
   ·exact ⟨0, R0, lh ⟨_, by omega, HB1.out, HM1.out, HR0.out, cp_first⟩, by constructor⟩
   clear HB1 HM1 HR0 HLW Ly HT
   rintro a W ⟨i, r, HS, ha⟩
   cases ha
   obtain ⟨mm, hs9⟩ := HS.out
   replace HS := lh hs9
   clear hs9
   by_cases hlt : i < k
   ·
    have Ly := lh (HBS0.out.below HS.out.2.1)
    have HT := lh (HTB.out.below HS.out.2.1)
    obtain ⟨b, off, x, hAv, hbB, hx, c0_, c1_, c2_, c3_⟩ := (HM.out.at_.below Ly.out.1).act (i := i) (by omega)
    rw [HTM.out.symm] at hx
    obtain ⟨all, hA⟩ := HOK.out.at_ hx
    have HX := lh hx
    have HAT := lh hA
    clear hx hA hbB
    rw [hAv]
    gi_upto_region 10 with fail
    clear c0_ c1_ c2_ c3_
    obtain ⟨V3, hV⟩ : ∃ V, (W.alloc (.cells #[.int .i64 x.kind, .int .i64 x.fr, .int .i64 x.to, .int .i64 x.drops] 67)) = V := ⟨_, rfl⟩
    rw [hV]
    have hb := fbox_bel hV
    have hnew := fbox_blk hV
    have hge := Ly.out.bel.size
    have HBW := lh hb
    replace Ly := lyb Ly hb
    replace HT := lh (HT.out.below hb)
    replace Ly := lh (Ly.out.add hge hnew)
    clear hnew hge hb hV
    obtain ⟨G4, hG⟩ : ∃ g, W.heap.size = g := ⟨_, rfl⟩
    rw [hG] at Ly ⊢
    have HG_ := lh hG
    clear hG
    replace Ly := lh (show Lay w V3 [(w.heap.size, 26, #[.int .i64 m.fountains, .slice Av nv cv, .slice Aa na ca, .slice At nt ct]), (G2, 118, #[.int .i64 (q : Int), .int .i64 (k : Int)]), (G4, 67, #[.int .i64 x.kind, .int .i64 x.fr, .int .i64 x.to, .int .i64 x.drops])] from Ly.out)
    rw [← hAv]
    have HAV := lh hAv
    clear hAv
    obtain ⟨x2_0, x2_1, x2_2, x2_3⟩ := lyc4 Ly 2 rfl
    have l2_ := Ly.out.lt 2 rfl
    gi_wp2
    clear x2_0 x2_1 x2_2 x2_3 l2_
    refine ⟨trivial, (callsIn_wide.2 (callsIn_wide.1 (ends_in T x V3 HT.out HAT.out.ok.kind))).mono ?_⟩
    rintro e W5 ⟨rfl, hb⟩
    replace Ly := lyb Ly hb
    replace HT := lh (HT.out.below hb)
    replace HBW := lh (HBW.out.trans (hb.mono HBW.out.size))
    clear hb
    obtain ⟨fr, hfr⟩ : ∃ fr, fromI T.m x = fr := ⟨_, rfl⟩
    obtain ⟨to, hto⟩ : ∃ to, toI T.m x = to := ⟨_, rfl⟩
    rw [hfr, hto]
    have HFR := lh hfr
    have HTO := lh hto
    clear hfr hto
    gi_wp2
    refine ⟨trivial, (callsIn_wide.2 (callsIn_wide.1 (size_in T i x all W5 HT.out HX.out HAT.out.ha HAT.out.ok.kind HAT.out.four))).mono ?_⟩
    rintro e W6 ⟨rfl, hb⟩
    replace Ly := lyb Ly hb
    replace HT := lh (HT.out.below hb)
    replace HBW := lh (HBW.out.trans (hb.mono HBW.out.size))
    clear hb
    obtain ⟨n, hn⟩ : ∃ n, sizeA T.m all x = n := ⟨_, rfl⟩
    rw [hn]
    have HN := lh hn
    clear hn
    have hbW : Below W6.heap.size W6 (W6.alloc (.map #[] 0)) := (Below.refl _ _).alloc (Nat.le_refl _) _
    have HMN : Hid (CpMap (W6.alloc (.map #[] 0)) W6.heap.size []) := lh (MapIs.made (β := Bool) W6)
    have hmw := HS.out.2.2.1.below HBW.out HS.out.2.2.1.lt
    have hmr : CpMap (W6.alloc (.map #[] 0)) r mm := hmw.below hbW hmw.lt
    obtain ⟨w2, hr1, hi1, hg1, hs1⟩ := MapIs.range (P := Try.prog) (t := 131) Try.underlying131 hmr
    have hnd := MapIs.nodup cpTy hmr
    have hrl := HS.out.2.2.1.lt
    have hws := HBW.out.size
    have hwb := HS.out.2.1.size
    gi_upto_region 14 with fail
    clear hr1
    have hbel9 : Below W6.heap.size W6 w2 := hbW.grown hg1 (by simp) (fun k e => by cases e)
    have hbw2 := HBW.out.trans (hbel9.mono hws)
    have HMS : Hid (MS V1 w2 (W6.heap.size + 1) r W6.heap.size mm mm [] [(G4, 67, #[.int .i64 x.kind, .int .i64 x.fr, .int .i64 x.to, .int .i64 x.drops])]) := lh ⟨⟨HS.out.2.1.trans (hbw2.mono hwb), fun b hb => by obtain rfl := List.mem_singleton.1 hb; exact ⟨by have := HG_.out; dsimp only; omega, (Ly.out.blk 2 rfl).below hbel9 (Ly.out.blk 2 rfl).lt⟩⟩, by simpa using hi1, HMN.out.grown hg1 (fun e => by cases e), by omega, by omega, HS.out.2.2.2.1, by omega⟩
    have HND := lh hnd
    obtain ⟨rn, hrn⟩ : ∃ rn, W6.heap.size = rn := ⟨_, rfl⟩
    rw [hrn] at HMS ⊢
    obtain ⟨it, hit⟩ : ∃ it, rn + 1 = it := ⟨_, rfl⟩
    rw [hit] at HMS ⊢
    clear hbW hmw hmr hi1 hg1 hs1 hnd hrl hws hwb hbel9 hbw2 hrn hit HMN
    obtain ⟨al, hal⟩ : ∃ al, heldAt all fr = al := ⟨_, rfl⟩
    have HAL := lh hal
    clear hal
    refine wpIn_loop (fun a W => Hid (Ey2 fun (left mn : List (C2 × Bool)) => MS V1 W it r rn mm left mn [(G4, 67, #[.int .i64 x.kind, .int .i64 x.fr, .int .i64 x.to, .int .i64 x.drops])] ∧ (left.map Prod.fst).Nodup ∧ (∀ p ∈ left, p ∈ mm) ∧ CpIs mn (GoneP2 fr to n al x.fr one other mm left)) ∧ FrMetB (.int .i64 one) (.int .i64 other) (.pointer (some ⟨w.heap.size, 0, none⟩)) (.pointer (some ⟨T.g, 0, none⟩)) (.pointer (some ⟨G2, 0, none⟩)) (.map (some r)) (.int .i64 (i : Int)) (.pointer (some ⟨G4, 0, none⟩)) (.int .i64 fr) (.int .i64 to) (.int .i64 n) (.map (some rn)) (.slice Aa k ca) (.int .i64 k) (.int .i64 (i : Int)) (.pointer (some ⟨it, 0, none⟩)) a) (fun _ W => iterLeft W it) ?_ ?_
    ·exact ⟨lh ⟨mm, [], HMS.out, HND.out, fun p hp => hp, CpIs.nil.congr fun d => ⟨False.elim, goneP_start⟩⟩, by constructor⟩
    clear HMS Ly HT HBW
    rintro a W ⟨HM2, ha⟩
    cases ha
    obtain ⟨left, mn, hs9⟩ := HM2.out
    replace HM2 := lh hs9
    clear hs9
    rcases HM2.out.1.iter.next (P := Try.prog) 0 with ⟨hl, hr⟩ | ⟨i9, ⟨⟨y1, y2⟩, v⟩, w2, hp, hr, hi2, hg2, hs2, he2⟩
    ·
     subst hl
     gi_wp2
     have hAt := HAV.out
     clear HAV
     subst hAt
     refine ⟨⟨i + 1, rn, lh ⟨mn, hlt, HM2.out.1.lay.1, HM2.out.1.map, HM2.out.1.ge.2.2, HM2.out.2.2.2.congr fun d => by have h := goneP_end HX.out HAT.out.ha (by rw [HTM.out]; exact HS.out.2.2.2.2) d; rw [HFR.out, HTO.out, HN.out, HAL.out, HTM.out] at h; exact h⟩, by rw [show ((i + 1 : Nat) : Int) = (i : Int) + 1 from by omega]; constructor⟩, ?_⟩
     simp [intOf] <;> omega
    ·
     replace hr : (Instr.next (.pointer (some ⟨it, 0, none⟩)) false 0).run Try.prog W = .ok (.tuple #[.bool true, .agg #[.int .i64 y1, .int .i64 y2], .bool v]) w2 := hr
     replace he2 : (Instr.entry (.pointer (some ⟨it, 0, none⟩))).run Try.prog w2 = .ok (.tuple #[.agg #[.int .i64 y1, .int .i64 y2], .bool v]) w2 := he2
     have hms := HM2.out.1.next hi2 hg2
     have HMS := lh hms
     have HP := lh hp
     have HYM := lh (HM2.out.2.2.1 _ (List.mem_of_getElem? hp))
     have HIL : Hid (iterLeft w2 it < iterLeft W it) := lh (by
      rw [hi2.left_eq, HM2.out.1.iter.left_eq]
      have h5 := (List.getElem?_eq_some_iff.1 hp).1
      rw [List.length_eraseIdx_of_lt h5]
      omega)
     have hno : ∀ p ∈ ([(G4, 67, #[.int .i64 x.kind, .int .i64 x.fr, .int .i64 x.to, .int .i64 x.drops])] : List (Nat × TypeId × Array Value)), p.1 < w2.heap.size := fun p hp => (hms.lay.2 p hp).2.lt
     clear hs2
     gi_upto_region 16 with fail
     clear hr he2 hi2 hg2 hp
     have hms2 := hms.box 130 #[.int .i64 y1, .int .i64 y2]
     obtain ⟨gc, hgc⟩ : ∃ gc, w2.heap.size = gc := ⟨_, rfl⟩
     rw [hgc] at hms2 ⊢
     have hcx : G4 < gc := by rw [← hgc]; exact hno _ (List.mem_singleton.2 rfl)
     have HCX := lh hcx
     have HMS2 := lh hms2
     generalize (w2.alloc (.cells #[.int .i64 y1, .int .i64 y2] 130)) = W3 at *
     clear hms hms2 HMS hgc hcx hno
     gi_wp2
     refine wpIn_loop (fun a W => ∃ (sv : Nat), Hid (Ey1 fun (mn : List (C2 × Bool)) => sv ≤ 4 ∧ MS V1 W it r rn mm (left.eraseIdx i9) mn [(G4, 67, #[.int .i64 x.kind, .int .i64 x.fr, .int .i64 x.to, .int .i64 x.drops]), (gc, 130, #[.int .i64 y1, .int .i64 y2])] ∧ CpIs mn (fun d => GoneP2 fr to n al x.fr one other mm left d ∨ SetP fr to n al x.fr one other (y1, y2) sv d)) ∧ FrMetC (.int .i64 one) (.int .i64 other) (.pointer (some ⟨w.heap.size, 0, none⟩)) (.pointer (some ⟨T.g, 0, none⟩)) (.pointer (some ⟨G2, 0, none⟩)) (.map (some r)) (.int .i64 (i : Int)) (.pointer (some ⟨G4, 0, none⟩)) (.int .i64 fr) (.int .i64 to) (.int .i64 n) (.map (some rn)) (.pointer (some ⟨gc, 0, none⟩)) (.slice Aa k ca) (.int .i64 k) (.int .i64 (i : Int)) (.pointer (some ⟨it, 0, none⟩)) (.int .i64 (sv : Int)) a) (fun a _ => 4 - (intOf (a.tmps.getD 77 undef)).toNat) ?_ ?_
     ·exact ⟨0, lh ⟨mn, by omega, HMS2.out, HM2.out.2.2.2.congr fun d => ⟨.inl, fun h => h.resolve_right setP_zero⟩⟩, by constructor⟩
     clear HMS2
     rintro a W9 ⟨sv, HM3, ha⟩
     cases ha
     obtain ⟨mn, hs9⟩ := HM3.out
     replace HM3 := lh hs9
     clear hs9
     by_cases hsv : sv < 4
     ·
      have b0 := (HM3.out.2.1.lay.blk 1 rfl).cell 0
      have b1_ := (HM3.out.2.1.lay.blk 1 rfl).cell 1
      have b2 := (HM3.out.2.1.lay.blk 1 rfl).lt
      gi_upto_region 20 with fail
      clear b0 b1_ b2
      have hms3 := HM3.out.2.1.box 130 #[.int .i64 y1, .int .i64 y2]
      obtain ⟨gd, hgd⟩ : ∃ gd, W9.heap.size = gd := ⟨_, rfl⟩
      have HGD : Hid (gc < gd) := lh (by rw [← hgd]; exact (HM3.out.2.1.lay.blk 1 rfl).lt)
      rw [hgd] at hms3 ⊢
      have HMS3 := lh hms3
      generalize (W9.alloc (.cells #[.int .i64 y1, .int .i64 y2] 130)) = W10 at *
      clear hms3 hgd
      gi_wp2
      refine wpIn_loop (fun a W => ∃ (j : Nat) (mv st : Int) (rv : Value), Hid (Ey3 fun (d1 d2 : Int) (rb : Bool) => rv = .bool rb ∧ j ≤ 2 ∧ MS V1 W it r rn mm (left.eraseIdx i9) mn [(G4, 67, #[.int .i64 x.kind, .int .i64 x.fr, .int .i64 x.to, .int .i64 x.drops]), (gc, 130, #[.int .i64 y1, .int .i64 y2]), (gd, 130, #[.int .i64 d1, .int .i64 d2])] ∧ KSt fr to x.fr one other y1 y2 (gB sv) j d1 d2 mv st rb) ∧ FrMetD (.int .i64 one) (.int .i64 other) (.pointer (some ⟨w.heap.size, 0, none⟩)) (.pointer (some ⟨T.g, 0, none⟩)) (.pointer (some ⟨G2, 0, none⟩)) (.map (some r)) (.int .i64 (i : Int)) (.pointer (some ⟨G4, 0, none⟩)) (.int .i64 fr) (.int .i64 to) (.int .i64 n) (.map (some rn)) (.pointer (some ⟨gc, 0, none⟩)) (.int .i64 (sv : Int)) (.pointer (some ⟨gd, 0, none⟩)) (.int .i64 mv) (.int .i64 st) (rv) (.slice Aa k ca) (.int .i64 k) (.int .i64 (i : Int)) (.pointer (some ⟨it, 0, none⟩)) (.int .i64 (sv : Int)) (.agg #[.int .i64 one, .int .i64 other]) (.int .i64 (j : Int)) a) (fun a _ => 2 - (intOf (a.tmps.getD 84 undef)).toNat) ?_ ?_
      ·exact ⟨0, 0, 0, .bool true, lh ⟨y1, y2, true, rfl, by omega, HMS3.out, kst_zero⟩, by constructor⟩
      clear HMS3
      rintro a W11 ⟨j, mv, st, rv, HM4, ha⟩
      cases ha
      obtain ⟨d1, d2, rb, rfl, hs9⟩ := HM4.out
      replace HM4 := lh hs9
      clear hs9
      have hj := HM4.out.1
      have hix : ∀ z : World, (Instr.index 129 (.agg #[.int .i64 one, .int .i64 other]) (.int .i64 0)).run Try.prog z = .ok (.int .i64 one) z := fun _ => by kernel_rfl
      have hiy : ∀ z : World, (Instr.index 129 (.agg #[.int .i64 one, .int .i64 other]) (.int .i64 1)).run Try.prog z = .ok (.int .i64 other) z := fun _ => by kernel_rfl
      have hne : ∀ p ∈ ([(G4, 67, #[.int .i64 x.kind, .int .i64 x.fr, .int .i64 x.to, .int .i64 x.drops]), (gc, 130, #[.int .i64 y1, .int .i64 y2])] : List (Nat × TypeId × Array Value)), p.1 ≠ gd := by
       intro p hp
       have h1 := HCX.out
       have h2 := HGD.out
       simp only [List.mem_cons, List.not_mem_nil, or_false] at hp
       rcases hp with rfl | rfl <;> (dsimp only; omega)
      have HNE := lh hne
      clear hne
      rcases (show j = 0 ∨ j = 1 ∨ j = 2 by omega) with rfl | rfl | rfl
      ·
       have hbt := bits_0 hsv
       obtain ⟨rfl, rfl, rfl, rfl, rfl⟩ : y1 = d1 ∧ y2 = d2 ∧ mv = 0 ∧ st = 0 ∧ rb = true := by have h := HM4.out.2.2; unfold KSt at h; simp at h; exact ⟨h.1.symm, h.2.1.symm, h.2.2⟩
       have HMW := lh HM4.out.2.1
       obtain ⟨g, hg⟩ : ∃ g, (gB sv).1 = g := ⟨_, rfl⟩
       rw [hg] at hbt
       have HG := lh hg
       clear hg
       have e0 := (HM4.out.2.1.lay.blk 0 rfl).cell 1
       have el := (HM4.out.2.1.lay.blk 0 rfl).lt
       have y0 := (HM4.out.2.1.lay.blk 1 rfl).cell 0
       have y1_ := (HM4.out.2.1.lay.blk 1 rfl).cell 1
       have yl := (HM4.out.2.1.lay.blk 1 rfl).lt
       have g0 := (HM4.out.2.1.lay.blk 2 rfl).cell 0
       have g1 := (HM4.out.2.1.lay.blk 2 rfl).cell 1
       have gf0 := (HM4.out.2.1.lay.blk 2 rfl).frozen 0
       have gf1 := (HM4.out.2.1.lay.blk 2 rfl).frozen 1
       have gl := (HM4.out.2.1.lay.blk 2 rfl).lt
       cases g with
       | true =>
        by_cases hf : fr < 0
        ·
         have hfb : decide (fr < 0) = true := decide_eq_true hf
         have HF := lh hf
         have HFN := lh hf
         by_cases hy : y1 = -1
         ·
          have hyb : (y1 == (-1)) = true := by simpa using hy
          have HY := lh hy
          clear hy
          by_cases hx : x.fr = one
          ·
           have hxb : (x.fr == one) = true := by simpa using hx
           have HX9 := lh hx
           clear hx
           gi_upto_region 36 with fail
           clear e0 el y0 y1_ yl g0 g1 gf0 gf1 gl
           have hms9 : MS V1 (W11.setCell ⟨gd, 0, none⟩ (.int .i64 (to))) it r rn mm (left.eraseIdx i9) mn [(G4, 67, #[.int .i64 x.kind, .int .i64 x.fr, .int .i64 x.to, .int .i64 x.drops]), (gc, 130, #[.int .i64 y1, .int .i64 y2]), (gd, 130, #[.int .i64 to, .int .i64 y2])] := HMW.out.set (bs := [(G4, 67, #[.int .i64 x.kind, .int .i64 x.fr, .int .i64 x.to, .int .i64 x.drops]), (gc, 130, #[.int .i64 y1, .int .i64 y2])]) HNE.out 0 (.int .i64 (to))
           replace HMW := lh hms9
           generalize W11.setCell ⟨gd, 0, none⟩ (.int .i64 (to)) = S1 at *
           clear hms9
           gi_wp2
           refine ⟨⟨1, 0, 0, .bool true, lh ⟨to, y2, _, rfl, by omega, HMW.out, KSt.of kst_one ((dropP_neg HG.out HF.out).symm) (rfl) ((b1if_neg HFN.out).symm) ((stif_neg HFN.out).symm) ((rightB_n1 HG.out HF.out HY.out HX9.out).symm)⟩, by constructor⟩, ?_⟩
           simp [intOf] <;> omega
          ·
           have hxb : (x.fr == one) = false := by simpa using hx
           have HX9 := lh hx
           clear hx
           gi_upto_region 36 with fail
           clear e0 el y0 y1_ yl g0 g1 gf0 gf1 gl
           have hms9 : MS V1 (W11.setCell ⟨gd, 0, none⟩ (.int .i64 (to))) it r rn mm (left.eraseIdx i9) mn [(G4, 67, #[.int .i64 x.kind, .int .i64 x.fr, .int .i64 x.to, .int .i64 x.drops]), (gc, 130, #[.int .i64 y1, .int .i64 y2]), (gd, 130, #[.int .i64 to, .int .i64 y2])] := HMW.out.set (bs := [(G4, 67, #[.int .i64 x.kind, .int .i64 x.fr, .int .i64 x.to, .int .i64 x.drops]), (gc, 130, #[.int .i64 y1, .int .i64 y2])]) HNE.out 0 (.int .i64 (to))
           replace HMW := lh hms9
           generalize W11.setCell ⟨gd, 0, none⟩ (.int .i64 (to)) = S1 at *
           clear hms9
           gi_wp2
           refine ⟨⟨1, 0, 0, .bool false, lh ⟨to, y2, _, rfl, by omega, HMW.out, KSt.of kst_one ((dropP_neg HG.out HF.out).symm) (rfl) ((b1if_neg HFN.out).symm) ((stif_neg HFN.out).symm) ((rightB_n2 HG.out HF.out HY.out HX9.out).symm)⟩, by constructor⟩, ?_⟩
           simp [intOf] <;> omega
         ·
          have hyb : (y1 == (-1)) = false := by simpa using hy
          have HY := lh hy
          clear hy
          gi_upto_region 36 with fail
          clear e0 el y0 y1_ yl g0 g1 gf0 gf1 gl
          have hms9 : MS V1 (W11.setCell ⟨gd, 0, none⟩ (.int .i64 (to))) it r rn mm (left.eraseIdx i9) mn [(G4, 67, #[.int .i64 x.kind, .int .i64 x.fr, .int .i64 x.to, .int .i64 x.drops]), (gc, 130, #[.int .i64 y1, .int .i64 y2]), (gd, 130, #[.int .i64 to, .int .i64 y2])] := HMW.out.set (bs := [(G4, 67, #[.int .i64 x.kind, .int .i64 x.fr, .int .i64 x.to, .int .i64 x.drops]), (gc, 130, #[.int .i64 y1, .int .i64 y2])]) HNE.out 0 (.int .i64 (to))
          replace HMW := lh hms9
          generalize W11.setCell ⟨gd, 0, none⟩ (.int .i64 (to)) = S1 at *
          clear hms9
          gi_wp2
          refine ⟨⟨1, 0, 0, .bool false, lh ⟨to, y2, _, rfl, by omega, HMW.out, KSt.of kst_one ((dropP_neg HG.out HF.out).symm) (rfl) ((b1if_neg HFN.out).symm) ((stif_neg HFN.out).symm) ((rightB_n0 HG.out HF.out HY.out).symm)⟩, by constructor⟩, ?_⟩
          simp [intOf] <;> omega
        ·
         have hfb : decide (fr < 0) = false := decide_eq_false hf
         have hfp : 0 ≤ fr := by omega
         have hfc : decide (0 ≤ fr) = true := decide_eq_true hfp
         have HF := lh hfp
         have HFN := lh hfp
         by_cases hy : y1 = fr
         ·
          have hyb : (y1 == fr) = true := by simpa using hy
          have HY := lh hy
          clear hy
          gi_upto_region 31 with fail
          clear e0 el y0 y1_ yl g0 g1 gf0 gf1 gl
          have hms9 : MS V1 (W11.setCell ⟨gd, 0, none⟩ (.int .i64 (to))) it r rn mm (left.eraseIdx i9) mn [(G4, 67, #[.int .i64 x.kind, .int .i64 x.fr, .int .i64 x.to, .int .i64 x.drops]), (gc, 130, #[.int .i64 y1, .int .i64 y2]), (gd, 130, #[.int .i64 to, .int .i64 y2])] := HMW.out.set (bs := [(G4, 67, #[.int .i64 x.kind, .int .i64 x.fr, .int .i64 x.to, .int .i64 x.drops]), (gc, 130, #[.int .i64 y1, .int .i64 y2])]) HNE.out 0 (.int .i64 (to))
          replace HMW := lh hms9
          generalize W11.setCell ⟨gd, 0, none⟩ (.int .i64 (to)) = S1 at *
          clear hms9
          by_cases ht : to < 0
          ·
           have htb : decide (to < 0) = true := decide_eq_true ht
           have HT9 := lh ht
           have gf := (HMW.out.lay.blk 2 rfl).frozen 0
           have gc_ := (HMW.out.lay.blk 2 rfl).cell 0
           have gl := (HMW.out.lay.blk 2 rfl).lt
           gi_upto_region 33 with fail
           clear gf gc_ gl
           have hms9 : MS V1 (S1.setCell ⟨gd, 0, none⟩ (.int .i64 (-2))) it r rn mm (left.eraseIdx i9) mn [(G4, 67, #[.int .i64 x.kind, .int .i64 x.fr, .int .i64 x.to, .int .i64 x.drops]), (gc, 130, #[.int .i64 y1, .int .i64 y2]), (gd, 130, #[.int .i64 (-2), .int .i64 y2])] := HMW.out.set (bs := [(G4, 67, #[.int .i64 x.kind, .int .i64 x.fr, .int .i64 x.to, .int .i64 x.drops]), (gc, 130, #[.int .i64 y1, .int .i64 y2])]) HNE.out 0 (.int .i64 (-2))
           replace HMW := lh hms9
           generalize S1.setCell ⟨gd, 0, none⟩ (.int .i64 (-2)) = S2 at *
           clear hms9
           gi_wp2
           refine ⟨⟨1, 1, 0, .bool true, lh ⟨(-2), y2, _, rfl, by omega, HMW.out, KSt.of kst_one ((dropP_gone HG.out HF.out HT9.out).symm) (rfl) ((b1if_t HG.out HF.out).symm) ((stif_t HG.out).symm) ((rightB_p1 HG.out HFN.out HY.out).symm)⟩, by constructor⟩, ?_⟩
           simp [intOf] <;> omega
          ·
           have htb : decide (to < 0) = false := decide_eq_false ht
           have HT9 : Hid (0 ≤ to) := lh (by omega)
           gi_wp2
           refine ⟨⟨1, 1, 0, .bool true, lh ⟨to, y2, _, rfl, by omega, HMW.out, KSt.of kst_one ((dropP_pos HG.out HF.out HT9.out).symm) (rfl) ((b1if_t HG.out HF.out).symm) ((stif_t HG.out).symm) ((rightB_p1 HG.out HFN.out HY.out).symm)⟩, by constructor⟩, ?_⟩
           simp [intOf] <;> omega
         ·
          have hyb : (y1 == fr) = false := by simpa using hy
          have HY := lh hy
          clear hy
          gi_upto_region 31 with fail
          clear e0 el y0 y1_ yl g0 g1 gf0 gf1 gl
          have hms9 : MS V1 (W11.setCell ⟨gd, 0, none⟩ (.int .i64 (to))) it r rn mm (left.eraseIdx i9) mn [(G4, 67, #[.int .i64 x.kind, .int .i64 x.fr, .int .i64 x.to, .int .i64 x.drops]), (gc, 130, #[.int .i64 y1, .int .i64 y2]), (gd, 130, #[.int .i64 to, .int .i64 y2])] := HMW.out.set (bs := [(G4, 67, #[.int .i64 x.kind, .int .i64 x.fr, .int .i64 x.to, .int .i64 x.drops]), (gc, 130, #[.int .i64 y1, .int .i64 y2])]) HNE.out 0 (.int .i64 (to))
          replace HMW := lh hms9
          generalize W11.setCell ⟨gd, 0, none⟩ (.int .i64 (to)) = S1 at *
          clear hms9
          by_cases ht : to < 0
          ·
           have htb : decide (to < 0) = true := decide_eq_true ht
           have HT9 := lh ht
           have gf := (HMW.out.lay.blk 2 rfl).frozen 0
           have gc_ := (HMW.out.lay.blk 2 rfl).cell 0
           have gl := (HMW.out.lay.blk 2 rfl).lt
           gi_upto_region 33 with fail
           clear gf gc_ gl
           have hms9 : MS V1 (S1.setCell ⟨gd, 0, none⟩ (.int .i64 (-2))) it r rn mm (left.eraseIdx i9) mn [(G4, 67, #[.int .i64 x.kind, .int .i64 x.fr, .int .i64 x.to, .int .i64 x.drops]), (gc, 130, #[.int .i64 y1, .int .i64 y2]), (gd, 130, #[.int .i64 (-2), .int .i64 y2])] := HMW.out.set (bs := [(G4, 67, #[.int .i64 x.kind, .int .i64 x.fr, .int .i64 x.to, .int .i64 x.drops]), (gc, 130, #[.int .i64 y1, .int .i64 y2])]) HNE.out 0 (.int .i64 (-2))
           replace HMW := lh hms9
           generalize S1.setCell ⟨gd, 0, none⟩ (.int .i64 (-2)) = S2 at *
           clear hms9
           gi_wp2
           refine ⟨⟨1, 1, 0, .bool false, lh ⟨(-2), y2, _, rfl, by omega, HMW.out, KSt.of kst_one ((dropP_gone HG.out HF.out HT9.out).symm) (rfl) ((b1if_t HG.out HF.out).symm) ((stif_t HG.out).symm) ((rightB_p0 HG.out HFN.out HY.out).symm)⟩, by constructor⟩, ?_⟩
           simp [intOf] <;> omega
          ·
           have htb : decide (to < 0) = false := decide_eq_false ht
           have HT9 : Hid (0 ≤ to) := lh (by omega)
           gi_wp2
           refine ⟨⟨1, 1, 0, .bool false, lh ⟨to, y2, _, rfl, by omega, HMW.out, KSt.of kst_one ((dropP_pos HG.out HF.out HT9.out).symm) (rfl) ((b1if_t HG.out HF.out).symm) ((stif_t HG.out).symm) ((rightB_p0 HG.out HFN.out HY.out).symm)⟩, by constructor⟩, ?_⟩
           simp [intOf] <;> omega
       | false =>
        by_cases hf : fr < 0
        ·
         have hfb : decide (fr < 0) = true := decide_eq_true hf
         have hfc : decide (0 ≤ fr) = false := decide_eq_false (by omega)
         have HF := lh hf
         have HFN := lh hf
         gi_wp2
         refine ⟨⟨1, 0, 0, .bool true, lh ⟨y1, y2, _, rfl, by omega, HMW.out, KSt.of kst_one ((dropP_stay HG.out).symm) (rfl) ((b1if_f HG.out).symm) ((stif_neg HFN.out).symm) ((rightB_s HG.out).symm)⟩, by constructor⟩, ?_⟩
         simp [intOf] <;> omega
        ·
         have hfb : decide (fr < 0) = false := decide_eq_false hf
         have hfp : 0 ≤ fr := by omega
         have hfc : decide (0 ≤ fr) = true := decide_eq_true hfp
         have HF := lh hfp
         have HFN := lh hfp
         by_cases hy : y1 = fr
         ·
          have hyb : (y1 == fr) = true := by simpa using hy
          have HY := lh hy
          clear hy
          gi_wp2
          refine ⟨⟨1, 0, 1, .bool true, lh ⟨y1, y2, _, rfl, by omega, HMW.out, KSt.of kst_one ((dropP_stay HG.out).symm) (rfl) ((b1if_f HG.out).symm) ((stif_1 HG.out HF.out HY.out).symm) ((rightB_s HG.out).symm)⟩, by constructor⟩, ?_⟩
          simp [intOf] <;> omega
         ·
          have hyb : (y1 == fr) = false := by simpa using hy
          have HY := lh hy
          clear hy
          gi_wp2
          refine ⟨⟨1, 0, 0, .bool true, lh ⟨y1, y2, _, rfl, by omega, HMW.out, KSt.of kst_one ((dropP_stay HG.out).symm) (rfl) ((b1if_f HG.out).symm) ((stif_0 HG.out HF.out HY.out).symm) ((rightB_s HG.out).symm)⟩, by constructor⟩, ?_⟩
          simp [intOf] <;> omega
      ·
       have hbt := bits_1 hsv
       obtain rfl : y2 = d2 := by have h := HM4.out.2.2.2.1; simp at h; exact h.symm
       have hmvb : 0 ≤ mv ∧ mv ≤ 1 := by have h := HM4.out.2.2.2.2.1; simp at h; rw [h]; split; exact b1_bd _; omega
       have hstb : 0 ≤ st ∧ st ≤ 1 := by have h := HM4.out.2.2.2.2.2.1; simp at h; rw [h]; split; exact b1_bd _; omega
       have HMW := lh HM4.out.2.1
       obtain ⟨g, hg⟩ : ∃ g, (gB sv).2 = g := ⟨_, rfl⟩
       rw [hg] at hbt
       have HG := lh hg
       clear hg
       have e0 := (HM4.out.2.1.lay.blk 0 rfl).cell 1
       have el := (HM4.out.2.1.lay.blk 0 rfl).lt
       have y0 := (HM4.out.2.1.lay.blk 1 rfl).cell 0
       have y1_ := (HM4.out.2.1.lay.blk 1 rfl).cell 1
       have yl := (HM4.out.2.1.lay.blk 1 rfl).lt
       have g0 := (HM4.out.2.1.lay.blk 2 rfl).cell 0
       have g1 := (HM4.out.2.1.lay.blk 2 rfl).cell 1
       have gf0 := (HM4.out.2.1.lay.blk 2 rfl).frozen 0
       have gf1 := (HM4.out.2.1.lay.blk 2 rfl).frozen 1
       have gl := (HM4.out.2.1.lay.blk 2 rfl).lt
       cases g with
       | true =>
        by_cases hf : fr < 0
        ·
         have hfb : decide (fr < 0) = true := decide_eq_true hf
         have HF := lh hf
         have HFN := lh hf
         cases rb with
         | false =>
          gi_upto_region 36 with fail
          clear e0 el y0 y1_ yl g0 g1 gf0 gf1 gl
          have hms9 : MS V1 (W11.setCell ⟨gd, 1, none⟩ (.int .i64 (to))) it r rn mm (left.eraseIdx i9) mn [(G4, 67, #[.int .i64 x.kind, .int .i64 x.fr, .int .i64 x.to, .int .i64 x.drops]), (gc, 130, #[.int .i64 y1, .int .i64 y2]), (gd, 130, #[.int .i64 d1, .int .i64 to])] := HMW.out.set (bs := [(G4, 67, #[.int .i64 x.kind, .int .i64 x.fr, .int .i64 x.to, .int .i64 x.drops]), (gc, 130, #[.int .i64 y1, .int .i64 y2])]) HNE.out 1 (.int .i64 (to))
          replace HMW := lh hms9
          generalize W11.setCell ⟨gd, 1, none⟩ (.int .i64 (to)) = S1 at *
          clear hms9
          gi_wp2
          refine ⟨⟨2, mv, st, .bool false, lh ⟨d1, to, _, rfl, by omega, HMW.out, KSt.of (kst_two HM4.out.2.2) (rfl) ((dropP_neg HG.out HF.out).symm) (by rw [b1if_neg HFN.out] <;> omega) (by rw [stif_neg HFN.out] <;> omega) (rfl)⟩, by constructor⟩, ?_⟩
          simp [intOf] <;> omega
         | true =>
          by_cases hy : y2 = -1
          ·
           have hyb : (y2 == (-1)) = true := by simpa using hy
           have HY := lh hy
           clear hy
           by_cases hx : x.fr = other
           ·
            have hxb : (x.fr == other) = true := by simpa using hx
            have HX9 := lh hx
            clear hx
            gi_upto_region 36 with fail
            clear e0 el y0 y1_ yl g0 g1 gf0 gf1 gl
            have hms9 : MS V1 (W11.setCell ⟨gd, 1, none⟩ (.int .i64 (to))) it r rn mm (left.eraseIdx i9) mn [(G4, 67, #[.int .i64 x.kind, .int .i64 x.fr, .int .i64 x.to, .int .i64 x.drops]), (gc, 130, #[.int .i64 y1, .int .i64 y2]), (gd, 130, #[.int .i64 d1, .int .i64 to])] := HMW.out.set (bs := [(G4, 67, #[.int .i64 x.kind, .int .i64 x.fr, .int .i64 x.to, .int .i64 x.drops]), (gc, 130, #[.int .i64 y1, .int .i64 y2])]) HNE.out 1 (.int .i64 (to))
            replace HMW := lh hms9
            generalize W11.setCell ⟨gd, 1, none⟩ (.int .i64 (to)) = S1 at *
            clear hms9
            gi_wp2
            refine ⟨⟨2, mv, st, .bool true, lh ⟨d1, to, _, rfl, by omega, HMW.out, KSt.of (kst_two HM4.out.2.2) (rfl) ((dropP_neg HG.out HF.out).symm) (by rw [b1if_neg HFN.out] <;> omega) (by rw [stif_neg HFN.out] <;> omega) (by rw [rightB_n1 HG.out HF.out HY.out HX9.out]; rfl)⟩, by constructor⟩, ?_⟩
            simp [intOf] <;> omega
           ·
            have hxb : (x.fr == other) = false := by simpa using hx
            have HX9 := lh hx
            clear hx
            gi_upto_region 36 with fail
            clear e0 el y0 y1_ yl g0 g1 gf0 gf1 gl
            have hms9 : MS V1 (W11.setCell ⟨gd, 1, none⟩ (.int .i64 (to))) it r rn mm (left.eraseIdx i9) mn [(G4, 67, #[.int .i64 x.kind, .int .i64 x.fr, .int .i64 x.to, .int .i64 x.drops]), (gc, 130, #[.int .i64 y1, .int .i64 y2]), (gd, 130, #[.int .i64 d1, .int .i64 to])] := HMW.out.set (bs := [(G4, 67, #[.int .i64 x.kind, .int .i64 x.fr, .int .i64 x.to, .int .i64 x.drops]), (gc, 130, #[.int .i64 y1, .int .i64 y2])]) HNE.out 1 (.int .i64 (to))
            replace HMW := lh hms9
            generalize W11.setCell ⟨gd, 1, none⟩ (.int .i64 (to)) = S1 at *
            clear hms9
            gi_wp2
            refine ⟨⟨2, mv, st, .bool false, lh ⟨d1, to, _, rfl, by omega, HMW.out, KSt.of (kst_two HM4.out.2.2) (rfl) ((dropP_neg HG.out HF.out).symm) (by rw [b1if_neg HFN.out] <;> omega) (by rw [stif_neg HFN.out] <;> omega) (by rw [rightB_n2 HG.out HF.out HY.out HX9.out]; rfl)⟩, by constructor⟩, ?_⟩
            simp [intOf] <;> omega
          ·
           have hyb : (y2 == (-1)) = false := by simpa using hy
           have HY := lh hy
           clear hy
           gi_upto_region 36 with fail
           clear e0 el y0 y1_ yl g0 g1 gf0 gf1 gl
           have hms9 : MS V1 (W11.setCell ⟨gd, 1, none⟩ (.int .i64 (to))) it r rn mm (left.eraseIdx i9) mn [(G4, 67, #[.int .i64 x.kind, .int .i64 x.fr, .int .i64 x.to, .int .i64 x.drops]), (gc, 130, #[.int .i64 y1, .int .i64 y2]), (gd, 130, #[.int .i64 d1, .int .i64 to])] := HMW.out.set (bs := [(G4, 67, #[.int .i64 x.kind, .int .i64 x.fr, .int .i64 x.to, .int .i64 x.drops]), (gc, 130, #[.int .i64 y1, .int .i64 y2])]) HNE.out 1 (.int .i64 (to))
           replace HMW := lh hms9
           generalize W11.setCell ⟨gd, 1, none⟩ (.int .i64 (to)) = S1 at *
           clear hms9
           gi_wp2
           refine ⟨⟨2, mv, st, .bool false, lh ⟨d1, to, _, rfl, by omega, HMW.out, KSt.of (kst_two HM4.out.2.2) (rfl) ((dropP_neg HG.out HF.out).symm) (by rw [b1if_neg HFN.out] <;> omega) (by rw [stif_neg HFN.out] <;> omega) (by rw [rightB_n0 HG.out HF.out HY.out]; rfl)⟩, by constructor⟩, ?_⟩
           simp [intOf] <;> omega
        ·
         have hfb : decide (fr < 0) = false := decide_eq_false hf
         have hfp : 0 ≤ fr := by omega
         have hfc : decide (0 ≤ fr) = true := decide_eq_true hfp
         have HF := lh hfp
         have HFN := lh hfp
         cases rb with
         | false =>
          gi_upto_region 31 with fail
          clear e0 el y0 y1_ yl g0 g1 gf0 gf1 gl
          have hms9 : MS V1 (W11.setCell ⟨gd, 1, none⟩ (.int .i64 (to))) it r rn mm (left.eraseIdx i9) mn [(G4, 67, #[.int .i64 x.kind, .int .i64 x.fr, .int .i64 x.to, .int .i64 x.drops]), (gc, 130, #[.int .i64 y1, .int .i64 y2]), (gd, 130, #[.int .i64 d1, .int .i64 to])] := HMW.out.set (bs := [(G4, 67, #[.int .i64 x.kind, .int .i64 x.fr, .int .i64 x.to, .int .i64 x.drops]), (gc, 130, #[.int .i64 y1, .int .i64 y2])]) HNE.out 1 (.int .i64 (to))
          replace HMW := lh hms9
          generalize W11.setCell ⟨gd, 1, none⟩ (.int .i64 (to)) = S1 at *
          clear hms9
          by_cases ht : to < 0
          ·
           have htb : decide (to < 0) = true := decide_eq_true ht
           have HT9 := lh ht
           have gf := (HMW.out.lay.blk 2 rfl).frozen 1
           have gc_ := (HMW.out.lay.blk 2 rfl).cell 1
           have gl := (HMW.out.lay.blk 2 rfl).lt
           gi_upto_region 33 with fail
           clear gf gc_ gl
           have hms9 : MS V1 (S1.setCell ⟨gd, 1, none⟩ (.int .i64 (-2))) it r rn mm (left.eraseIdx i9) mn [(G4, 67, #[.int .i64 x.kind, .int .i64 x.fr, .int .i64 x.to, .int .i64 x.drops]), (gc, 130, #[.int .i64 y1, .int .i64 y2]), (gd, 130, #[.int .i64 d1, .int .i64 (-2)])] := HMW.out.set (bs := [(G4, 67, #[.int .i64 x.kind, .int .i64 x.fr, .int .i64 x.to, .int .i64 x.drops]), (gc, 130, #[.int .i64 y1, .int .i64 y2])]) HNE.out 1 (.int .i64 (-2))
           replace HMW := lh hms9
           generalize S1.setCell ⟨gd, 1, none⟩ (.int .i64 (-2)) = S2 at *
           clear hms9
           gi_wp2
           refine ⟨⟨2, (mv + 1), st, .bool false, lh ⟨d1, (-2), _, rfl, by omega, HMW.out, KSt.of (kst_two HM4.out.2.2) (rfl) ((dropP_gone HG.out HF.out HT9.out).symm) (by rw [b1if_t HG.out HF.out] <;> omega) (by rw [stif_t HG.out] <;> omega) (rfl)⟩, by constructor⟩, ?_⟩
           simp [intOf] <;> omega
          ·
           have htb : decide (to < 0) = false := decide_eq_false ht
           have HT9 : Hid (0 ≤ to) := lh (by omega)
           gi_wp2
           refine ⟨⟨2, (mv + 1), st, .bool false, lh ⟨d1, to, _, rfl, by omega, HMW.out, KSt.of (kst_two HM4.out.2.2) (rfl) ((dropP_pos HG.out HF.out HT9.out).symm) (by rw [b1if_t HG.out HF.out] <;> omega) (by rw [stif_t HG.out] <;> omega) (rfl)⟩, by constructor⟩, ?_⟩
           simp [intOf] <;> omega
         | true =>
          by_cases hy : y2 = fr
          ·
           have hyb : (y2 == fr) = true := by simpa using hy
           have HY := lh hy
           clear hy
           gi_upto_region 31 with fail
           clear e0 el y0 y1_ yl g0 g1 gf0 gf1 gl
           have hms9 : MS V1 (W11.setCell ⟨gd, 1, none⟩ (.int .i64 (to))) it r rn mm (left.eraseIdx i9) mn [(G4, 67, #[.int .i64 x.kind, .int .i64 x.fr, .int .i64 x.to, .int .i64 x.drops]), (gc, 130, #[.int .i64 y1, .int .i64 y2]), (gd, 130, #[.int .i64 d1, .int .i64 to])] := HMW.out.set (bs := [(G4, 67, #[.int .i64 x.kind, .int .i64 x.fr, .int .i64 x.to, .int .i64 x.drops]), (gc, 130, #[.int .i64 y1, .int .i64 y2])]) HNE.out 1 (.int .i64 (to))
           replace HMW := lh hms9
           generalize W11.setCell ⟨gd, 1, none⟩ (.int .i64 (to)) = S1 at *
           clear hms9
           by_cases ht : to < 0
           ·
            have htb : decide (to < 0) = true := decide_eq_true ht
            have HT9 := lh ht
            have gf := (HMW.out.lay.blk 2 rfl).frozen 1
            have gc_ := (HMW.out.lay.blk 2 rfl).cell 1
            have gl := (HMW.out.lay.blk 2 rfl).lt
            gi_upto_region 33 with fail
            clear gf gc_ gl
            have hms9 : MS V1 (S1.setCell ⟨gd, 1, none⟩ (.int .i64 (-2))) it r rn mm (left.eraseIdx i9) mn [(G4, 67, #[.int .i64 x.kind, .int .i64 x.fr, .int .i64 x.to, .int .i64 x.drops]), (gc, 130, #[.int .i64 y1, .int .i64 y2]), (gd, 130, #[.int .i64 d1, .int .i64 (-2)])] := HMW.out.set (bs := [(G4, 67, #[.int .i64 x.kind, .int .i64 x.fr, .int .i64 x.to, .int .i64 x.drops]), (gc, 130, #[.int .i64 y1, .int .i64 y2])]) HNE.out 1 (.int .i64 (-2))
            replace HMW := lh hms9
            generalize S1.setCell ⟨gd, 1, none⟩ (.int .i64 (-2)) = S2 at *
            clear hms9
            gi_wp2
            refine ⟨⟨2, (mv + 1), st, .bool true, lh ⟨d1, (-2), _, rfl, by omega, HMW.out, KSt.of (kst_two HM4.out.2.2) (rfl) ((dropP_gone HG.out HF.out HT9.out).symm) (by rw [b1if_t HG.out HF.out] <;> omega) (by rw [stif_t HG.out] <;> omega) (by rw [rightB_p1 HG.out HFN.out HY.out]; rfl)⟩, by constructor⟩, ?_⟩
            simp [intOf] <;> omega
           ·
            have htb : decide (to < 0) = false := decide_eq_false ht
            have HT9 : Hid (0 ≤ to) := lh (by omega)
            gi_wp2
            refine ⟨⟨2, (mv + 1), st, .bool true, lh ⟨d1, to, _, rfl, by omega, HMW.out, KSt.of (kst_two HM4.out.2.2) (rfl) ((dropP_pos HG.out HF.out HT9.out).symm) (by rw [b1if_t HG.out HF.out] <;> omega) (by rw [stif_t HG.out] <;> omega) (by rw [rightB_p1 HG.out HFN.out HY.out]; rfl)⟩, by constructor⟩, ?_⟩
            simp [intOf] <;> omega
          ·
           have hyb : (y2 == fr) = false := by simpa using hy
           have HY := lh hy
           clear hy
           gi_upto_region 31 with fail
           clear e0 el y0 y1_ yl g0 g1 gf0 gf1 gl
           have hms9 : MS V1 (W11.setCell ⟨gd, 1, none⟩ (.int .i64 (to))) it r rn mm (left.eraseIdx i9) mn [(G4, 67, #[.int .i64 x.kind, .int .i64 x.fr, .int .i64 x.to, .int .i64 x.drops]), (gc, 130, #[.int .i64 y1, .int .i64 y2]), (gd, 130, #[.int .i64 d1, .int .i64 to])] := HMW.out.set (bs := [(G4, 67, #[.int .i64 x.kind, .int .i64 x.fr, .int .i64 x.to, .int .i64 x.drops]), (gc, 130, #[.int .i64 y1, .int .i64 y2])]) HNE.out 1 (.int .i64 (to))
           replace HMW := lh hms9
           generalize W11.setCell ⟨gd, 1, none⟩ (.int .i64 (to)) = S1 at *
           clear hms9
           by_cases ht : to < 0
           ·
            have htb : decide (to < 0) = true := decide_eq_true ht
            have HT9 := lh ht
            have gf := (HMW.out.lay.blk 2 rfl).frozen 1
            have gc_ := (HMW.out.lay.blk 2 rfl).cell 1
            have gl := (HMW.out.lay.blk 2 rfl).lt
            gi_upto_region 33 with fail
            clear gf gc_ gl
            have hms9 : MS V1 (S1.setCell ⟨gd, 1, none⟩ (.int .i64 (-2))) it r rn mm (left.eraseIdx i9) mn [(G4, 67, #[.int .i64 x.kind, .int .i64 x.fr, .int .i64 x.to, .int .i64 x.drops]), (gc, 130, #[.int .i64 y1, .int .i64 y2]), (gd, 130, #[.int .i64 d1, .int .i64 (-2)])] := HMW.out.set (bs := [(G4, 67, #[.int .i64 x.kind, .int .i64 x.fr, .int .i64 x.to, .int .i64 x.drops]), (gc, 130, #[.int .i64 y1, .int .i64 y2])]) HNE.out 1 (.int .i64 (-2))
            replace HMW := lh hms9
            generalize S1.setCell ⟨gd, 1, none⟩ (.int .i64 (-2)) = S2 at *
            clear hms9
            gi_wp2
            refine ⟨⟨2, (mv + 1), st, .bool false, lh ⟨d1, (-2), _, rfl, by omega, HMW.out, KSt.of (kst_two HM4.out.2.2) (rfl) ((dropP_gone HG.out HF.out HT9.out).symm) (by rw [b1if_t HG.out HF.out] <;> omega) (by rw [stif_t HG.out] <;> omega) (by rw [rightB_p0 HG.out HFN.out HY.out]; rfl)⟩, by constructor⟩, ?_⟩
            simp [intOf] <;> omega
           ·
            have htb : decide (to < 0) = false := decide_eq_false ht
            have HT9 : Hid (0 ≤ to) := lh (by omega)
            gi_wp2
            refine ⟨⟨2, (mv + 1), st, .bool false, lh ⟨d1, to, _, rfl, by omega, HMW.out, KSt.of (kst_two HM4.out.2.2) (rfl) ((dropP_pos HG.out HF.out HT9.out).symm) (by rw [b1if_t HG.out HF.out] <;> omega) (by rw [stif_t HG.out] <;> omega) (by rw [rightB_p0 HG.out HFN.out HY.out]; rfl)⟩, by constructor⟩, ?_⟩
            simp [intOf] <;> omega
       | false =>
        by_cases hf : fr < 0
        ·
         have hfb : decide (fr < 0) = true := decide_eq_true hf
         have hfc : decide (0 ≤ fr) = false := decide_eq_false (by omega)
         have HF := lh hf
         have HFN := lh hf
         gi_wp2
         refine ⟨⟨2, mv, st, .bool rb, lh ⟨d1, y2, _, rfl, by omega, HMW.out, KSt.of (kst_two HM4.out.2.2) (rfl) ((dropP_stay HG.out).symm) (by rw [b1if_f HG.out] <;> omega) (by rw [stif_neg HFN.out] <;> omega) ((show (rb && rightB fr x.fr other y2 (gB sv).2) = rb from by rw [rightB_s HG.out, Bool.and_true]).symm)⟩, by constructor⟩, ?_⟩
         simp [intOf] <;> omega
        ·
         have hfb : decide (fr < 0) = false := decide_eq_false hf
         have hfp : 0 ≤ fr := by omega
         have hfc : decide (0 ≤ fr) = true := decide_eq_true hfp
         have HF := lh hfp
         have HFN := lh hfp
         by_cases hy : y2 = fr
         ·
          have hyb : (y2 == fr) = true := by simpa using hy
          have HY := lh hy
          clear hy
          gi_wp2
          refine ⟨⟨2, mv, (st + 1), .bool rb, lh ⟨d1, y2, _, rfl, by omega, HMW.out, KSt.of (kst_two HM4.out.2.2) (rfl) ((dropP_stay HG.out).symm) (by rw [b1if_f HG.out] <;> omega) (by rw [stif_1 HG.out HF.out HY.out] <;> omega) ((show (rb && rightB fr x.fr other y2 (gB sv).2) = rb from by rw [rightB_s HG.out, Bool.and_true]).symm)⟩, by constructor⟩, ?_⟩
          simp [intOf] <;> omega
         ·
          have hyb : (y2 == fr) = false := by simpa using hy
          have HY := lh hy
          clear hy
          gi_wp2
          refine ⟨⟨2, mv, st, .bool rb, lh ⟨d1, y2, _, rfl, by omega, HMW.out, KSt.of (kst_two HM4.out.2.2) (rfl) ((dropP_stay HG.out).symm) (by rw [b1if_f HG.out] <;> omega) (by rw [stif_0 HG.out HF.out HY.out] <;> omega) ((show (rb && rightB fr x.fr other y2 (gB sv).2) = rb from by rw [rightB_s HG.out, Bool.and_true]).symm)⟩, by constructor⟩, ?_⟩
          simp [intOf] <;> omega
      ·
       have hkst := HM4.out.2.2
       unfold KSt at hkst
       simp only [show (0 : Nat) < 2 from by decide, show (1 : Nat) < 2 from by decide, if_true, true_and] at hkst
       obtain ⟨rfl, rfl, kmv, kst, krb⟩ := hkst
       obtain ⟨gg, hgg⟩ : ∃ g, gB sv = g := ⟨_, rfl⟩
       have HGG := lh hgg
       have KMV := lh kmv
       have KST := lh kst
       have KRB := lh krb
       have hn0 : 0 ≤ n := by have h := HAT.out.size.1; rw [HN.out] at h; exact h
       have HN0 := lh hn0
       have hmb : 0 ≤ mv ∧ mv ≤ 2 := by rw [kmv]; have h1 := b1_bd (gB sv).1; have h2 := b1_bd (gB sv).2; constructor <;> (repeat' split) <;> omega
       have hsb : 0 ≤ st ∧ st ≤ 2 := by rw [kst]; have h1 := b1_bd (!(gB sv).1 && decide (y1 = fr)); have h2 := b1_bd (!(gB sv).2 && decide (y2 = fr)); constructor <;> (repeat' split) <;> omega
       clear kmv kst krb hgg hn0
       have HSTB : Hid (stepB fr to n al x.fr one other (y1, y2) (gB sv) = (rb && (decide (fr < 0) || (decide (mv ≤ n) && decide (st ≤ al - n))))) := lh (by
        rw [KRB.out]
        unfold stepB
        by_cases hf : fr < 0
        ·simp [hf]
        ·have hf0 : 0 ≤ fr := by omega
         rw [KMV.out, KST.out]
         simp [hf, hf0])
       cases rb with
       | false =>
        have HNO : Hid (stepB fr to n al x.fr one other (y1, y2) (gB sv) = false) := lh (by rw [HSTB.out]; rfl)
        gi_wp2
        refine ⟨⟨sv + 1, lh ⟨mn, hsv, HM4.out.2.1.sub (by intro b hb; simp only [List.mem_cons, List.not_mem_nil, or_false] at hb ⊢; rcases hb with rfl | rfl <;> simp), HM3.out.2.2.congr fun d => by rw [setP_succ]; exact or_congr Iff.rfl ⟨.inl, fun h => h.resolve_right fun h => by rw [HNO.out] at h; cases h.1⟩⟩, by rw [show ((sv + 1 : Nat) : Int) = (sv : Int) + 1 from by omega]; constructor⟩, ?_⟩
        simp [intOf] <;> omega
       | true =>
        by_cases hm : mv ≤ n
        ·
         have hmbb : decide (mv ≤ n) = true := decide_eq_true hm
         by_cases hf : fr < 0
         ·
          have hfb : decide (fr < 0) = true := decide_eq_true hf
          have HOKS : Hid (stepB fr to n al x.fr one other (y1, y2) (gB sv) = true) := lh (by rw [HSTB.out]; simp [hf])
          have hoy : okC (y1, y2) := HM2.out.1.iter.map.ok _ HYM.out
          have hoc : okC (dropP fr to y1 (gB sv).1, dropP fr to y2 (gB sv).2) := ⟨okZ_drop (by rw [← HTO.out]; exact toI_bd HOK.out.vess x) hoy.1, okZ_drop (by rw [← HTO.out]; exact toI_bd HOK.out.vess x) hoy.2⟩
          obtain ⟨w5, hup, hm5, hg5, hs5⟩ := HM4.out.2.1.map.update (P := Try.prog) cpTy hoc true
          replace hup : (Instr.mapUpdate 131 (.map (some rn)) (.agg #[.int .i64 (dropP fr to y1 (gB sv).1), .int .i64 (dropP fr to y2 (gB sv).2)]) (.bool true)).run Try.prog W11 = .ok () w5 := hup
          have HMU := lh (HM4.out.2.1.upd hm5 hg5)
          clear hoy hoc hm5 hg5 hs5
          have g0 := (HM4.out.2.1.lay.blk 2 rfl).cell 0
          have g1 := (HM4.out.2.1.lay.blk 2 rfl).cell 1
          have gl := (HM4.out.2.1.lay.blk 2 rfl).lt
          gi_wp2
          clear hup g0 g1 gl
          refine ⟨⟨sv + 1, lh ⟨_, hsv, HMU.out.sub (by intro b hb; simp only [List.mem_cons, List.not_mem_nil, or_false] at hb ⊢; rcases hb with rfl | rfl <;> simp), (HM3.out.2.2.put _).congr fun d => by rw [setP_succ, or_assoc, and_iff_right HOKS.out]⟩, by rw [show ((sv + 1 : Nat) : Int) = (sv : Int) + 1 from by omega]; constructor⟩, ?_⟩
          simp [intOf] <;> omega
         ·
          have hfb : decide (fr < 0) = false := decide_eq_false hf
          have hfq := fromI_small HOK.out.vess x
          rw [HFR.out] at hfq
          obtain ⟨fq, rfl⟩ : ∃ fq : Nat, fr = (fq : Int) := ⟨fr.toNat, by omega⟩
          have hfq4 : fq < 4 := by omega
          have HTW := lh (HTB.out.below HM4.out.2.1.lay.1)
          have hil : i < T.nl := by
           have h1 := recs_n heldC_k (by omega) HTW.out.all
           have h2 := HOK.out.long
           have h3 := (List.getElem?_eq_some_iff.1 HX.out).1
           omega
          obtain ⟨bl, ol, all9, e1, e2, e3, e4⟩ := recs_cell heldC_k (by omega) HTW.out.all hil
          obtain rfl : all = all9 := Option.some.inj (HAT.out.ha.symm.trans e3)
          have ch := e4 fq _ (heldC_l all hfq4)
          rw [HAL.out] at ch
          have t4 := HTW.out.blk.cell 4
          have tl := HTW.out.blk.lt
          have hnl : T.nl ≤ 13 := HTW.out.small.2.2.2
          unfold Tb.cells at t4
          change _ = some (Value.slice T.AA T.nl T.cl) at t4
          rw [e1] at t4
          have halb := HAT.out.rng fq
          rw [HAL.out] at halb
          have hnb := HAT.out.size
          rw [HN.out] at hnb
          by_cases hs : st ≤ al - n
          ·
           have hsb2 : decide (st ≤ al - n) = true := decide_eq_true hs
           have HOKS : Hid (stepB (fq : Int) to n al x.fr one other (y1, y2) (gB sv) = true) := lh (by rw [HSTB.out]; simp [hm, hs])
           have hoy : okC (y1, y2) := HM2.out.1.iter.map.ok _ HYM.out
           have hoc : okC (dropP (fq : Int) to y1 (gB sv).1, dropP (fq : Int) to y2 (gB sv).2) := ⟨okZ_drop (by rw [← HTO.out]; exact toI_bd HOK.out.vess x) hoy.1, okZ_drop (by rw [← HTO.out]; exact toI_bd HOK.out.vess x) hoy.2⟩
           obtain ⟨w5, hup, hm5, hg5, hs5⟩ := HM4.out.2.1.map.update (P := Try.prog) cpTy hoc true
           replace hup : (Instr.mapUpdate 131 (.map (some rn)) (.agg #[.int .i64 (dropP (fq : Int) to y1 (gB sv).1), .int .i64 (dropP (fq : Int) to y2 (gB sv).2)]) (.bool true)).run Try.prog W11 = .ok () w5 := hup
           have HMU := lh (HM4.out.2.1.upd hm5 hg5)
           clear hoy hoc hm5 hg5 hs5
           have g0 := (HM4.out.2.1.lay.blk 2 rfl).cell 0
           have g1 := (HM4.out.2.1.lay.blk 2 rfl).cell 1
           have gl := (HM4.out.2.1.lay.blk 2 rfl).lt
           gi_wp2
           clear hup g0 g1 gl
           refine ⟨⟨sv + 1, lh ⟨_, hsv, HMU.out.sub (by intro b hb; simp only [List.mem_cons, List.not_mem_nil, or_false] at hb ⊢; rcases hb with rfl | rfl <;> simp), (HM3.out.2.2.put _).congr fun d => by rw [setP_succ, or_assoc, and_iff_right HOKS.out]⟩, by rw [show ((sv + 1 : Nat) : Int) = (sv : Int) + 1 from by omega]; constructor⟩, ?_⟩
           simp [intOf] <;> omega
          ·
           have hsb2 : decide (st ≤ al - n) = false := decide_eq_false hs
           have HNO : Hid (stepB (fq : Int) to n al x.fr one other (y1, y2) (gB sv) = false) := lh (by rw [HSTB.out]; simp [hs])
           gi_wp2
           refine ⟨⟨sv + 1, lh ⟨mn, hsv, HM4.out.2.1.sub (by intro b hb; simp only [List.mem_cons, List.not_mem_nil, or_false] at hb ⊢; rcases hb with rfl | rfl <;> simp), HM3.out.2.2.congr fun d => by rw [setP_succ]; exact or_congr Iff.rfl ⟨.inl, fun h => h.resolve_right fun h => by rw [HNO.out] at h; cases h.1⟩⟩, by rw [show ((sv + 1 : Nat) : Int) = (sv : Int) + 1 from by omega]; constructor⟩, ?_⟩
           simp [intOf] <;> omega
        ·
         have hmbb : decide (mv ≤ n) = false := decide_eq_false hm
         have HNO : Hid (stepB fr to n al x.fr one other (y1, y2) (gB sv) = false) := lh (by
          rw [HSTB.out]
          by_cases hf : fr < 0
          ·have h1 := KMV.out
           have hf0 : ¬ 0 ≤ fr := by omega
           simp [hf0] at h1
           have h2 := HN0.out
           omega
          ·simp [hf, hm])
         gi_wp2
         refine ⟨⟨sv + 1, lh ⟨mn, hsv, HM4.out.2.1.sub (by intro b hb; simp only [List.mem_cons, List.not_mem_nil, or_false] at hb ⊢; rcases hb with rfl | rfl <;> simp), HM3.out.2.2.congr fun d => by rw [setP_succ]; exact or_congr Iff.rfl ⟨.inl, fun h => h.resolve_right fun h => by rw [HNO.out] at h; cases h.1⟩⟩, by rw [show ((sv + 1 : Nat) : Int) = (sv : Int) + 1 from by omega]; constructor⟩, ?_⟩
         simp [intOf] <;> omega
     ·
      obtain rfl : sv = 4 := by have := HM3.out.1; omega
      gi_wp2
      refine ⟨⟨lh ⟨left.eraseIdx i9, mn, HM3.out.2.1.sub (by intro b hb; simp only [List.mem_cons, List.not_mem_nil, or_false] at hb ⊢; rcases hb with rfl; simp), left_nodup HM2.out.2.1, fun p hp => HM2.out.2.2.1 p (List.mem_of_mem_eraseIdx hp), HM3.out.2.2.congr fun d => by rw [goneP_step HM2.out.2.1 HP.out HYM.out, setP_four]⟩, by constructor⟩, ?_⟩
      rw [HM3.out.2.1.iter.left_eq, HM2.out.1.iter.left_eq]
      have h5 := (List.getElem?_eq_some_iff.1 HP.out).1
      rw [List.length_eraseIdx_of_lt h5]
      omega
   ·
    obtain rfl : k = i := by have := HS.out.1; omega
    have Ly := lh (HBS0.out.below HS.out.2.1)
    have hoq : okC ((q : Int), (q : Int)) := ⟨okZ_of (by omega) (by have := HQ.out.1; omega), okZ_of (by omega) (by have := HQ.out.1; omega)⟩
    obtain ⟨bt, hbt, hlk⟩ : ∃ bt : Bool, (bt = true ↔ NowP m T.L one other k ((q : Int), (q : Int))) ∧ (Instr.lookup 131 (.map (some r)) (.agg #[.int .i64 (q : Int), .int .i64 (q : Int)]) false).run Try.prog W = .ok (.bool bt) W := by
     have h5 := HS.out.2.2.1.lookup (P := Try.prog) cpTy hoq false
     by_cases ht : NowP m T.L one other k ((q : Int), (q : Int))
     ·refine ⟨true, by simp [ht], ?_⟩
      rw [HS.out.2.2.2.2.look_some ht] at h5
      exact h5
     ·refine ⟨false, by simp [ht], ?_⟩
      rw [HS.out.2.2.2.2.look_none ht] at h5
      exact h5
    have HBT := lh hbt
    clear hoq hbt
    have s0_ := lyc Ly 1 rfl 0
    have s1_ := (Ly.out.blk 1 rfl).lt
    gi_wp2
    refine bodyPost_ret (v := .tuple #[.bool bt, .int .i64 0]) (by simp [results, Try.results24, go_sem]) rfl ?_
    exact ⟨bt, 0, rfl, .inr ⟨by unfold metM; rw [if_pos HEE.out, if_neg HOO.out], rfl, T.L, HTL.out, by rw [HBT.out, ← HQ.out.2.1, Int.toNat_natCast]⟩, Ly.out.1⟩
 ·
  have h0b : (ee != 0) = true := by simpa using h0
  have H0 := lh h0
  clear h0
  gi_wp2
  refine bodyPost_ret (v := .tuple #[.bool false, .int .i64 ee]) (by simp [results, Try.results24, go_sem]) rfl ?_
  have hm9 : metM m vessel after one other = ee := by unfold metM; rw [if_neg (by rw [HEE.out]; exact H0.out), HEE.out]
  exact ⟨false, ee, rfl, .inl ⟨by rw [hm9]; exact H0.out, rfl, hm9.symm⟩, Ly.out.1⟩
end
section
open Go.RowKit
def wiB (n lo hi : Int) : Bool := decide (lo ≤ n ∧ n ≤ hi)
theorem within_any (n lo hi : Int) (w : World) : Calls Try.prog 46 #[.int .i64 n, .int .i64 lo, .int .i64 hi] w fun e w' => e = .returned (.bool (wiB n lo hi)) ∧ w = w' := by
 by_cases h1 : lo ≤ n
 all_goals
  go_enter Try.func46, Try.ntmps46
  go_wp2_with fail
  go_ret
  refine ⟨ret_bool ?_, rfl⟩
  unfold wiB
  by_cases h2 : n ≤ hi <;> simp [h1, h2]
set_option maxRecDepth 100000 in
set_option maxHeartbeats 4000000 in
theorem rindex_any (Av : Option Addr) (nv cv : Nat) (Aa : Option Addr) (na ca : Nat) (At : Option Addr) (nt ct : Nat) (m : Mix) (id : Int) (w : World) (h : MixS w Av nv Aa na At nt m) :
  Calls Try.prog 58 #[.agg #[.int .i64 m.fountains, .slice Av nv cv, .slice Aa na ca, .slice At nt ct], .int .i64 id] w fun e w' => e = .returned (.int .i64 (idxV m.vessels id)) ∧ Below w.heap.size w w' := by
 have HM := lh h
 have hnv := h.hv
 have HLV := lh h.at_.lenV
 clear h
 go_enter Try.func58, Try.ntmps58
 go_wp2_with fail
 have HB := lh ((Below.refl w.heap.size w).alloc (Nat.le_refl _) (.cells #[.int .i64 m.fountains, .slice Av nv cv, .slice Aa na ca, .slice At nt ct] 26))
 have HX := lh (Blk.new w 26 #[.int .i64 m.fountains, .slice Av nv cv, .slice Aa na ca, .slice At nt ct])
 generalize w.alloc (.cells #[.int .i64 m.fountains, .slice Av nv cv, .slice Aa na ca, .slice At nt ct] 26) = w0 at *
 go_loop [5] (fun i => ∃ k : Nat, k ≤ nv ∧ i = .int .i64 k ∧ (∀ y ∈ m.vessels.take k, (y.id == id) = false)) (fun i => nv - (intOf i).toNat)
 case atStart => exact ⟨0, by omega, rfl, by simp⟩
 case round =>
  obtain ⟨k, hk, rfl, hno⟩ := hrel
  have HN := lh hno
  clear hno
  have x1 : w0.cell? ⟨w.heap.size, 1, none⟩ = some (.slice Av nv cv) := HX.out.cell 1
  have xl := HX.out.lt
  by_cases hlt : k < nv
  ·obtain ⟨b, off, x, rfl, hbB, hx, hc0, hc1⟩ := (HM.out.at_.below HB.out).vess hlt
   have HV := lh hx
   clear hx
   cases hp : (x.id == id) with
   | true =>
    have HP := lh hp
    have hp2 : x.id = id := by simpa using hp
    have HE := lh (idxV_some HV.out HP.out HN.out)
    subst hp2
    clear hp
    go_wp2_with fail
    go_ret
    exact ⟨ret_int HE.out.symm, HB.out⟩
   | false =>
    have HP := lh hp
    go_wp2_with fail
    go_round
    case rel => exact ⟨k + 1, by omega, by go_num, take_snoc_all HV.out HP.out HN.out⟩
    case measure => simp [intOf]; omega
  ·go_wp2_with fail
   go_ret
   exact ⟨ret_int (idxV_none (by
    have := HN.out
    rwa [List.take_of_length_le (by have := HLV.out; omega)] at this)).symm, HB.out⟩
end
section
open Go.RowKit
section
variable {m : Mix} {s : Held} {x : MAct} {jf jt : Int}
theorem dk1 (hk : x.kind = 1) (ht : idxV m.vessels x.to = jt) : doneM m s x = if (1 ≤ x.fr ∧ x.fr ≤ m.fountains) ∧ 0 ≤ jt ∧ 1 ≤ x.drops ∧ x.drops ≤ sizeV m.vessels jt - heldAt s jt then some (s.set jt.toNat (heldAt s jt + x.drops)) else none := by
 unfold doneM
 rw [if_pos hk, ht]
theorem dk0 (hk : x.kind ≠ 1) (hf : idxV m.vessels x.fr = jf) (h0 : jf < 0) : doneM m s x = none := by
 unfold doneM
 rw [if_neg hk, hf, if_pos h0]
theorem dk2 (hk : x.kind = 2) (hf : idxV m.vessels x.fr = jf) (ht : idxV m.vessels x.to = jt) (h0 : 0 ≤ jf) : doneM m s x = if jt ≠ jf ∧ (1 ≤ x.drops ∧ x.drops ≤ heldAt s jf) ∧ 0 ≤ jt ∧ x.drops ≤ sizeV m.vessels jt - heldAt s jt then some ((s.set jf.toNat (heldAt s jf - x.drops)).set jt.toNat (heldAt s jt + x.drops)) else none := by
 unfold doneM
 rw [if_neg (by omega), hf, if_neg (by omega), if_pos hk, ht]
 by_cases e : x.fr = x.to
 ·have : jt = jf := by rw [← hf, ← ht, e]
  rw [if_neg (fun h => h.1 e), if_neg (fun h => h.1 this)]
 ·have hne : 0 ≤ jt → jt ≠ jf := fun h1 h2 => e (idxV_inj (l := m.vessels) (by rw [hf]; exact h0) (by rw [hf, ht, h2]))
  by_cases c : (1 ≤ x.drops ∧ x.drops ≤ heldAt s jf) ∧ 0 ≤ jt ∧ x.drops ≤ sizeV m.vessels jt - heldAt s jt
  ·rw [if_pos ⟨e, c⟩, if_pos ⟨hne c.2.1, c⟩]
  ·rw [if_neg (fun h => c h.2), if_neg (fun h => c h.2)]
theorem dk3 (hk : x.kind = 3) (hf : idxV m.vessels x.fr = jf) (h0 : 0 ≤ jf) : doneM m s x = if x.to = 0 ∧ 1 ≤ x.drops ∧ x.drops ≤ heldAt s jf then some (s.set jf.toNat (heldAt s jf - x.drops)) else none := by
 unfold doneM
 rw [if_neg (by omega), hf, if_neg (by omega), if_neg (by omega), if_pos hk]
theorem dk4 (hk : x.kind = 4) (hf : idxV m.vessels x.fr = jf) (h0 : 0 ≤ jf) : doneM m s x = if x.to = 0 ∧ x.drops = 0 then some (s.set jf.toNat 0) else none := by
 unfold doneM
 rw [if_neg (by omega), hf, if_neg (by omega), if_neg (by omega), if_neg (by omega), if_pos hk]
theorem dk5 (h1 : x.kind ≠ 1) (h2 : x.kind ≠ 2) (h3 : x.kind ≠ 3) (h4 : x.kind ≠ 4) : doneM m s x = none := by
 unfold doneM
 rw [if_neg h1, if_neg h2, if_neg h3, if_neg h4]
 split <;> rfl
theorem heldC_set {s : Held} (hs : s.length = 4) {q : Nat} (hq : q < 4) (v : Int) : (heldC s).toArray.setIfInBounds q (.int .i64 v) = (heldC (s.set q v)).toArray := by
 match s, hs, q, hq with
 | [a, b, c, d], _, 0, _ => rfl
 | [a, b, c, d], _, 1, _ => rfl
 | [a, b, c, d], _, 2, _ => rfl
 | [a, b, c, d], _, 3, _ => rfl
def RDoneOut (w : World) (m : Mix) (s : Held) (x : MAct) (e : Ending) (w' : World) : Prop :=
 Below w.heap.size w w' ∧ ∃ s2 b, e = .returned (.tuple #[.agg #[.int .i64 (heldAt s2 0), .int .i64 (heldAt s2 1), .int .i64 (heldAt s2 2), .int .i64 (heldAt s2 3)], .bool b]) ∧ ((b = true ∧ doneM m s x = some s2) ∨ (b = false ∧ doneM m s x = none))
end
end
end Go.Proofs.Ythofngceiecniaa
