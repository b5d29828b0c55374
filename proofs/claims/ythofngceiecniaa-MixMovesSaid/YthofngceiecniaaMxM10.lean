/- Part 10 of the texts of this claim, joined. -/
import Derived.Laws.MakeOwn
import Derived.Test.YthofngceiecniaaMxM9
set_option linter.unusedVariables false
/- Rows of rows of truths: the memory of the answer's truths. -/
namespace Go.Proofs.Ythofngceiecniaa
open Go.RowKit

/-- A block of rows, all made since w, each a block of N bools. -/
structure BR (w W : World) (N g : Nat) (rs : List Nat) (bs : List (List Bool)) : Prop where
 bel : Below w.heap.size w W
 top : Blk W g 109 (rs.map fun r => Value.slice (some ⟨r, 0, none⟩) N N).toArray
 ge : w.heap.size ≤ g
 len : rs.length = bs.length
 row : ∀ (i r : Nat) (b : List Bool), rs[i]? = some r → bs[i]? = some b → Blk W r 4 (b.map Value.bool).toArray ∧ b.length = N ∧ w.heap.size ≤ r ∧ r ≠ g
 nodup : rs.Nodup
section
variable {w W W' : World} {N g : Nat} {rs : List Nat} {bs : List (List Bool)}
theorem BR.below (h : BR w W N g rs bs) (hb : Below W.heap.size W W') : BR w W' N g rs bs :=
 ⟨h.bel.trans (hb.mono h.bel.size), h.top.below hb h.top.lt, h.ge, h.len, fun i r b h1 h2 => ⟨(h.row i r b h1 h2).1.below hb (h.row i r b h1 h2).1.lt, (h.row i r b h1 h2).2⟩, h.nodup⟩
theorem BR.rowCell (h : BR w W N g rs bs) {i r : Nat} (hr : rs[i]? = some r) : W.cell? ⟨g, i, none⟩ = some (.slice (some ⟨r, 0, none⟩) N N) := by
 rw [h.top.cell, List.getElem?_toArray, List.getElem?_map, hr]
 rfl
theorem BR.cell (h : BR w W N g rs bs) {i r c : Nat} {b : List Bool} {v : Bool} (hr : rs[i]? = some r) (hb : bs[i]? = some b) (hc : b[c]? = some v) : W.cell? ⟨r, c, none⟩ = some (.bool v) := by
 rw [(h.row i r b hr hb).1.cell, List.getElem?_toArray, List.getElem?_map, hc]
 rfl
theorem BR.put (h : BR w W N g rs bs) {i r c : Nat} {b : List Bool} (hr : rs[i]? = some r) (hb : bs[i]? = some b) (v : Bool) : BR w (W.setCell ⟨r, c, none⟩ (.bool v)) N g rs (bs.set i (b.set c v)) := by
 have hrow := h.row i r b hr hb
 refine ⟨h.bel.setCell (p := ⟨r, c, none⟩) hrow.2.2.1 _, h.top.far (p := ⟨r, c, none⟩) (Ne.symm hrow.2.2.2) _, h.ge, by simp [h.len], fun j r' b' h1 h2 => ?_, h.nodup⟩
 by_cases hj : j = i
 ·subst hj
  rw [hr] at h1
  cases h1
  have hlt := (List.getElem?_eq_some_iff.1 hb).1
  rw [List.getElem?_set_self hlt] at h2
  cases h2
  refine ⟨?_, by simp [hrow.2.1], hrow.2.2⟩
  have := hrow.1.set_ c (.bool v)
  rw [List.setIfInBounds_toArray] at this
  rwa [List.map_set]
 ·rw [List.getElem?_set_ne (Ne.symm hj)] at h2
  have h3 := h.row j r' b' h1 h2
  refine ⟨h3.1.far (p := ⟨r, c, none⟩) (fun e => hj ?_) _, h3.2⟩
  have e2 : r' = r := e
  subst e2
  exact (List.getElem?_inj (List.getElem?_eq_some_iff.1 h1).1 h.nodup).1 (h1.trans hr.symm)
theorem BR.newb {W0 : World} {b : Nat} (h : BR w W N g rs bs) (h0 : BR w W0 N g rs bs) (hb : W0.heap.size ≤ b) (hg : W.grownBy W' (some b)) : BR w W' N g rs bs :=
 ⟨h.bel.grown hg h.bel.size (fun k e => by cases e; exact Nat.le_trans h0.bel.size hb), h.top.grown hg (fun e => by have := h0.top.lt; have := Option.some.inj e; omega), h.ge, h.len, fun i r c h1 h2 => ⟨(h.row i r c h1 h2).1.grown hg (fun e => by have := (h0.row i r c h1 h2).1.lt; have := Option.some.inj e; omega), (h.row i r c h1 h2).2⟩, h.nodup⟩
theorem BR.base {w0 : World} (h : BR w W N g rs bs) (hb : Below w0.heap.size w0 W) (hle : w0.heap.size ≤ w.heap.size) : BR w0 W N g rs bs :=
 ⟨hb, h.top, Nat.le_trans hle h.ge, h.len, fun i r c h1 h2 => by have h3 := h.row i r c h1 h2; exact ⟨h3.1, h3.2.1, Nat.le_trans hle h3.2.2.1, h3.2.2.2⟩, h.nodup⟩
/-- While rows are being made: those to come are empty slices. -/
structure BRp (w W : World) (N g n : Nat) (rs : List Nat) : Prop where
 bel : Below w.heap.size w W
 top : Blk W g 109 ((rs.map fun r => Value.slice (some ⟨r, 0, none⟩) N N) ++ List.replicate (n - rs.length) (Value.slice none 0 0)).toArray
 ge : w.heap.size ≤ g
 len : rs.length ≤ n
 row : ∀ r ∈ rs, Blk W r 4 ((List.replicate N false).map Value.bool).toArray ∧ w.heap.size ≤ r ∧ r ≠ g
 nodup : rs.Nodup
theorem BRp.start {w W : World} (hb : Below w.heap.size w W) (N n : Nat) : BRp w (W.alloc (.cells (List.replicate n (Value.slice none 0 0)).toArray 109)) N W.heap.size n [] := by
 have h := Blk.new W 109 (List.replicate n (Value.slice none 0 0)).toArray
 refine ⟨hb.alloc hb.size _, ?_, hb.size, Nat.zero_le _, ?_, List.nodup_nil⟩
 ·simpa using h
 ·intro r hr
  cases hr
theorem BRp.done {n : Nat} (h : BRp w W N g n rs) (hn : rs.length = n) : BR w W N g rs (List.replicate n (List.replicate N false)) := by
 refine ⟨h.bel, ?_, h.ge, by simp [hn], fun i r b h1 h2 => ?_, h.nodup⟩
 ·have := h.top
  rwa [hn, Nat.sub_self, List.replicate_zero, List.append_nil] at this
 ·rw [List.getElem?_replicate] at h2
  split at h2
  ·cases h2
   have h3 := h.row r (List.mem_of_getElem? h1)
   exact ⟨h3.1, by simp, h3.2⟩
  ·cases h2
theorem BRp.step {n : Nat} (h : BRp w W N g n rs) (hn : rs.length < n) : BRp w ((W.alloc (.cells ((List.replicate N false).map Value.bool).toArray 4)).setCell ⟨g, rs.length, none⟩ (.slice (some ⟨W.heap.size, 0, none⟩) N N)) N g n (rs ++ [W.heap.size]) := by
 have hb : Below W.heap.size W (W.alloc (.cells ((List.replicate N false).map Value.bool).toArray 4)) := (Below.refl _ _).alloc (Nat.le_refl _) _
 have hgl := h.top.lt
 refine ⟨(h.bel.trans (hb.mono h.bel.size)).setCell (p := ⟨g, rs.length, none⟩) h.ge _, ?_, h.ge, by simp; omega, fun r hr => ?_, ?_⟩
 ·have h2 := (h.top.below hb hgl).set_ rs.length (.slice (some ⟨W.heap.size, 0, none⟩) N N)
  rw [List.setIfInBounds_toArray] at h2
  have e : ((rs.map fun r => Value.slice (some ⟨r, 0, none⟩) N N) ++ List.replicate (n - rs.length) (Value.slice none 0 0)).set rs.length (.slice (some ⟨W.heap.size, 0, none⟩) N N) = ((rs ++ [W.heap.size]).map fun r => Value.slice (some ⟨r, 0, none⟩) N N) ++ List.replicate (n - (rs ++ [W.heap.size]).length) (Value.slice none 0 0) := by
   rw [List.set_append_right _ _ (by simp), List.length_map, Nat.sub_self, show n - rs.length = (n - (rs ++ [W.heap.size]).length) + 1 from by simp; omega, List.replicate_succ, List.set_cons_zero, List.map_append]
   simp
  rwa [e] at h2
 ·rcases List.mem_append.1 hr with hr | hr
  ·have h3 := h.row r hr
   exact ⟨(h3.1.below hb h3.1.lt).far (p := ⟨g, rs.length, none⟩) h3.2.2 _, h3.2⟩
  ·obtain rfl := List.mem_singleton.1 hr
   have h3 := Blk.new W 4 ((List.replicate N false).map Value.bool).toArray
   exact ⟨h3.far (p := ⟨g, rs.length, none⟩) (by show W.heap.size ≠ g; omega) _, h.bel.size, by omega⟩
 ·rw [List.nodup_append]
  refine ⟨h.nodup, by simp, fun a ha b hb e => ?_⟩
  obtain rfl := List.mem_singleton.1 hb
  have := (h.row a ha).1.lt
  omega
theorem BRp.below {n : Nat} (h : BRp w W N g n rs) (hb : Below W.heap.size W W') : BRp w W' N g n rs :=
 ⟨h.bel.trans (hb.mono h.bel.size), h.top.below hb h.top.lt, h.ge, h.len, fun r hr => ⟨(h.row r hr).1.below hb (h.row r hr).1.lt, (h.row r hr).2⟩, h.nodup⟩
theorem BRp.cell {n : Nat} (h : BRp w W N g n rs) (hn : rs.length < n) : W.cell? ⟨g, rs.length, none⟩ = some (.slice none 0 0) := by
 rw [h.top.cell, List.getElem?_toArray, List.getElem?_append_right (by simp), List.length_map, Nat.sub_self, List.getElem?_replicate, if_pos (by omega)]
end
/-- Blocks of other types stay where a row is written. -/
theorem lay_farT {w W : World} {bs : List (Nat × TypeId × Array Value)} {r : Nat} {t : TypeId} {cs : Array Value} (h : Lay w W bs) (hb : Blk W r t cs) (hr : w.heap.size ≤ r) (ht : ∀ b ∈ bs, b.2.1 ≠ t) (c : Nat) (v : Value) : Lay w (W.setCell ⟨r, c, none⟩ v) bs :=
 ⟨h.1.setCell (p := ⟨r, c, none⟩) hr _, fun b hm => ⟨(h.2 b hm).1, (h.2 b hm).2.far (p := ⟨r, c, none⟩) (blk_ne (h.2 b hm).2 hb (ht b hm)) _⟩⟩
end Go.Proofs.Ythofngceiecniaa
/- Tables of truths by numbers, and the passes of truths as steps over them (plain). -/
namespace Go.Proofs.Ythofngceiecniaa

/-- A table of n rows of N answers. -/
structure Tab (N n : Nat) (bs : List (List Bool)) (P : Nat → Nat → Prop) : Prop where
 len : bs.length = n
 rows : ∀ (i : Nat) (r : List Bool), bs[i]? = some r → r.length = N
 is : ∀ (i : Nat) (r : List Bool) (c : Nat) (b : Bool), bs[i]? = some r → r[c]? = some b → (b = true ↔ P i c)
section
variable {N n : Nat} {bs : List (List Bool)} {P P' : Nat → Nat → Prop}
theorem Tab.congr (h : Tab N n bs P) (e : ∀ i c, i < n → c < N → (P' i c ↔ P i c)) : Tab N n bs P' :=
 ⟨h.len, h.rows, fun i r c b h1 h2 => (h.is i r c b h1 h2).trans (e i c (by have := (List.getElem?_eq_some_iff.1 h1).1; have := h.len; omega) (by have := (List.getElem?_eq_some_iff.1 h2).1; have := h.rows i r h1; omega)).symm⟩
theorem Tab.start (N n : Nat) : Tab N n (List.replicate n (List.replicate N false)) (fun _ _ => False) := by
 refine ⟨by simp, fun i r h => ?_, fun i r c b h1 h2 => ?_⟩
 ·rw [List.getElem?_replicate] at h
  split at h
  ·cases h; simp
  ·cases h
 ·rw [List.getElem?_replicate] at h1
  split at h1
  ·cases h1
   rw [List.getElem?_replicate] at h2
   split at h2
   ·cases h2; simp
   ·cases h2
  ·cases h1
theorem Tab.look (h : Tab N n bs P) {i c : Nat} (hi : i < n) (hc : c < N) : ∃ r b, bs[i]? = some r ∧ r[c]? = some b ∧ (b = true ↔ P i c) := by
 have h1 : bs[i]? = some (bs[i]'(by rw [h.len]; exact hi)) := List.getElem?_eq_getElem _
 have h2 := h.rows i _ h1
 have h3 := List.getElem?_eq_getElem (l := bs[i]'(by rw [h.len]; exact hi)) (i := c) (by omega)
 exact ⟨_, _, h1, h3, h.is _ _ _ _ h1 h3⟩
theorem Tab.put (h : Tab N n bs P) {i c : Nat} {r : List Bool} {v : Bool} (hr : bs[i]? = some r) (hv : v = true ↔ P' i c) (ho : ∀ i' c', i' < n → c' < N → (i' ≠ i ∨ c' ≠ c) → (P' i' c' ↔ P i' c')) : Tab N n (bs.set i (r.set c v)) P' := by
 have hi := (List.getElem?_eq_some_iff.1 hr).1
 refine ⟨by simp [h.len], fun j r' h1 => ?_, fun j r' d b h1 h2 => ?_⟩
 ·by_cases e : j = i
  ·subst e
   rw [List.getElem?_set_self hi] at h1
   cases h1
   rw [List.length_set]
   exact h.rows _ _ hr
  ·rw [List.getElem?_set_ne (Ne.symm e)] at h1
   exact h.rows _ _ h1
 ·have hj : j < n := by have := (List.getElem?_eq_some_iff.1 h1).1; rw [List.length_set] at this; have := h.len; omega
  by_cases e : j = i
  ·subst e
   rw [List.getElem?_set_self hi] at h1
   cases h1
   have hrl := h.rows _ _ hr
   have hd : d < N := by have := (List.getElem?_eq_some_iff.1 h2).1; rw [List.length_set] at this; omega
   by_cases e2 : d = c
   ·subst e2
    rw [List.getElem?_set_self (by omega)] at h2
    cases h2
    exact hv
   ·rw [List.getElem?_set_ne (Ne.symm e2)] at h2
    exact (h.is _ _ _ _ hr h2).trans (ho j d hj hd (.inr e2)).symm
  ·rw [List.getElem?_set_ne (Ne.symm e)] at h1
   have hd : d < N := by have := (List.getElem?_eq_some_iff.1 h2).1; have := h.rows _ _ h1; omega
   exact (h.is _ _ _ _ h1 h2).trans (ho j d hj hd (.inl e)).symm
end
/-- What a number stands for. -/
def decN (m : Mix) (c : Nat) : Held := decH m (c : Int)
/-- So far from the numbers below c0. -/
def FwP (m : Mix) (f : Int) (A : List Held) (t c0 : Nat) (s' : Held) : Prop :=
 ∃ (c : Nat) (x : MAct) (all : Held) (k : Int), c < c0 ∧ Fwd m f A t (decN m c) ∧ m.acts[t]? = some x ∧ A[t]? = some all ∧ (spanR m x f all (decN m c)).1 ≤ k ∧ k ≤ (spanR m x f all (decN m c)).2 ∧ s' = movedR m x (decN m c) k ∧ tastedB m f (t + 1) s' = true
/-- And from one number by moves below k0. -/
def FwQ (m : Mix) (f : Int) (x : MAct) (all : Held) (t : Nat) (s : Held) (k0 : Int) (s' : Held) : Prop :=
 ∃ k : Int, (spanR m x f all s).1 ≤ k ∧ k < k0 ∧ s' = movedR m x s k ∧ tastedB m f (t + 1) s' = true
def PF (m : Mix) (f : Int) (A : List Held) (t i c : Nat) : Prop := i ≤ t ∧ Fwd m f A i (decN m c)
def PM (m : Mix) (f : Int) (A : List Held) (t c0 i c : Nat) : Prop := if i ≤ t then Fwd m f A i (decN m c) else i = t + 1 ∧ FwP m f A t c0 (decN m c)
def PI (m : Mix) (f : Int) (A : List Held) (x : MAct) (all : Held) (t c0 : Nat) (k0 : Int) (i c : Nat) : Prop :=
 if i ≤ t then Fwd m f A i (decN m c) else i = t + 1 ∧ (FwP m f A t c0 (decN m c) ∨ FwQ m f x all t (decN m c0) k0 (decN m c))
def QO (m : Mix) (f : Int) (A : List Held) (j i c : Nat) : Prop := if j ≤ i then Truth m f A i (decN m c) else Fwd m f A i (decN m c)
def QM (m : Mix) (f : Int) (A : List Held) (t c0 i c : Nat) : Prop := if t < i ∨ (i = t ∧ c < c0) then Truth m f A i (decN m c) else Fwd m f A i (decN m c)
section
variable {m : Mix} {f : Int} {A : List Held} {x : MAct} {all : Held} {t c0 N n : Nat} {bs : List (List Bool)}
theorem dec_inj (hok : okMix m = true) {c c' : Nat} (hN : prodR (zsM m) = (N : Int)) (hc : c < N) (hc' : c' < N) (e : decN m c = decN m c') : c = c' := by
 have h1 := code_decH (okMix_ves hok) (c := (c : Int)) (by omega) (by omega)
 have h2 := code_decH (okMix_ves hok) (c := (c' : Int)) (by omega) (by omega)
 unfold decN at e
 rw [e] at h1
 omega
theorem dec_zero (hok : okMix m = true) (hN : prodR (zsM m) = (N : Int)) (h1 : 1 ≤ N) : decN m 0 = zeroH := by
 have h := zero_within (okMix_ves hok) (okMix_vess hok).1
 have h2 := codeH_in h.1 (okMix_vess hok).1
 have h3 := dec_codeH h.1 (okMix_vess hok).1 h.2
 have key : codeH m zeroH = 0 := by
  have hz : ∀ l : List Int, codeR l (List.replicate l.length 0) = 0 := by
   intro l
   induction l with
   | nil => rfl
   | cons z l ih =>
    show codeR (z :: l) (0 :: List.replicate l.length 0) = 0
    unfold codeR
    rw [ih]
    simp
  have e : asK zeroH m.vessels.length = List.replicate (zsM m).length 0 := by
   rw [zsM_len]
   unfold asK zeroH
   have := (okMix_vess hok).1
   match m.vessels.length, this with
   | 0, _ => rfl
   | 1, _ => rfl
   | 2, _ => rfl
   | 3, _ => rfl
   | 4, _ => rfl
  unfold codeH
  rw [e, hz]
 rw [key] at h3
 exact h3
/-- The first store. -/
theorem tab_zero (hok : okMix m = true) (hN : prodR (zsM m) = (N : Int)) (h1 : 1 ≤ N) (hn : 1 ≤ n) {r : List Bool} (h : Tab N n bs (fun _ _ => False)) (hr : bs[0]? = some r) : Tab N n (bs.set 0 (r.set 0 (tastedB m f 0 zeroH))) (PF m f A 0) := by
 refine h.put hr ?_ fun i' c' hi hc hne => ?_
 ·unfold PF
  rw [dec_zero hok hN h1]
  exact ⟨fun e => ⟨by omega, rfl, e⟩, fun e => e.2.2⟩
 ·unfold PF
  constructor
  ·rintro ⟨e1, e2⟩
   have : i' = 0 := by omega
   subst this
   replace e2 : decN m c' = zeroH := e2.1
   rw [← dec_zero hok hN h1] at e2
   rcases hne with h | h
   ·exact h rfl
   ·exact h (dec_inj hok hN hc h1 e2)
  ·exact False.elim
theorem pf_pm (h : Tab N n bs (PF m f A t)) : Tab N n bs (PM m f A t 0) := by
 refine h.congr fun i c _ _ => ?_
 unfold PF PM
 by_cases e : i ≤ t
 ·rw [if_pos e]
  exact ⟨fun h => ⟨e, h⟩, fun h => h.2⟩
 ·rw [if_neg e]
  exact ⟨fun ⟨_, c', _, _, _, h, _⟩ => absurd h (Nat.not_lt_zero _), fun h => absurd h.1 e⟩
theorem pm_skip (h : Tab N n bs (PM m f A t c0)) (hno : ¬ Fwd m f A t (decN m c0)) : Tab N n bs (PM m f A t (c0 + 1)) := by
 refine h.congr fun i c _ _ => ?_
 unfold PM
 by_cases e : i ≤ t
 ·rw [if_pos e, if_pos e]
 ·rw [if_neg e, if_neg e]
  refine ⟨fun ⟨e, c', x, al, k, h1, h2⟩ => ⟨e, c', x, al, k, ?_, h2⟩, fun ⟨e, c', x, al, k, h1, h2⟩ => ⟨e, c', x, al, k, by omega, h2⟩⟩
  rcases Nat.lt_or_ge c' c0 with h3 | h3
  ·exact h3
  ·obtain rfl : c' = c0 := by omega
   exact absurd h2.1 hno
theorem pm_pi (h : Tab N n bs (PM m f A t c0)) : Tab N n bs (PI m f A x all t c0 (spanR m x f all (decN m c0)).1) := by
 refine h.congr fun i c _ _ => ?_
 unfold PM PI
 by_cases e : i ≤ t
 ·rw [if_pos e, if_pos e]
 ·rw [if_neg e, if_neg e]
  refine ⟨fun ⟨e, h⟩ => ⟨e, ?_⟩, fun ⟨e, h⟩ => ⟨e, .inl h⟩⟩
  rcases h with h | ⟨k, h1, h2, _⟩
  ·exact h
  ·omega
theorem pi_pm {k0 : Int} (hf : Fwd m f A t (decN m c0)) (hx : m.acts[t]? = some x) (ha : A[t]? = some all) (hk : (spanR m x f all (decN m c0)).2 < k0) (h : Tab N n bs (PI m f A x all t c0 k0)) (hk2 : k0 ≤ (spanR m x f all (decN m c0)).2 + 1 ∨ k0 = (spanR m x f all (decN m c0)).1) : Tab N n bs (PM m f A t (c0 + 1)) := by
 refine h.congr fun i c _ _ => ?_
 unfold PM PI
 by_cases e : i ≤ t
 ·rw [if_pos e, if_pos e]
 ·rw [if_neg e, if_neg e]
  constructor
  ·rintro ⟨e, c', x', al, k, h1, h2, h3, h4, h5⟩
   refine ⟨e, ?_⟩
   rcases Nat.lt_or_ge c' c0 with h6 | h6
   ·exact .inl ⟨c', x', al, k, h6, h2, h3, h4, h5⟩
   ·obtain rfl : c' = c0 := by omega
    rw [hx] at h3
    cases h3
    rw [ha] at h4
    cases h4
    exact .inr ⟨k, h5.1, by omega, h5.2.2⟩
  ·rintro ⟨e, h | ⟨k, h1, h2, h3⟩⟩
   ·obtain ⟨c', x', al, k, h1, h2⟩ := h
    exact ⟨e, c', x', al, k, by omega, h2⟩
   ·exact ⟨e, c0, x, all, k, by omega, hf, hx, ha, h1, by omega, h3⟩
theorem pi_no {k0 : Int} (hno : tastedB m f (t + 1) (movedR m x (decN m c0) k0) = false) (h : Tab N n bs (PI m f A x all t c0 k0)) : Tab N n bs (PI m f A x all t c0 (k0 + 1)) := by
 refine h.congr fun i c _ _ => ?_
 unfold PI
 by_cases e : i ≤ t
 ·rw [if_pos e, if_pos e]
 ·rw [if_neg e, if_neg e]
  refine ⟨fun ⟨e, h⟩ => ⟨e, h.imp id ?_⟩, fun ⟨e, h⟩ => ⟨e, h.imp id fun ⟨k, h1, h2, h3⟩ => ⟨k, h1, by omega, h3⟩⟩⟩
  rintro ⟨k, h1, h2, h3, h4⟩
  refine ⟨k, h1, ?_, h3, h4⟩
  rcases Int.lt_or_le k k0 with h5 | h5
  ·exact h5
  ·obtain rfl : k = k0 := by omega
   rw [h3, hno] at h4
   cases h4
theorem pi_yes {k0 : Int} (hok : okMix m = true) (hN : prodR (zsM m) = (N : Int)) (hl : (spanR m x f all (decN m c0)).1 ≤ k0) {d : Nat} (hd : decN m d = movedR m x (decN m c0) k0) (hdN : d < N) (hyes : tastedB m f (t + 1) (movedR m x (decN m c0) k0) = true) {r : List Bool} (hr : bs[t + 1]? = some r)
  (h : Tab N n bs (PI m f A x all t c0 k0)) : Tab N n (bs.set (t + 1) (r.set d true)) (PI m f A x all t c0 (k0 + 1)) := by
 refine h.put hr ?_ fun i c hi hc hne => ?_
 ·unfold PI
  rw [if_neg (by omega)]
  exact ⟨fun _ => ⟨rfl, .inr ⟨k0, hl, by omega, hd, by rw [hd]; exact hyes⟩⟩, fun _ => rfl⟩
 ·unfold PI
  by_cases e : i ≤ t
  ·rw [if_pos e, if_pos e]
  ·rw [if_neg e, if_neg e]
   refine ⟨fun ⟨e, h⟩ => ⟨e, h.imp id ?_⟩, fun ⟨e, h⟩ => ⟨e, h.imp id fun ⟨k, h1, h2, h3⟩ => ⟨k, h1, by omega, h3⟩⟩⟩
   rintro ⟨k, h1, h2, h3, h4⟩
   refine ⟨k, h1, ?_, h3, h4⟩
   rcases Int.lt_or_le k k0 with h5 | h5
   ·exact h5
   ·obtain rfl : k = k0 := by omega
    rw [← hd] at h3
    have := dec_inj hok hN hc hdN h3
    rcases hne with h | h
    ·exact absurd e h
    ·exact absurd this h
theorem pm_pf (hok : okMix m = true) (hA : allM m m.acts = some A) (hN : prodR (zsM m) = (N : Int)) (hx : m.acts[t]? = some x) (ha : A[t]? = some all) (hao : ActOk m all x) (h : Tab N n bs (PM m f A t N)) : Tab N n bs (PF m f A (t + 1)) := by
 refine h.congr fun i c _ hc => ?_
 unfold PM PF
 by_cases e : i ≤ t
 ·rw [if_pos e]
  exact ⟨fun h => h.2, fun h => ⟨by omega, h⟩⟩
 ·rw [if_neg e]
  constructor
  ·rintro ⟨e1, h⟩
   obtain rfl : i = t + 1 := by omega
   refine ⟨rfl, ?_⟩
   obtain ⟨⟨c', k, h1, h2, h3, h4, h5⟩, h6⟩ := (fwd_next hok hA hx ha hao _).1 h
   refine ⟨c'.toNat, x, all, k, by omega, ?_, hx, ha, ?_⟩
   ·unfold decN; rw [Int.toNat_of_nonneg h1.1]; exact h2
   ·unfold decN at h5 h6 ⊢; rw [Int.toNat_of_nonneg h1.1]; exact ⟨h3, h4, h5, h6⟩
  ·rintro ⟨e1, c', x', al, k, h1, h2, h3, h4, h5⟩
   subst e1
   rw [hx] at h3
   cases h3
   rw [ha] at h4
   cases h4
   exact ⟨Nat.le_refl _, (fwd_next hok hA hx ha hao _).2 ⟨⟨(c' : Int), k, by omega, h2, h5.1, h5.2.1, h5.2.2.1⟩, h5.2.2.2⟩⟩
theorem pf_qo (h : Tab N n bs (PF m f A m.acts.length)) (hn : n = m.acts.length + 1) : Tab N n bs (QO m f A m.acts.length) := by
 refine h.congr fun i c hi _ => ?_
 unfold PF QO
 by_cases e : m.acts.length ≤ i
 ·obtain rfl : i = m.acts.length := by omega
  rw [if_pos e, truth_end]
  exact ⟨fun h => ⟨e, h⟩, fun h => h.2⟩
 ·rw [if_neg e]
  exact ⟨fun h => ⟨by omega, h⟩, fun h => h.2⟩
theorem qo_qm (h : Tab N n bs (QO m f A (t + 1))) : Tab N n bs (QM m f A t 0) := by
 refine h.congr fun i c _ _ => ?_
 unfold QO QM
 by_cases e : t + 1 ≤ i
 ·rw [if_pos e, if_pos (.inl e)]
 ·rw [if_neg e, if_neg (by omega)]
theorem qm_qo (h : Tab N n bs (QM m f A t N)) : Tab N n bs (QO m f A t) := by
 refine h.congr fun i c _ hc => ?_
 unfold QO QM
 by_cases e : t ≤ i
 ·rw [if_pos e, if_pos (by omega)]
 ·rw [if_neg e, if_neg (by omega)]
theorem qm_skip (h : Tab N n bs (QM m f A t c0)) (hno : ¬ Fwd m f A t (decN m c0)) : Tab N n bs (QM m f A t (c0 + 1)) := by
 refine h.congr fun i c _ _ => ?_
 unfold QM
 by_cases e : t < i ∨ i = t ∧ c < c0
 ·rw [if_pos e, if_pos (by omega)]
 ·rw [if_neg e]
  by_cases e2 : i = t ∧ c = c0
  ·obtain ⟨rfl, rfl⟩ := e2
   rw [if_pos (by omega)]
   exact ⟨fun h => absurd (Fin.fwd h) hno, fun h => absurd h hno⟩
  ·rw [if_neg (by omega)]
theorem qm_put {r : List Bool} {b : Bool} (hr : bs[t]? = some r) (hb : b = true ↔ Truth m f A t (decN m c0)) (h : Tab N n bs (QM m f A t c0)) : Tab N n (bs.set t (r.set c0 b)) (QM m f A t (c0 + 1)) := by
 refine h.put hr ?_ fun i c hi hc hne => ?_
 ·unfold QM
  rw [if_pos (by omega)]
  exact hb
 ·unfold QM
  by_cases e : t < i ∨ i = t ∧ c < c0
  ·rw [if_pos e, if_pos (by omega)]
  ·rw [if_neg e, if_neg (by omega)]
theorem PM.now {c : Nat} : PM m f A t c0 t c ↔ Fwd m f A t (decN m c) := by
 unfold PM
 rw [if_pos (Nat.le_refl _)]
theorem QM.now : QM m f A t c0 t c0 ↔ Fwd m f A t (decN m c0) := by
 unfold QM
 rw [if_neg (by omega)]
theorem QM.next {c : Nat} : QM m f A t c0 (t + 1) c ↔ Truth m f A (t + 1) (decN m c) := by
 unfold QM
 rw [if_pos (by omega)]
/-- What is moved has a number. -/
theorem moved_code (hok : okMix m = true) (hA : allM m m.acts = some A) (hN : prodR (zsM m) = (N : Int)) (hx : m.acts[t]? = some x) (ha : A[t]? = some all) {k : Int} (h : Fwd m f A t (decN m c0)) (h4 : (spanR m x f all (decN m c0)).1 ≤ k) (h5 : k ≤ (spanR m x f all (decN m c0)).2) :
  Within m (movedR m x (decN m c0) k) ∧ ∃ d : Nat, codeH m (movedR m x (decN m c0) k) = (d : Int) ∧ d < N ∧ decN m d = movedR m x (decN m c0) k := by
 have hf := moved_fits hok hA hx ha h h4 h5
 have hv := (okMix_vess hok).1
 have hc := codeH_in hf.1 hv
 refine ⟨hf.1, (codeH m (movedR m x (decN m c0) k)).toNat, by omega, by omega, ?_⟩
 show decH m ((codeH m (movedR m x (decN m c0) k)).toNat : Int) = _
 rw [Int.toNat_of_nonneg hc.1]
 exact dec_codeH hf.1 hv hf.2
/-- One move more towards an end. -/
def LdTo (m : Mix) (f : Int) (A : List Held) (x : MAct) (all : Held) (t : Nat) (s : Held) (k0 : Int) : Prop := ∃ k : Int, (spanR m x f all s).1 ≤ k ∧ k < k0 ∧ Truth m f A (t + 1) (movedR m x s k)
theorem LdTo.zero {s : Held} : ¬ LdTo m f A x all t s (spanR m x f all s).1 := fun ⟨k, h1, h2, _⟩ => by omega
theorem LdTo.step {s : Held} {k0 : Int} (hl : (spanR m x f all s).1 ≤ k0) : LdTo m f A x all t s (k0 + 1) ↔ LdTo m f A x all t s k0 ∨ Truth m f A (t + 1) (movedR m x s k0) := by
 constructor
 ·rintro ⟨k, h1, h2, h3⟩
  rcases Int.lt_or_le k k0 with h5 | h5
  ·exact .inl ⟨k, h1, h5, h3⟩
  ·obtain rfl : k = k0 := by omega
   exact .inr h3
 ·rintro (⟨k, h1, h2, h3⟩ | h)
  ·exact ⟨k, h1, by omega, h3⟩
  ·exact ⟨k0, hl, by omega, h⟩
theorem LdTo.fin {s : Held} {k0 : Int} (hok : okMix m = true) (hA : allM m m.acts = some A) (hx : m.acts[t]? = some x) (ha : A[t]? = some all) (hao : ActOk m all x) (hf : Fwd m f A t s) (hk : (spanR m x f all s).2 < k0) (hk2 : k0 ≤ (spanR m x f all s).2 + 1 ∨ k0 = (spanR m x f all s).1) : LdTo m f A x all t s k0 ↔ Truth m f A t s := by
 rw [truth_step hok hA hx ha hao]
 constructor
 ·rintro ⟨k, h1, h2, h3⟩
  exact ⟨hf, k, h1, by omega, h3⟩
 ·rintro ⟨_, k, h1, h2, h3⟩
  exact ⟨k, h1, by omega, h3⟩
end
end Go.Proofs.Ythofngceiecniaa
/- Least and greatest so far, over tables of truths: the loops of the answer's Of, Moved, Gone (plain). -/
namespace Go.Proofs.Ythofngceiecniaa

/-- The least and the greatest of some numbers; (0, -1) while there are none. -/
def SpanOf (P : Int → Prop) (s : Int × Int) : Prop := ((∀ n, ¬ P n) ∧ s = (0, -1)) ∨ IsSpan P s
section
variable {P P' : Int → Prop} {s : Int × Int} {k : Int}
theorem SpanOf.keep (h : SpanOf P s) (e : ∀ n, P' n ↔ P n) : SpanOf P' s := by
 rcases h with ⟨h, rfl⟩ | h
 ·exact .inl ⟨fun n hn => h n ((e n).1 hn), rfl⟩
 ·exact .inr (h.congr fun n => (e n).symm)
theorem SpanOf.add (h : SpanOf P s) (h0 : ∀ n, P n → 0 ≤ n) (hk : 0 ≤ k) (e : ∀ n, P' n ↔ P n ∨ n = k) : SpanOf P' (wideS s k) := by
 right
 unfold wideS
 rcases h with ⟨h, rfl⟩ | h
 ·rw [if_pos (by decide)]
  exact ⟨(e _).2 (.inr rfl), (e _).2 (.inr rfl), fun n hn => by
   rcases (e n).1 hn with h1 | h1
   ·exact absurd h1 (h n)
   ·dsimp only; omega⟩
 ·have h2 := h0 _ h.2.1
  rw [if_neg (by omega)]
  refine ⟨?_, ?_, fun n hn => ?_⟩
  ·dsimp only
   rcases Int.le_total s.1 k with e1 | e1
   ·rw [Int.min_eq_left e1]; exact (e _).2 (.inl h.1)
   ·rw [Int.min_eq_right e1]; exact (e _).2 (.inr rfl)
  ·dsimp only
   rcases Int.le_total s.2 k with e1 | e1
   ·rw [Int.max_eq_right e1]; exact (e _).2 (.inr rfl)
   ·rw [Int.max_eq_left e1]; exact (e _).2 (.inl h.2.1)
  ·dsimp only
   rcases (e n).1 hn with h1 | h1
   ·have := h.2.2 n h1
    omega
   ·omega
theorem SpanOf.all (h : SpanOf P s) (hn : ∃ n, P n) : IsSpan P s := by
 rcases h with ⟨h, _⟩ | h
 ·obtain ⟨n, hn⟩ := hn
  exact absurd hn (h n)
 ·exact h
end
section
variable {m : Mix} {f : Int} {A : List Held} {x : MAct} {all s : Held} {t c0 N q : Nat}
/-- A truth's state has a number. -/
theorem truth_code (hok : okMix m = true) (hA : allM m m.acts = some A) (hN : prodR (zsM m) = (N : Int)) (ht : t ≤ m.acts.length) (h : Truth m f A t s) : ∃ c : Nat, c < N ∧ decN m c = s := by
 have h1 := fwd_code hok hA (Fin.fwd h) ht
 refine ⟨(codeH m s).toNat, by omega, ?_⟩
 show decH m ((codeH m s).toNat : Int) = s
 rw [Int.toNat_of_nonneg h1.1.1, h1.2]
theorem dec_bd (hok : okMix m = true) (c : Nat) (i : Nat) (hi : i < 4) : 0 ≤ heldAt (decN m c) (i : Int) ∧ heldAt (decN m c) (i : Int) ≤ 12 := by
 have hv := (okMix_vess hok).1
 unfold decN
 by_cases hq : i < m.vessels.length
 ·have h1 := (decH_within (c := (c : Int)) (okMix_ves hok) hv (by omega)).2 i _ (List.getElem?_eq_getElem hq)
  have h2 := okMix_ves hok _ (List.getElem_mem hq)
  omega
 ·have h1 := (bare_iff (decH_len hv) hv).1 (decH_bare (c := (c : Int)) hv) i (by omega) hi
  omega
/-- Moved. -/
def MvN (m : Mix) (f : Int) (A : List Held) (x : MAct) (all : Held) (t c0 : Nat) (n : Int) : Prop :=
 ∃ c : Nat, c < c0 ∧ Truth m f A t (decN m c) ∧ (spanR m x f all (decN m c)).1 ≤ n ∧ n ≤ (spanR m x f all (decN m c)).2 ∧ Truth m f A (t + 1) (movedR m x (decN m c) n)
def MvQ (m : Mix) (f : Int) (A : List Held) (x : MAct) (all : Held) (t c0 : Nat) (k0 n : Int) : Prop :=
 MvN m f A x all t c0 n ∨ ((spanR m x f all (decN m c0)).1 ≤ n ∧ n < k0 ∧ Truth m f A (t + 1) (movedR m x (decN m c0) n))
theorem mv_start {n : Int} : ¬ MvN m f A x all t 0 n := fun ⟨_, h, _⟩ => absurd h (Nat.not_lt_zero _)
theorem mv_skip (hno : ¬ Truth m f A t (decN m c0)) (n : Int) : MvN m f A x all t (c0 + 1) n ↔ MvN m f A x all t c0 n := by
 refine ⟨fun ⟨c, h1, h2⟩ => ⟨c, ?_, h2⟩, fun ⟨c, h1, h2⟩ => ⟨c, by omega, h2⟩⟩
 rcases Nat.lt_or_ge c c0 with h | h
 ·exact h
 ·obtain rfl : c = c0 := by omega
  exact absurd h2.1 hno
theorem mv_in (n : Int) : MvQ m f A x all t c0 (spanR m x f all (decN m c0)).1 n ↔ MvN m f A x all t c0 n := by
 unfold MvQ
 refine ⟨fun h => h.elim id fun h => by omega, .inl⟩
theorem mv_no {k0 : Int} (hno : ¬ Truth m f A (t + 1) (movedR m x (decN m c0) k0)) (n : Int) : MvQ m f A x all t c0 (k0 + 1) n ↔ MvQ m f A x all t c0 k0 n := by
 unfold MvQ
 refine ⟨fun h => h.imp id fun ⟨h1, h2, h3⟩ => ⟨h1, ?_, h3⟩, fun h => h.imp id fun ⟨h1, h2, h3⟩ => ⟨h1, by omega, h3⟩⟩
 rcases Int.lt_or_le n k0 with h4 | h4
 ·exact h4
 ·obtain rfl : n = k0 := by omega
  exact absurd h3 hno
theorem mv_yes {k0 : Int} (hl : (spanR m x f all (decN m c0)).1 ≤ k0) (h : Truth m f A (t + 1) (movedR m x (decN m c0) k0)) (n : Int) : MvQ m f A x all t c0 (k0 + 1) n ↔ MvQ m f A x all t c0 k0 n ∨ n = k0 := by
 unfold MvQ
 constructor
 ·rintro (h1 | ⟨h1, h2, h3⟩)
  ·exact .inl (.inl h1)
  ·rcases Int.lt_or_le n k0 with h4 | h4
   ·exact .inl (.inr ⟨h1, h4, h3⟩)
   ·exact .inr (by omega)
 ·rintro ((h1 | ⟨h1, h2, h3⟩) | rfl)
  ·exact .inl h1
  ·exact .inr ⟨h1, by omega, h3⟩
  ·exact .inr ⟨hl, by omega, h⟩
theorem mv_out {k0 : Int} (hf : Truth m f A t (decN m c0)) (hk : (spanR m x f all (decN m c0)).2 < k0) (hk2 : k0 ≤ (spanR m x f all (decN m c0)).2 + 1 ∨ k0 = (spanR m x f all (decN m c0)).1) (n : Int) : MvN m f A x all t (c0 + 1) n ↔ MvQ m f A x all t c0 k0 n := by
 unfold MvQ
 constructor
 ·rintro ⟨c, h1, h2, h3, h4, h5⟩
  rcases Nat.lt_or_ge c c0 with h6 | h6
  ·exact .inl ⟨c, h6, h2, h3, h4, h5⟩
  ·obtain rfl : c = c0 := by omega
   exact .inr ⟨h3, by omega, h5⟩
 ·rintro (⟨c, h1, h2⟩ | ⟨h1, h2, h3⟩)
  ·exact ⟨c, by omega, h2⟩
  ·exact ⟨c0, by omega, hf, h1, by omega, h3⟩
theorem spanR_bd (hok : okMix m = true) (hA : allM m m.acts = some A) (hx : m.acts[t]? = some x) (ha : A[t]? = some all) (h : Fwd m f A t s) : 0 ≤ (spanR m x f all s).1 ∧ (∀ k, (spanR m x f all s).1 ≤ k → k ≤ (spanR m x f all s).2 → 0 ≤ k ∧ k ≤ sizeA m all x) := by
 have hv := (okMix_vess hok).1
 obtain ⟨hao, hn⟩ := act_ok hA hv hx ha
 have hf := fwd_fits hA hv h ha
 refine ⟨?_, fun k h1 h2 => ?_⟩
 ·unfold spanR
  by_cases h1 : x.kind = 1
  ·rw [if_pos h1]
   split
   ·have := hao.size.1 h1
    dsimp only; omega
   ·decide
  ·rw [if_neg h1]
   split
   ·have h3 := hao.from_ h1
    have h4 := idxV_lt h3
    have h5 := hf.le (idxV m.vessels x.fr).toNat (by omega)
    rw [Int.toNat_of_nonneg h3] at h5
    exact h5.1
   ·dsimp only; omega
 ·rw [← spans_same hao hf hv] at h1 h2
  have := fits_moves hao hf hv ⟨h1, h2⟩
  exact ⟨this.1, this.2.1⟩
theorem mv_end (hok : okMix m = true) (hA : allM m m.acts = some A) (hN : prodR (zsM m) = (N : Int)) (hx : m.acts[t]? = some x) (ha : A[t]? = some all) (n : Int) : MvN m f A x all t N n ↔ MovedP m ((t : Int) + 1) f A n := by
 have hv := (okMix_vess hok).1
 have htl : t < m.acts.length := (List.getElem?_eq_some_iff.1 hx).1
 obtain ⟨hao, _⟩ := act_ok hA hv hx ha
 unfold MovedP
 rw [show ((t : Int) + 1).toNat - 1 = t from by omega, show ((t : Int) + 1).toNat = t + 1 from by omega]
 constructor
 ·rintro ⟨c, _, h1, h2, h3, h4⟩
  have hf := fwd_fits hA hv (Fin.fwd h1) ha
  rw [← spans_same hao hf hv] at h2 h3
  rw [← moved_same hao] at h4
  exact ⟨x, all, _, hx, ha, h1, h2, h3, h4⟩
 ·rintro ⟨x', al, s, h1, h2, h3, h4, h5, h6⟩
  rw [hx] at h1
  cases h1
  rw [ha] at h2
  cases h2
  obtain ⟨c, hc, rfl⟩ := truth_code hok hA hN (by omega) h3
  have hf := fwd_fits hA hv (Fin.fwd h3) ha
  rw [spans_same hao hf hv] at h4 h5
  rw [moved_same hao] at h6
  exact ⟨c, hc, h3, h4, h5, h6⟩
theorem mv_some (h : Truth m f A 0 zeroH) (hx : m.acts[t]? = some x) : ∃ n, MovedP m ((t : Int) + 1) f A n := by
 have ht : t < m.acts.length := (List.getElem?_eq_some_iff.1 hx).1
 obtain ⟨s, hs⟩ := truth_all h (Nat.le_of_lt ht)
 obtain ⟨s', ⟨x', al, k, h1, h2, h3, h4, rfl⟩, h6⟩ := hs.next ht
 unfold MovedP
 rw [show ((t : Int) + 1).toNat - 1 = t from by omega, show ((t : Int) + 1).toNat = t + 1 from by omega]
 exact ⟨k, x', al, s, h1, h2, hs, h3, h4, h6⟩
/-- What is filled by so many acts. -/
def filK (m : Mix) (f : Int) (k : Nat) : Int := (m.acts.take k).foldl (fun n x => if x.kind = 1 ∧ x.fr = f then n + x.drops else n) 0
theorem filK_succ {k : Nat} (hx : m.acts[k]? = some x) : filK m f (k + 1) = if x.kind = 1 ∧ x.fr = f then filK m f k + x.drops else filK m f k := by
 unfold filK
 obtain ⟨hk, rfl⟩ := List.getElem?_eq_some_iff.1 hx
 rw [List.take_succ_eq_append_getElem hk, List.foldl_append]
 rfl
theorem sum_take {a n : Int} (hs : s.length = 4) (ha : a < 4) : sumH (takeH s a n) = sumH s - if 0 ≤ a then n else 0 := by
 by_cases h0 : 0 ≤ a
 ·rw [if_pos h0]
  unfold takeH
  rw [if_pos h0]
  obtain ⟨i, rfl⟩ : ∃ i : Nat, a = (i : Int) := ⟨a.toNat, by omega⟩
  match s, hs with
  | [p, q, r, u], _ =>
   match i, (by omega : i < 4) with
   | 0, _ => show p - n + q + r + u = p + q + r + u - n; omega
   | 1, _ => show p + (q - n) + r + u = p + q + r + u - n; omega
   | 2, _ => show p + q + (r - n) + u = p + q + r + u - n; omega
   | 3, _ => show p + q + r + (u - n) = p + q + r + u - n; omega
 ·rw [if_neg h0]
  unfold takeH
  rw [if_neg h0]
  omega
theorem sum_give {a n : Int} (hs : s.length = 4) (ha : a < 4) : sumH (giveH s a n) = sumH s + if 0 ≤ a then n else 0 := by
 by_cases h0 : 0 ≤ a
 ·rw [if_pos h0]
  unfold giveH
  rw [if_pos h0]
  obtain ⟨i, rfl⟩ : ∃ i : Nat, a = (i : Int) := ⟨a.toNat, by omega⟩
  match s, hs with
  | [p, q, r, u], _ =>
   match i, (by omega : i < 4) with
   | 0, _ => show p + n + q + r + u = p + q + r + u + n; omega
   | 1, _ => show p + (q + n) + r + u = p + q + r + u + n; omega
   | 2, _ => show p + q + (r + n) + u = p + q + r + u + n; omega
   | 3, _ => show p + q + r + (u + n) = p + q + r + u + n; omega
 ·rw [if_neg h0]
  unfold giveH
  rw [if_neg h0]
  omega
theorem sum_shift {a b n : Int} (hs : s.length = 4) (ha : a < 4) (hb : b < 4) (hab : a ≠ b ∨ a < 0) : sumH (shiftH s a b n) = sumH s - (if 0 ≤ a then n else 0) + (if 0 ≤ b then n else 0) := by
 unfold shiftH
 rw [sum_give (by rw [take_len, hs]) hb, sum_take hs ha]
theorem sum_fwd (hok : okMix m = true) (hA : allM m m.acts = some A) : ∀ {t : Nat} {s : Held}, t ≤ m.acts.length → Fwd m f A t s → sumH s ≤ filK m f t
 | 0, s, _, h => by
  rw [h.1]
  exact (by decide : sumH zeroH ≤ 0)
 | t + 1, s', ht, h => by
  obtain ⟨⟨s, h1, x, all, k, hx, ha, h2, h3, rfl⟩, _⟩ := h
  have ih := sum_fwd hok hA (by omega : t ≤ m.acts.length) h1
  have hv := (okMix_vess hok).1
  obtain ⟨hao, _⟩ := act_ok hA hv hx ha
  have hf := fwd_fits hA hv h1 ha
  have hm := fits_moves hao hf hv ⟨h2, h3⟩
  have hf4 : fromI m x < 4 := by
   unfold fromI
   split
   ·decide
   ·by_cases h0 : 0 ≤ idxV m.vessels x.fr
    ·have := idxV_lt h0; omega
    ·omega
  have ht4 : toI m x < 4 := by
   unfold toI
   split
   ·by_cases h0 : 0 ≤ idxV m.vessels x.to
    ·have := idxV_lt h0; omega
    ·omega
   ·decide
  rw [filK_succ hx]
  by_cases h1 : x.kind = 1
  ·have e : fromI m x = -1 := by unfold fromI; rw [if_pos h1]
   have e4 : ¬ x.kind = 4 := by omega
   have hto : 0 ≤ toI m x := by unfold toI; rw [if_pos (.inl h1)]; exact hao.to_ (.inl h1)
   rw [sum_shift hf.lh hf4 ht4 (.inr (by omega)), e, if_neg (by decide), if_pos hto]
   unfold spanP at h2 h3
   rw [e, if_neg (by decide)] at h2 h3
   unfold sizeA at h2 h3
   rw [if_neg e4] at h2 h3
   by_cases hfr : x.fr = f
   ·rw [if_pos hfr] at h2 h3
    rw [if_pos ⟨h1, hfr⟩]
    dsimp only at h2 h3
    omega
   ·rw [if_neg hfr] at h2 h3
    rw [if_neg (fun h => hfr h.2)]
    dsimp only at h2 h3
    omega
  ·have hfr : 0 ≤ fromI m x := by unfold fromI; rw [if_neg h1]; exact hao.from_ h1
   have hne : fromI m x ≠ toI m x := by
    intro e
    unfold fromI toI at e
    unfold fromI at hfr
    rw [if_neg h1] at e hfr
    split at e
    ·rename_i h2
     rcases h2 with h2 | h2
     ·exact h1 h2
     ·exact hao.apart h2 e
    ·omega
   have e5 : ¬ (x.kind = 1 ∧ x.fr = f) := fun h => h1 h.1
   rw [sum_shift hf.lh hf4 ht4 (.inl hne), if_pos hfr, if_neg e5]
   have hk0 := hm.1
   split <;> omega
theorem sum_truth (hok : okMix m = true) (hA : allM m m.acts = some A) (h : Truth m f A m.acts.length s) : sumH s ≤ filledM m f := by
 have h1 := sum_fwd hok hA (Nat.le_refl _) (Fin.fwd h)
 unfold filK at h1
 rw [List.take_length] at h1
 exact h1
/-- Gone. -/
def GnN (m : Mix) (f : Int) (A : List Held) (c0 : Nat) (n : Int) : Prop := ∃ c : Nat, c < c0 ∧ Truth m f A m.acts.length (decN m c) ∧ n = filledM m f - sumH (decN m c)
theorem gn_start {n : Int} : ¬ GnN m f A 0 n := fun ⟨_, h, _⟩ => absurd h (Nat.not_lt_zero _)
theorem gn_skip (hno : ¬ Truth m f A m.acts.length (decN m c0)) (n : Int) : GnN m f A (c0 + 1) n ↔ GnN m f A c0 n := by
 refine ⟨fun ⟨c, h1, h2⟩ => ⟨c, ?_, h2⟩, fun ⟨c, h1, h2⟩ => ⟨c, by omega, h2⟩⟩
 rcases Nat.lt_or_ge c c0 with h | h
 ·exact h
 ·obtain rfl : c = c0 := by omega
  exact absurd h2.1 hno
theorem gn_more (h : Truth m f A m.acts.length (decN m c0)) (n : Int) : GnN m f A (c0 + 1) n ↔ GnN m f A c0 n ∨ n = filledM m f - sumH (decN m c0) := by
 constructor
 ·rintro ⟨c, h1, h2⟩
  rcases Nat.lt_or_ge c c0 with h3 | h3
  ·exact .inl ⟨c, h3, h2⟩
  ·obtain rfl : c = c0 := by omega
   exact .inr h2.2
 ·rintro (⟨c, h1, h2⟩ | rfl)
  ·exact ⟨c, by omega, h2⟩
  ·exact ⟨c0, by omega, h, rfl⟩
theorem gn_pos (hok : okMix m = true) (hA : allM m m.acts = some A) {n : Int} (h : GnN m f A c0 n) : 0 ≤ n := by
 obtain ⟨c, _, h1, rfl⟩ := h
 have := sum_truth hok hA h1
 omega
theorem gn_end (hok : okMix m = true) (hA : allM m m.acts = some A) (hN : prodR (zsM m) = (N : Int)) (n : Int) : GnN m f A N n ↔ GoneP m f A n := by
 unfold GoneP
 constructor
 ·rintro ⟨c, _, h1, h2⟩
  exact ⟨_, h1, h2⟩
 ·rintro ⟨s, h1, h2⟩
  obtain ⟨c, hc, rfl⟩ := truth_code hok hA hN (Nat.le_refl _) h1
  exact ⟨c, hc, h1, h2⟩
theorem gn_some (h : Truth m f A 0 zeroH) : ∃ n, GoneP m f A n := by
 obtain ⟨s, hs⟩ := truth_all h (Nat.le_refl _)
 exact ⟨_, s, hs, rfl⟩
end
end Go.Proofs.Ythofngceiecniaa
/- make of a slice with equal length and capacity, inside a fence (once in RfCosts). -/
namespace Go.Proofs.Ythofngceiecniaa
open Go.RowKit Go.Shelf

theorem wpListIn_make_all {F : Fence} {nn : Nat} {P : Program} {w : World} {ops : Array Oper} {rest : List Oper} {o : Oper} {a : Act} {Q : Exit → Act → World → Prop} (hgd : o.guard = none) (l c : Operand) (t : TypeId) (ho : o.op = .makeSlice t l c)
  (e : TypeId) (i : TypeInfo) (z : Value) (h1 : P.underlying t = some (.slice e)) (h2 : P.info? e = some i) (h3 : i.zero = some z) (n : Nat) (hl : a.eval l = .int .i64 n) (hc : a.eval c = .int .i64 n) (hb : i.bytes * n ≤ 140737488355328) (hn : n ≤ maxLen)
  (h : wpListIn F nn P ops Q rest (a.put o.dst (.slice (some ⟨w.heap.size, 0, none⟩) n n)) (w.alloc (.cells (madeCells z.cells (n * i.size)) e))) :
  wpListIn F nn P ops Q (o :: rest) a w := by
 have h63' : (n : Int) ≤ 9223372036854775807 := by
  have h := hn
  simp [maxLen] at h
  omega
 have hb' : (i.bytes : Int) * (n : Int) ≤ 281474976710656 := by
  rw [← Int.natCast_mul]
  omega
 refine wpListIn_plain hgd fun K hK => ?_
 have hr := run_make (P := P) w t e i z h1 h2 h3 .i64 .i64 n n (by omega) (Int.le_refl _) hb' h63'
 simp only [Int.toNat_natCast] at hr
 unfold Oper.wpIn
 refine ⟨?_, ?_⟩
 ·simp [Oper.about, ho]
 ·rw [Oper.semAt_plain F _ _ (by rw [ho]; intro c hc'; cases hc')]
  simp [execOp, ho, hl, hc, hr, Result.andThen]
  exact hK _ _ h
/-- What make fills a row of one-cell values with. -/
theorem made_one (v : Value) (n : Nat) : madeCells #[v] (n * 1) = (List.replicate n v).toArray := by
 unfold madeCells
 rw [Nat.mul_one]
 refine Array.ext (by simp) fun i h1 h2 => ?_
 simp [Nat.mod_one]
end Go.Proofs.Ythofngceiecniaa
/- The answer's truths. -/
namespace Go.Proofs.Ythofngceiecniaa
open Go.RowKit
theorem info_bools : (Try.prog.info? 109).map (fun i => (i.zero, i.size, i.bytes)) = some (some (.slice none 0 0), 1, 24) := by kernel_rfl
theorem info_bool : (Try.prog.info? 4).map (fun i => (i.zero, i.size, i.bytes)) = some (some (.bool false), 1, 1) := by kernel_rfl
theorem okMix_tas {m : Mix} (hk : okMix m = true) : ∀ x ∈ m.tastes, 0 ≤ idxV m.vessels x.vessel := by
 intro x hx
 unfold okMix at hk
 simp only [Bool.and_eq_true] at hk
 have h := List.all_eq_true.1 hk.1.1.1.2 x hx
 unfold tastB at h
 have := of_decide_eq_true h
 omega
structure Ex2 {α β : Type} (P : α → β → Prop) : Prop where
 ex : ∃ a b, P a b
structure Ex3 {α β γ : Type} (P : α → β → γ → Prop) : Prop where
 ex : ∃ a b c, P a b c
/-- What truths hands back. -/
def TruthsOut (w : World) (m : Mix) (f : Int) (e : Ending) (w' : World) : Prop :=
 ∃ (L : List Held) (rs : List Nat) (bs : List (List Bool)) (g n N : Nat) (b : Bool), e = .returned (.tuple #[.slice (some ⟨g, 0, none⟩) n n, .bool b]) ∧ prodR (zsM m) = (N : Int) ∧ (1 ≤ N ∧ N ≤ 28561) ∧ allM m m.acts = some L ∧ n = m.acts.length + 1 ∧ BR w w' N g rs bs ∧ Tab N n bs (fun i c => Truth m f L i (decN m c)) ∧ (b = true ↔ Truth m f L 0 zeroH)
inductive FrT1 (v0 v1 v2 v4 v5 v6 v7 v8 v9 v10 : Value) : Act → Prop
 | mk (u3 u11 u12 u13 u14 u15 u16 u17 u18 u19 u20 u21 u22 u23 u24 u25 u26 u27 u28 u29 u30 u31 u32 u33 u34 u35 u36 u37 u38 u39 u40 u41 u42 u43 u44 u45 u46 u47 u48 u49 u50 u51 u52 u53 u54 u55 u56 u57 u58 u59 u60 u61 u62 u63 u64 u65 u66 u67 u68 u69 u70 u71 u72 u73 u74 u75 u76 u77 u78 u79 u80 u81 u82 u83 u84 u85 u86 u87 u88 u89 u90 u91 u92 u93 u94 u95 u96 u97 u98 u99 u100 u101 u102 u103 u104 u105 u106 u107 u108 u109 u110 u111 u112 u113 u114 u115 u116 u117 u118 u119 u120 u121 u122 u123 u124 u125 u126 u127 u128 u129 u130 u131 u132 u133 u134 u135 u136 u137 u138 u139 u140 u141 u142 u143 u144 u145 u146 u147 u148 u149 u150 u151 u152 u153 u154 u155 u156 u157 u158 u159 u160 u161 u162 u163 u164 u165 u166 u167 u168 u169 u170 u171 u172 u173 u174 u175 u176 u177 u178 u179 u180 u181 u182 u183 u184 u185 u186 u187 u188 u189 u190 u191 : Value) : FrT1 v0 v1 v2 v4 v5 v6 v7 v8 v9 v10 { tmps := #[v0, v1, v2, u3, v4, v5, v6, v7, v8, v9, v10, u11, u12, u13, u14, u15, u16, u17, u18, u19, u20, u21, u22, u23, u24, u25, u26, u27, u28, u29, u30, u31, u32, u33, u34, u35, u36, u37, u38, u39, u40, u41, u42, u43, u44, u45, u46, u47, u48, u49, u50, u51, u52, u53, u54, u55, u56, u57, u58, u59, u60, u61, u62, u63, u64, u65, u66, u67, u68, u69, u70, u71, u72, u73, u74, u75, u76, u77, u78, u79, u80, u81, u82, u83, u84, u85, u86, u87, u88, u89, u90, u91, u92, u93, u94, u95, u96, u97, u98, u99, u100, u101, u102, u103, u104, u105, u106, u107, u108, u109, u110, u111, u112, u113, u114, u115, u116, u117, u118, u119, u120, u121, u122, u123, u124, u125, u126, u127, u128, u129, u130, u131, u132, u133, u134, u135, u136, u137, u138, u139, u140, u141, u142, u143, u144, u145, u146, u147, u148, u149, u150, u151, u152, u153, u154, u155, u156, u157, u158, u159, u160, u161, u162, u163, u164, u165, u166, u167, u168, u169, u170, u171, u172, u173, u174, u175, u176, u177, u178, u179, u180, u181, u182, u183, u184, u185, u186, u187, u188, u189, u190, u191], defers := [] }
inductive FrT2 (v0 v1 v2 v4 v5 v6 v7 v8 v9 v55 v56 v57 : Value) : Act → Prop
 | mk (u3 u10 u11 u12 u13 u14 u15 u16 u17 u18 u19 u20 u21 u22 u23 u24 u25 u26 u27 u28 u29 u30 u31 u32 u33 u34 u35 u36 u37 u38 u39 u40 u41 u42 u43 u44 u45 u46 u47 u48 u49 u50 u51 u52 u53 u54 u58 u59 u60 u61 u62 u63 u64 u65 u66 u67 u68 u69 u70 u71 u72 u73 u74 u75 u76 u77 u78 u79 u80 u81 u82 u83 u84 u85 u86 u87 u88 u89 u90 u91 u92 u93 u94 u95 u96 u97 u98 u99 u100 u101 u102 u103 u104 u105 u106 u107 u108 u109 u110 u111 u112 u113 u114 u115 u116 u117 u118 u119 u120 u121 u122 u123 u124 u125 u126 u127 u128 u129 u130 u131 u132 u133 u134 u135 u136 u137 u138 u139 u140 u141 u142 u143 u144 u145 u146 u147 u148 u149 u150 u151 u152 u153 u154 u155 u156 u157 u158 u159 u160 u161 u162 u163 u164 u165 u166 u167 u168 u169 u170 u171 u172 u173 u174 u175 u176 u177 u178 u179 u180 u181 u182 u183 u184 u185 u186 u187 u188 u189 u190 u191 : Value) : FrT2 v0 v1 v2 v4 v5 v6 v7 v8 v9 v55 v56 v57 { tmps := #[v0, v1, v2, u3, v4, v5, v6, v7, v8, v9, u10, u11, u12, u13, u14, u15, u16, u17, u18, u19, u20, u21, u22, u23, u24, u25, u26, u27, u28, u29, u30, u31, u32, u33, u34, u35, u36, u37, u38, u39, u40, u41, u42, u43, u44, u45, u46, u47, u48, u49, u50, u51, u52, u53, u54, v55, v56, v57, u58, u59, u60, u61, u62, u63, u64, u65, u66, u67, u68, u69, u70, u71, u72, u73, u74, u75, u76, u77, u78, u79, u80, u81, u82, u83, u84, u85, u86, u87, u88, u89, u90, u91, u92, u93, u94, u95, u96, u97, u98, u99, u100, u101, u102, u103, u104, u105, u106, u107, u108, u109, u110, u111, u112, u113, u114, u115, u116, u117, u118, u119, u120, u121, u122, u123, u124, u125, u126, u127, u128, u129, u130, u131, u132, u133, u134, u135, u136, u137, u138, u139, u140, u141, u142, u143, u144, u145, u146, u147, u148, u149, u150, u151, u152, u153, u154, u155, u156, u157, u158, u159, u160, u161, u162, u163, u164, u165, u166, u167, u168, u169, u170, u171, u172, u173, u174, u175, u176, u177, u178, u179, u180, u181, u182, u183, u184, u185, u186, u187, u188, u189, u190, u191], defers := [] }
inductive FrT3 (v0 v1 v2 v4 v5 v6 v7 v8 v9 v11 v12 v13 v55 v56 v57 : Value) : Act → Prop
 | mk (u3 u10 u14 u15 u16 u17 u18 u19 u20 u21 u22 u23 u24 u25 u26 u27 u28 u29 u30 u31 u32 u33 u34 u35 u36 u37 u38 u39 u40 u41 u42 u43 u44 u45 u46 u47 u48 u49 u50 u51 u52 u53 u54 u58 u59 u60 u61 u62 u63 u64 u65 u66 u67 u68 u69 u70 u71 u72 u73 u74 u75 u76 u77 u78 u79 u80 u81 u82 u83 u84 u85 u86 u87 u88 u89 u90 u91 u92 u93 u94 u95 u96 u97 u98 u99 u100 u101 u102 u103 u104 u105 u106 u107 u108 u109 u110 u111 u112 u113 u114 u115 u116 u117 u118 u119 u120 u121 u122 u123 u124 u125 u126 u127 u128 u129 u130 u131 u132 u133 u134 u135 u136 u137 u138 u139 u140 u141 u142 u143 u144 u145 u146 u147 u148 u149 u150 u151 u152 u153 u154 u155 u156 u157 u158 u159 u160 u161 u162 u163 u164 u165 u166 u167 u168 u169 u170 u171 u172 u173 u174 u175 u176 u177 u178 u179 u180 u181 u182 u183 u184 u185 u186 u187 u188 u189 u190 u191 : Value) : FrT3 v0 v1 v2 v4 v5 v6 v7 v8 v9 v11 v12 v13 v55 v56 v57 { tmps := #[v0, v1, v2, u3, v4, v5, v6, v7, v8, v9, u10, v11, v12, v13, u14, u15, u16, u17, u18, u19, u20, u21, u22, u23, u24, u25, u26, u27, u28, u29, u30, u31, u32, u33, u34, u35, u36, u37, u38, u39, u40, u41, u42, u43, u44, u45, u46, u47, u48, u49, u50, u51, u52, u53, u54, v55, v56, v57, u58, u59, u60, u61, u62, u63, u64, u65, u66, u67, u68, u69, u70, u71, u72, u73, u74, u75, u76, u77, u78, u79, u80, u81, u82, u83, u84, u85, u86, u87, u88, u89, u90, u91, u92, u93, u94, u95, u96, u97, u98, u99, u100, u101, u102, u103, u104, u105, u106, u107, u108, u109, u110, u111, u112, u113, u114, u115, u116, u117, u118, u119, u120, u121, u122, u123, u124, u125, u126, u127, u128, u129, u130, u131, u132, u133, u134, u135, u136, u137, u138, u139, u140, u141, u142, u143, u144, u145, u146, u147, u148, u149, u150, u151, u152, u153, u154, u155, u156, u157, u158, u159, u160, u161, u162, u163, u164, u165, u166, u167, u168, u169, u170, u171, u172, u173, u174, u175, u176, u177, u178, u179, u180, u181, u182, u183, u184, u185, u186, u187, u188, u189, u190, u191], defers := [] }
inductive FrT4 (v0 v1 v2 v4 v5 v6 v7 v8 v9 v11 v12 v13 v14 v15 v16 v55 v56 v57 : Value) : Act → Prop
 | mk (u3 u10 u17 u18 u19 u20 u21 u22 u23 u24 u25 u26 u27 u28 u29 u30 u31 u32 u33 u34 u35 u36 u37 u38 u39 u40 u41 u42 u43 u44 u45 u46 u47 u48 u49 u50 u51 u52 u53 u54 u58 u59 u60 u61 u62 u63 u64 u65 u66 u67 u68 u69 u70 u71 u72 u73 u74 u75 u76 u77 u78 u79 u80 u81 u82 u83 u84 u85 u86 u87 u88 u89 u90 u91 u92 u93 u94 u95 u96 u97 u98 u99 u100 u101 u102 u103 u104 u105 u106 u107 u108 u109 u110 u111 u112 u113 u114 u115 u116 u117 u118 u119 u120 u121 u122 u123 u124 u125 u126 u127 u128 u129 u130 u131 u132 u133 u134 u135 u136 u137 u138 u139 u140 u141 u142 u143 u144 u145 u146 u147 u148 u149 u150 u151 u152 u153 u154 u155 u156 u157 u158 u159 u160 u161 u162 u163 u164 u165 u166 u167 u168 u169 u170 u171 u172 u173 u174 u175 u176 u177 u178 u179 u180 u181 u182 u183 u184 u185 u186 u187 u188 u189 u190 u191 : Value) : FrT4 v0 v1 v2 v4 v5 v6 v7 v8 v9 v11 v12 v13 v14 v15 v16 v55 v56 v57 { tmps := #[v0, v1, v2, u3, v4, v5, v6, v7, v8, v9, u10, v11, v12, v13, v14, v15, v16, u17, u18, u19, u20, u21, u22, u23, u24, u25, u26, u27, u28, u29, u30, u31, u32, u33, u34, u35, u36, u37, u38, u39, u40, u41, u42, u43, u44, u45, u46, u47, u48, u49, u50, u51, u52, u53, u54, v55, v56, v57, u58, u59, u60, u61, u62, u63, u64, u65, u66, u67, u68, u69, u70, u71, u72, u73, u74, u75, u76, u77, u78, u79, u80, u81, u82, u83, u84, u85, u86, u87, u88, u89, u90, u91, u92, u93, u94, u95, u96, u97, u98, u99, u100, u101, u102, u103, u104, u105, u106, u107, u108, u109, u110, u111, u112, u113, u114, u115, u116, u117, u118, u119, u120, u121, u122, u123, u124, u125, u126, u127, u128, u129, u130, u131, u132, u133, u134, u135, u136, u137, u138, u139, u140, u141, u142, u143, u144, u145, u146, u147, u148, u149, u150, u151, u152, u153, u154, u155, u156, u157, u158, u159, u160, u161, u162, u163, u164, u165, u166, u167, u168, u169, u170, u171, u172, u173, u174, u175, u176, u177, u178, u179, u180, u181, u182, u183, u184, u185, u186, u187, u188, u189, u190, u191], defers := [] }
inductive FrT5 (v0 v1 v2 v4 v5 v6 v7 v8 v9 v18 : Value) : Act → Prop
 | mk (u3 u10 u11 u12 u13 u14 u15 u16 u17 u19 u20 u21 u22 u23 u24 u25 u26 u27 u28 u29 u30 u31 u32 u33 u34 u35 u36 u37 u38 u39 u40 u41 u42 u43 u44 u45 u46 u47 u48 u49 u50 u51 u52 u53 u54 u55 u56 u57 u58 u59 u60 u61 u62 u63 u64 u65 u66 u67 u68 u69 u70 u71 u72 u73 u74 u75 u76 u77 u78 u79 u80 u81 u82 u83 u84 u85 u86 u87 u88 u89 u90 u91 u92 u93 u94 u95 u96 u97 u98 u99 u100 u101 u102 u103 u104 u105 u106 u107 u108 u109 u110 u111 u112 u113 u114 u115 u116 u117 u118 u119 u120 u121 u122 u123 u124 u125 u126 u127 u128 u129 u130 u131 u132 u133 u134 u135 u136 u137 u138 u139 u140 u141 u142 u143 u144 u145 u146 u147 u148 u149 u150 u151 u152 u153 u154 u155 u156 u157 u158 u159 u160 u161 u162 u163 u164 u165 u166 u167 u168 u169 u170 u171 u172 u173 u174 u175 u176 u177 u178 u179 u180 u181 u182 u183 u184 u185 u186 u187 u188 u189 u190 u191 : Value) : FrT5 v0 v1 v2 v4 v5 v6 v7 v8 v9 v18 { tmps := #[v0, v1, v2, u3, v4, v5, v6, v7, v8, v9, u10, u11, u12, u13, u14, u15, u16, u17, v18, u19, u20, u21, u22, u23, u24, u25, u26, u27, u28, u29, u30, u31, u32, u33, u34, u35, u36, u37, u38, u39, u40, u41, u42, u43, u44, u45, u46, u47, u48, u49, u50, u51, u52, u53, u54, u55, u56, u57, u58, u59, u60, u61, u62, u63, u64, u65, u66, u67, u68, u69, u70, u71, u72, u73, u74, u75, u76, u77, u78, u79, u80, u81, u82, u83, u84, u85, u86, u87, u88, u89, u90, u91, u92, u93, u94, u95, u96, u97, u98, u99, u100, u101, u102, u103, u104, u105, u106, u107, u108, u109, u110, u111, u112, u113, u114, u115, u116, u117, u118, u119, u120, u121, u122, u123, u124, u125, u126, u127, u128, u129, u130, u131, u132, u133, u134, u135, u136, u137, u138, u139, u140, u141, u142, u143, u144, u145, u146, u147, u148, u149, u150, u151, u152, u153, u154, u155, u156, u157, u158, u159, u160, u161, u162, u163, u164, u165, u166, u167, u168, u169, u170, u171, u172, u173, u174, u175, u176, u177, u178, u179, u180, u181, u182, u183, u184, u185, u186, u187, u188, u189, u190, u191], defers := [] }
inductive FrT6 (v0 v1 v2 v4 v5 v6 v7 v8 v9 v18 v19 v20 : Value) : Act → Prop
 | mk (u3 u10 u11 u12 u13 u14 u15 u16 u17 u21 u22 u23 u24 u25 u26 u27 u28 u29 u30 u31 u32 u33 u34 u35 u36 u37 u38 u39 u40 u41 u42 u43 u44 u45 u46 u47 u48 u49 u50 u51 u52 u53 u54 u55 u56 u57 u58 u59 u60 u61 u62 u63 u64 u65 u66 u67 u68 u69 u70 u71 u72 u73 u74 u75 u76 u77 u78 u79 u80 u81 u82 u83 u84 u85 u86 u87 u88 u89 u90 u91 u92 u93 u94 u95 u96 u97 u98 u99 u100 u101 u102 u103 u104 u105 u106 u107 u108 u109 u110 u111 u112 u113 u114 u115 u116 u117 u118 u119 u120 u121 u122 u123 u124 u125 u126 u127 u128 u129 u130 u131 u132 u133 u134 u135 u136 u137 u138 u139 u140 u141 u142 u143 u144 u145 u146 u147 u148 u149 u150 u151 u152 u153 u154 u155 u156 u157 u158 u159 u160 u161 u162 u163 u164 u165 u166 u167 u168 u169 u170 u171 u172 u173 u174 u175 u176 u177 u178 u179 u180 u181 u182 u183 u184 u185 u186 u187 u188 u189 u190 u191 : Value) : FrT6 v0 v1 v2 v4 v5 v6 v7 v8 v9 v18 v19 v20 { tmps := #[v0, v1, v2, u3, v4, v5, v6, v7, v8, v9, u10, u11, u12, u13, u14, u15, u16, u17, v18, v19, v20, u21, u22, u23, u24, u25, u26, u27, u28, u29, u30, u31, u32, u33, u34, u35, u36, u37, u38, u39, u40, u41, u42, u43, u44, u45, u46, u47, u48, u49, u50, u51, u52, u53, u54, u55, u56, u57, u58, u59, u60, u61, u62, u63, u64, u65, u66, u67, u68, u69, u70, u71, u72, u73, u74, u75, u76, u77, u78, u79, u80, u81, u82, u83, u84, u85, u86, u87, u88, u89, u90, u91, u92, u93, u94, u95, u96, u97, u98, u99, u100, u101, u102, u103, u104, u105, u106, u107, u108, u109, u110, u111, u112, u113, u114, u115, u116, u117, u118, u119, u120, u121, u122, u123, u124, u125, u126, u127, u128, u129, u130, u131, u132, u133, u134, u135, u136, u137, u138, u139, u140, u141, u142, u143, u144, u145, u146, u147, u148, u149, u150, u151, u152, u153, u154, u155, u156, u157, u158, u159, u160, u161, u162, u163, u164, u165, u166, u167, u168, u169, u170, u171, u172, u173, u174, u175, u176, u177, u178, u179, u180, u181, u182, u183, u184, u185, u186, u187, u188, u189, u190, u191], defers := [] }
inductive FrT7 (v0 v1 v2 v4 v5 v6 v7 v8 v9 v18 v19 v20 v21 v22 v23 v24 : Value) : Act → Prop
 | mk (u3 u10 u11 u12 u13 u14 u15 u16 u17 u25 u26 u27 u28 u29 u30 u31 u32 u33 u34 u35 u36 u37 u38 u39 u40 u41 u42 u43 u44 u45 u46 u47 u48 u49 u50 u51 u52 u53 u54 u55 u56 u57 u58 u59 u60 u61 u62 u63 u64 u65 u66 u67 u68 u69 u70 u71 u72 u73 u74 u75 u76 u77 u78 u79 u80 u81 u82 u83 u84 u85 u86 u87 u88 u89 u90 u91 u92 u93 u94 u95 u96 u97 u98 u99 u100 u101 u102 u103 u104 u105 u106 u107 u108 u109 u110 u111 u112 u113 u114 u115 u116 u117 u118 u119 u120 u121 u122 u123 u124 u125 u126 u127 u128 u129 u130 u131 u132 u133 u134 u135 u136 u137 u138 u139 u140 u141 u142 u143 u144 u145 u146 u147 u148 u149 u150 u151 u152 u153 u154 u155 u156 u157 u158 u159 u160 u161 u162 u163 u164 u165 u166 u167 u168 u169 u170 u171 u172 u173 u174 u175 u176 u177 u178 u179 u180 u181 u182 u183 u184 u185 u186 u187 u188 u189 u190 u191 : Value) : FrT7 v0 v1 v2 v4 v5 v6 v7 v8 v9 v18 v19 v20 v21 v22 v23 v24 { tmps := #[v0, v1, v2, u3, v4, v5, v6, v7, v8, v9, u10, u11, u12, u13, u14, u15, u16, u17, v18, v19, v20, v21, v22, v23, v24, u25, u26, u27, u28, u29, u30, u31, u32, u33, u34, u35, u36, u37, u38, u39, u40, u41, u42, u43, u44, u45, u46, u47, u48, u49, u50, u51, u52, u53, u54, u55, u56, u57, u58, u59, u60, u61, u62, u63, u64, u65, u66, u67, u68, u69, u70, u71, u72, u73, u74, u75, u76, u77, u78, u79, u80, u81, u82, u83, u84, u85, u86, u87, u88, u89, u90, u91, u92, u93, u94, u95, u96, u97, u98, u99, u100, u101, u102, u103, u104, u105, u106, u107, u108, u109, u110, u111, u112, u113, u114, u115, u116, u117, u118, u119, u120, u121, u122, u123, u124, u125, u126, u127, u128, u129, u130, u131, u132, u133, u134, u135, u136, u137, u138, u139, u140, u141, u142, u143, u144, u145, u146, u147, u148, u149, u150, u151, u152, u153, u154, u155, u156, u157, u158, u159, u160, u161, u162, u163, u164, u165, u166, u167, u168, u169, u170, u171, u172, u173, u174, u175, u176, u177, u178, u179, u180, u181, u182, u183, u184, u185, u186, u187, u188, u189, u190, u191], defers := [] }

set_option maxRecDepth 100000 in
set_option maxHeartbeats 16000000 in
theorem rtruths_in (Av : Option Addr) (nv cv : Nat) (Aa : Option Addr) (na ca : Nat) (At : Option Addr) (nt ct : Nat) (m : Mix) (fountain : Int) (w : World) (h : MixS w Av nv Aa na At nt m) (hok : okMix m = true) :
  CallsIn Fence.wide 9 Try.prog 47 #[.agg #[.int .i64 m.fountains, .slice Av nv cv, .slice Aa na ca, .slice At nt ct], .int .i64 fountain] w (TruthsOut w m fountain) := by
 have HM := Lib.hid h
 have HLA := Lib.hid h.at_.lenA
 have HLV := Lib.hid h.at_.lenV
 have HLT := Lib.hid h.at_.lenT
 have HOK := Lib.hid hok
 have HZ := Lib.hid (okMix_ves hok)
 have HV := Lib.hid (okMix_vess hok)
 have HTV := Lib.hid (okMix_tas hok)
 clear h hok
 refine callsIn_of_wp Try.func47 rfl trivial ?_ rfl
 simp only [Try.ntmps47, List.size_toArray, List.length_cons, List.length_nil, Nat.reduceAdd, Nat.reduceSub, Array.replicate_succ, Array.replicate_zero, List.push_toArray, List.append_toArray, List.nil_append, List.cons_append]
 gi_upto_region 1 with fail
 have HLay := Lib.hid (Lay.one w 26 #[.int .i64 m.fountains, .slice Av nv cv, .slice Aa na ca, .slice At nt ct])
 generalize (w.alloc (.cells #[.int .i64 m.fountains, .slice Av nv cv, .slice Aa na ca, .slice At nt ct] 26)) = w0 at *
 have x0_0 := (HLay.out.blk 0 rfl).cell 0
 have x0_1 := (HLay.out.blk 0 rfl).cell 1
 have x0_2 := (HLay.out.blk 0 rfl).cell 2
 have x0_3 := (HLay.out.blk 0 rfl).cell 3
 have l0_ := HLay.out.lt 0 rfl
 gi_wp2
 clear x0_0 x0_1 x0_2 x0_3 l0_
 refine ⟨trivial, (callsIn_wide.2 (callsIn_wide.1 (rplayed_in Av nv cv Aa na ca At nt ct m w0 (HM.out.up HLay.out.1) HZ.out (by have h1 := HV.out; have h2 := HLV.out; omega) (by have h1 := HV.out; have h2 := HLA.out; omega)))).mono ?_⟩
 rintro e W1 ⟨hb, A, n, c0, b, L, rfl, hpl⟩
 replace HLay := Lib.hid (HLay.out.below hb)
 clear hb
 have hpl2 : b = true ∧ allM m m.acts = some L ∧ Reads W1 W1.heap.size 4 A n (L.flatMap heldC) := by
  rcases hpl with h | ⟨_, _, h⟩
  ·exact h
  ·obtain ⟨A', hA'⟩ := okMix_all HOK.out
   rw [h] at hA'
   cases hA'
 clear hpl
 obtain ⟨rfl, hL, hrd⟩ := hpl2
 have hn : n = na + 1 := by
  have h1 := allM_len _ _ _ hL
  have h2 := recs_n heldC_k (by omega) hrd
  have h3 := HLA.out
  omega
 have HL := Lib.hid hL
 have HRD := Lib.hid hrd
 have HN := Lib.hid hn
 have hn13 : n ≤ 13 := by have h1 := HV.out; have h2 := HLA.out; omega
 have HN13 := Lib.hid hn13
 clear hL hrd hn
 have x0_0 := (HLay.out.blk 0 rfl).cell 0
 have x0_1 := (HLay.out.blk 0 rfl).cell 1
 have x0_2 := (HLay.out.blk 0 rfl).cell 2
 have x0_3 := (HLay.out.blk 0 rfl).cell 3
 have l0_ := HLay.out.lt 0 rfl
 gi_wp2
 clear x0_0 x0_1 x0_2 x0_3 l0_
 refine ⟨trivial, (callsIn_wide.2 (callsIn_wide.1 (rcodes_in Av nv cv Aa na ca At nt ct m W1 (HM.out.up HLay.out.1) HZ.out HV.out.1))).mono ?_⟩
 rintro e W2 ⟨rfl, hb⟩
 replace HLay := Lib.hid (HLay.out.below hb)
 replace HRD := Lib.hid ((HRD.out.below hb).more hb.size)
 clear hb
 obtain ⟨N, hN, hN9⟩ : ∃ N : Nat, prodR (zsM m) = (N : Int) ∧ 1 ≤ N ∧ N ≤ 28561 := by
  have h := prod_bd HZ.out HV.out.1 (Nat.le_refl m.vessels.length)
  rw [zsK_all rfl] at h
  exact ⟨(prodR (zsM m)).toNat, by omega, by omega, by omega⟩
 rw [hN]
 have HNN := Lib.hid hN
 have HN9 := Lib.hid hN9
 have HTB : Hid (TbOk ⟨0, none, 0, 0, none, 0, 0, none, 0, 0, none, 0, 0, m, L⟩) := Lib.hid ⟨HOK.out, HL.out⟩
 clear hN hN9
 obtain ⟨bl, ol, a0, hA0, hbl, _, _⟩ := recs_cell heldC_k (by omega) HRD.out (show 0 < n by have := HN.out; omega)
 subst hA0
 have HBL := Lib.hid hbl
 clear hbl
 gi_upto_region 3 with fail
 obtain ⟨i0, hi, hz0, hz1, hz2⟩ := info_parts info_bools
 gi_upto_region 4 with (first | (gi_at_make; refine wpListIn_make_all rfl _ _ 103 rfl 109 i0 _ rfl hi hz0 n rfl rfl (by rw [hz2]; omega) (by unfold maxLen; omega) ?_) | fail)
 have e1 : madeCells (Value.slice none 0 0).cells (n * i0.size) = (List.replicate n (Value.slice none 0 0)).toArray := by
  rw [hz1]
  exact made_one (.slice none 0 0) n
 first | rw [e1] | (have e2 := made_one (.slice none 0 0) n; rw [Nat.mul_one] at e2; rw [e2]; clear e2)
 clear e1 hi hz0 hz1 hz2
 have hbb : Below W2.heap.size W2 (W2.alloc (.cells (List.replicate n (Value.slice none 0 0)).toArray 109)) := (Below.refl _ _).alloc (Nat.le_refl _) _
 have HBR := Lib.hid (BRp.start (Below.refl W2.heap.size W2) N n)
 have HL2 := Lib.hid HLay.out
 replace HLay := Lib.hid (HLay.out.below hbb)
 clear hbb
 generalize (W2.alloc (.cells (List.replicate n (Value.slice none 0 0)).toArray 109)) = V0 at *
 obtain ⟨G, hG⟩ : ∃ g, W2.heap.size = g := ⟨_, rfl⟩
 rw [hG] at HBR ⊢
 have HG := Lib.hid hG
 clear hG
 gi_wp2
 refine wpIn_loop (fun a W => ∃ (k : Nat) (rs : List Nat), Hid (rs.length = k ∧ k ≤ n ∧ Lay w W [(w.heap.size, 26, #[.int .i64 m.fountains, .slice Av nv cv, .slice Aa na ca, .slice At nt ct])] ∧ BRp W2 W N G n rs) ∧ FrT1 (.agg #[.int .i64 m.fountains, .slice Av nv cv, .slice Aa na ca, .slice At nt ct]) (.int .i64 fountain) (.pointer (some ⟨w.heap.size, 0, none⟩)) (.slice none 0 0) (.bool false) (.slice (some ⟨bl, ol, none⟩) n c0) (.bool true) (.int .i64 (N : Int)) (.slice (some ⟨G, 0, none⟩) n n) (.int .i64 (k : Int)) a) (fun a _ => n - (intOf (a.tmps.getD 10 undef)).toNat) ?_ ?_
 ·exact ⟨0, [], Lib.hid ⟨rfl, by omega, HLay.out, HBR.out⟩, by constructor⟩
 clear HLay HBR
 rintro a W ⟨k, rs, HS, ha⟩
 cases ha
 have HLay := Lib.hid HS.out.2.2.1
 by_cases hlt : k < n
 ·
  have hc : W.cell? ⟨G, k, none⟩ = some (.slice none 0 0) := by have h1 := HS.out.2.2.2.cell (by have := HS.out.1; omega); rwa [HS.out.1] at h1
  have hcf := HS.out.2.2.2.top.frozen k
  have hcl := HS.out.2.2.2.top.lt
  obtain ⟨i1, hi, hz0, hz1, hz2⟩ := info_parts info_bool
  have hn9 := HN9.out
  gi_upto_region 7 with fail
  gi_upto_region 6 with (first | (gi_at_make; refine wpListIn_make_all rfl _ _ 109 rfl 4 i1 _ rfl hi hz0 N rfl rfl (by rw [hz2]; omega) (by unfold maxLen; omega) ?_) | fail)
  have e2 : ((List.replicate N false).map Value.bool).toArray = Array.replicate N (Value.bool false) := by simp
  have e1 : madeCells (Value.bool false).cells (N * i1.size) = Array.replicate N (Value.bool false) := by
   rw [hz1]
   exact (made_one (.bool false) N).trans (by simp)
  first | rw [e1] | (have e3 := made_one (.bool false) N; rw [Nat.mul_one] at e3; rw [e3]; clear e3) | skip
  have hstep := HS.out.2.2.2.step (by have := HS.out.1; omega)
  rw [HS.out.1, e2, World.setCell_alloc_past _ _ _ _ hcl] at hstep
  have HST := Lib.hid hstep
  have hl9 := (HS.out.2.2.1.alloc 4 (Array.replicate N (Value.bool false))).sub (bs' := [(w.heap.size, 26, #[.int .i64 m.fountains, .slice Av nv cv, .slice Aa na ca, .slice At nt ct])]) (fun b hb => List.mem_append_left _ hb)
  have hls := lay_farT hl9 (HS.out.2.2.2.top.below ((Below.refl _ _).alloc (Nat.le_refl _) _) HS.out.2.2.2.top.lt) (Nat.le_trans HL2.out.1.size HS.out.2.2.2.ge) (by intro b hb; simp only [List.mem_cons, List.not_mem_nil, or_false] at hb; rcases hb with rfl; dsimp only; decide) k (.slice (some ⟨W.heap.size, 0, none⟩) N N)
  rw [World.setCell_alloc_past _ _ _ _ hcl] at hls
  have HLS := Lib.hid hls
  clear hls
  clear hc hcf hcl hi hz0 hz1 hz2 hstep hl9 e1 e2
  gi_wp2
  refine ⟨⟨k + 1, rs ++ [W.heap.size], Lib.hid ⟨by have := HS.out.1; simp; omega, hlt, HLS.out, HST.out⟩, by rw [show ((k + 1 : Nat) : Int) = (k : Int) + 1 from by omega]; constructor⟩, ?_⟩
  simp [intOf] <;> omega
 ·
  obtain rfl : n = k := by have := HS.out.2.1; omega
  have HBR := Lib.hid (HS.out.2.2.2.done HS.out.1)
  have HTAB := Lib.hid (Tab.start N n)
  obtain ⟨bs, hbs⟩ : ∃ bs, List.replicate n (List.replicate N false) = bs := ⟨_, rfl⟩
  rw [hbs] at HBR HTAB
  clear HS hbs hlt
  gi_upto_region 8 with fail
  obtain ⟨row, bv, hrow, hbv, hbP⟩ := HTAB.out.look (i := 0) (c := 0) (by have := HN.out; omega) (by have := HN9.out; omega)
  obtain ⟨r, hr⟩ : ∃ r, rs[0]? = some r := ⟨_, List.getElem?_eq_getElem (by have h1 := HBR.out.len; have h2 := HTAB.out.len; have := HN.out; omega)⟩
  have HRW := Lib.hid hrow
  have HBV := Lib.hid hbv
  have HBP := Lib.hid hbP
  have HRR := Lib.hid hr
  clear hrow hbv hbP hr
  refine wpIn_flow_old [([true, true, true, true, true, true], 6)] [false, false, false, false, false, false, false, true] [false, false, false, false, false, false, false, false, true] (by kernel_rfl) (by kernel_rfl) (by kernel_rfl) (below_drewN (Below.refl _ _) 1) ?_
  refine wpFlow_cons (A := ?AF1) rfl ?hq1 ?_
  case hq1 =>
   rintro σ hσ of hof hcl
   have HOF := Lib.hid hof
   have HCL := Lib.hid hcl
   clear hof hcl
   have c0_ : ∀ z, (of z).cell? ⟨w.heap.size, 0, none⟩ = some (.int .i64 m.fountains) := fun z => ((HLay.out.below (HOF.out z)).blk 0 rfl).cell 0
   have c1_ : ∀ z, (of z).cell? ⟨w.heap.size, 1, none⟩ = some (.slice Av nv cv) := fun z => ((HLay.out.below (HOF.out z)).blk 0 rfl).cell 1
   have c2_ : ∀ z, (of z).cell? ⟨w.heap.size, 2, none⟩ = some (.slice Aa na ca) := fun z => ((HLay.out.below (HOF.out z)).blk 0 rfl).cell 2
   have c3_ : ∀ z, (of z).cell? ⟨w.heap.size, 3, none⟩ = some (.slice At nt ct) := fun z => ((HLay.out.below (HOF.out z)).blk 0 rfl).cell 3
   have hfw : ∀ f, Fence.wide.fn f := fun _ => trivial
   have q0 : ∀ z, (of z).cell? ⟨G, 0, none⟩ = some (.slice (some ⟨r, 0, none⟩) N N) := fun z => (HBR.out.below (HOF.out z)).rowCell HRR.out
   have q1 : ∀ z, (of z).cell? ⟨r, 0, none⟩ = some (.bool bv) := fun z => (HBR.out.below (HOF.out z)).cell HRR.out HRW.out HBV.out
   have hn1 : 0 < n := by have := HN.out; omega
   have hN1 : 0 < N := by have := HN9.out; omega
   simp only [pickB]
   repeat (gi_big_quiet_step (fail))
   refine wpQuietIn_nil ?_
   exact rfl
  intro W3 hW
  replace HLay := Lib.hid (HLay.out.below hW)
  replace HBR := Lib.hid (HBR.out.below hW)
  clear hW
  gi_wp2
  refine ⟨trivial, (callsIn_wide.2 (callsIn_wide.1 (rtasted_in Av nv cv Aa na ca At nt ct m fountain 0 zeroH W3 (HM.out.up HLay.out.1) HTV.out HV.out.1 (by have h1 := HV.out; have h2 := HLT.out; omega)))).mono ?_⟩
  rintro e W4 ⟨rfl, hb⟩
  replace HLay := Lib.hid (HLay.out.below hb)
  replace HBR := Lib.hid (HBR.out.below hb)
  gi_wp2
  refine ⟨trivial, hb, ?_⟩
  clear hb
  refine wpFlow_nil (A := ?AF2) ?hq2 ?_
  case hq2 =>
   rintro σ hσ of hof hcl
   have HOF := Lib.hid hof
   have HCL := Lib.hid hcl
   clear hof hcl
   have c0_ : ∀ z, (of z).cell? ⟨w.heap.size, 0, none⟩ = some (.int .i64 m.fountains) := fun z => ((HLay.out.below (HOF.out z)).blk 0 rfl).cell 0
   have c1_ : ∀ z, (of z).cell? ⟨w.heap.size, 1, none⟩ = some (.slice Av nv cv) := fun z => ((HLay.out.below (HOF.out z)).blk 0 rfl).cell 1
   have c2_ : ∀ z, (of z).cell? ⟨w.heap.size, 2, none⟩ = some (.slice Aa na ca) := fun z => ((HLay.out.below (HOF.out z)).blk 0 rfl).cell 2
   have c3_ : ∀ z, (of z).cell? ⟨w.heap.size, 3, none⟩ = some (.slice At nt ct) := fun z => ((HLay.out.below (HOF.out z)).blk 0 rfl).cell 3
   have hfw : ∀ f, Fence.wide.fn f := fun _ => trivial
   have q0 : ∀ z, (of z).cell? ⟨G, 0, none⟩ = some (.slice (some ⟨r, 0, none⟩) N N) := fun z => (HBR.out.below (HOF.out z)).rowCell HRR.out
   have q1 : ∀ z, (of z).cell? ⟨r, 0, none⟩ = some (.bool bv) := fun z => (HBR.out.below (HOF.out z)).cell HRR.out HRW.out HBV.out
   have hn1 : 0 < n := by have := HN.out; omega
   have hN1 : 0 < N := by have := HN9.out; omega
   simp only [pickB]
   repeat (gi_big_quiet_step (fail))
   refine wpQuietIn_nil ?_
   exact rfl
  intro W5 hW
  replace HLay := Lib.hid (HLay.out.below hW)
  replace HBR := Lib.hid (HBR.out.below hW)
  clear hW
  have q0 := HBR.out.rowCell HRR.out
  have q1 := HBR.out.cell HRR.out HRW.out HBV.out
  have q0l := HBR.out.top.lt
  have q1l := (HBR.out.row _ _ _ HRR.out HRW.out).1.lt
  have q1f := (HBR.out.row _ _ _ HRR.out HRW.out).1.frozen 0
  simp only [pickB]
  refine wpT_cons ?_
  gi_wp2
  refine wpT_nil ?_
  clear q0 q1 q0l q1l q1f
  have hne9 : ∀ b ∈ ([(w.heap.size, 26, #[.int .i64 m.fountains, .slice Av nv cv, .slice Aa na ca, .slice At nt ct])] : List (Nat × TypeId × Array Value)), b.2.1 ≠ 4 := by intro b hb; simp only [List.mem_cons, List.not_mem_nil, or_false] at hb; rcases hb with rfl <;> (dsimp only; decide)
  have HLS := Lib.hid (lay_farT HLay.out (HBR.out.row _ _ _ HRR.out HRW.out).1 (Nat.le_trans HL2.out.1.size (HBR.out.row _ _ _ HRR.out HRW.out).2.2.1) hne9 0 (.bool (tastedB m fountain 0 zeroH)))
  have HBS := Lib.hid (HBR.out.put (c := 0) HRR.out HRW.out (tastedB m fountain 0 zeroH))
  have HTS := Lib.hid (tab_zero (f := fountain) (A := L) HOK.out HNN.out HN9.out.1 (by have := HN.out; omega) HTAB.out HRW.out)
  generalize W5.setCell ⟨r, 0, none⟩ (.bool (tastedB m fountain 0 zeroH)) = S0 at *
  replace HLay := HLS
  replace HBR := HBS
  replace HTAB := HTS
  clear HLS HBS HTS HRW HBV HBP HRR hne9
  have x0_0 := (HLay.out.blk 0 rfl).cell 0
  have x0_1 := (HLay.out.blk 0 rfl).cell 1
  have x0_2 := (HLay.out.blk 0 rfl).cell 2
  have x0_3 := (HLay.out.blk 0 rfl).cell 3
  have l0_ := HLay.out.lt 0 rfl
  gi_wp2
  clear x0_0 x0_1 x0_2 x0_3 l0_
  refine wpIn_loop (fun a W => ∃ (t : Nat), Hid (Ex2 fun (rs : List Nat) (bs : List (List Bool)) => t ≤ na ∧ Lay w W [(w.heap.size, 26, #[.int .i64 m.fountains, .slice Av nv cv, .slice Aa na ca, .slice At nt ct])] ∧ BR W2 W N G rs bs ∧ Tab N n bs (PF m fountain L t)) ∧ FrT2 (.agg #[.int .i64 m.fountains, .slice Av nv cv, .slice Aa na ca, .slice At nt ct]) (.int .i64 fountain) (.pointer (some ⟨w.heap.size, 0, none⟩)) (.slice none 0 0) (.bool false) (.slice (some ⟨bl, ol, none⟩) n c0) (.bool true) (.int .i64 (N : Int)) (.slice (some ⟨G, 0, none⟩) n n) (.slice Aa na ca) (.int .i64 na) (.int .i64 (t : Int)) a) (fun a _ => na - (intOf (a.tmps.getD 57 undef)).toNat) ?_ ?_
  ·exact ⟨0, Lib.hid ⟨rs, _, by omega, HLay.out, HBR.out, HTAB.out⟩, by constructor⟩
  clear HLay HBR HTAB
  rintro a W ⟨t, HS, ha⟩
  cases ha
  obtain ⟨rs, bs, hs9⟩ := HS.out
  replace HS := Lib.hid hs9
  clear hs9
  have HLay := Lib.hid HS.out.2.1
  have HBR := Lib.hid HS.out.2.2.1
  have HTAB := Lib.hid HS.out.2.2.2
  by_cases hlt : t < na
  ·
   obtain ⟨b, off, x, hAv, hbB, hx, c0_, c1_, c2_, c3_⟩ := (HM.out.at_.below HLay.out.1).act hlt
   obtain ⟨all, hA⟩ := HTB.out.at_ hx
   obtain ⟨bl9, ol9, all9, e1, _, e3, e4⟩ := recs_cell heldC_k (by omega) HRD.out (show t < n by have := HN.out; omega)
   obtain rfl : all = all9 := Option.some.inj (hA.ha.symm.trans e3)
   cases e1
   have HX := Lib.hid hx
   have HAT := Lib.hid hA
   have HCE := Lib.hid e4
   have ht12 : t + 1 ≤ 12 := by have h1 := HV.out; have h2 := HLA.out; omega
   clear e3 e4 hx hA hbB
   have x9 := (HLay.out.blk 0 rfl).cell 2
   have x9l := HLay.out.lt 0 rfl
   change _ = some (Value.slice Aa na ca) at x9
   rw [hAv] at x9 ⊢
   gi_upto_region 12 with fail
   clear c0_ c1_ c2_ c3_ x9 x9l
   obtain ⟨V6, hV⟩ : ∃ V, (W.alloc (.cells #[.int .i64 x.kind, .int .i64 x.fr, .int .i64 x.to, .int .i64 x.drops] 67)) = V := ⟨_, rfl⟩
   rw [hV]
   have hb := fbox_bel hV
   have hnew := fbox_blk hV
   have hge := HLay.out.bel.size
   replace HLay := Lib.hid (HLay.out.below hb)
   replace HBR := Lib.hid (HBR.out.below hb)
   replace HLay := Lib.hid (HLay.out.add hge hnew)
   clear hnew hge hb hV
   obtain ⟨G7, hG⟩ : ∃ g, W.heap.size = g := ⟨_, rfl⟩
   rw [hG] at HLay ⊢
   clear hG
   replace HLay := Lib.hid (show Lay w V6 [(w.heap.size, 26, #[.int .i64 m.fountains, .slice Av nv cv, .slice Aa na ca, .slice At nt ct]), (G7, 67, #[.int .i64 x.kind, .int .i64 x.fr, .int .i64 x.to, .int .i64 x.drops])] from HLay.out)
   rw [← hAv]
   have HAV := Lib.hid hAv
   clear hAv
   have HTP := Lib.hid (pf_pm HTAB.out)
   replace HTAB := HTP
   clear HTP HS
   gi_wp2
   refine wpIn_loop (fun a W => ∃ (c : Nat), Hid (Ex2 fun (rs : List Nat) (bs : List (List Bool)) => c ≤ N ∧ Lay w W [(w.heap.size, 26, #[.int .i64 m.fountains, .slice Av nv cv, .slice Aa na ca, .slice At nt ct]), (G7, 67, #[.int .i64 x.kind, .int .i64 x.fr, .int .i64 x.to, .int .i64 x.drops])] ∧ BR W2 W N G rs bs ∧ Tab N n bs (PM m fountain L t c)) ∧ FrT3 (.agg #[.int .i64 m.fountains, .slice Av nv cv, .slice Aa na ca, .slice At nt ct]) (.int .i64 fountain) (.pointer (some ⟨w.heap.size, 0, none⟩)) (.slice none 0 0) (.bool false) (.slice (some ⟨bl, ol, none⟩) n c0) (.bool true) (.int .i64 (N : Int)) (.slice (some ⟨G, 0, none⟩) n n) (.int .i64 (t : Int)) (.pointer (some ⟨G7, 0, none⟩)) (.int .i64 (c : Int)) (.slice Aa na ca) (.int .i64 na) (.int .i64 (t : Int)) a) (fun a _ => N - (intOf (a.tmps.getD 13 undef)).toNat) ?_ ?_
   ·exact ⟨0, Lib.hid ⟨rs, bs, by omega, HLay.out, HBR.out, HTAB.out⟩, by constructor⟩
   clear HLay HBR HTAB
   rintro a W ⟨c, HS, ha⟩
   cases ha
   obtain ⟨rs, bs, hs9⟩ := HS.out
   replace HS := Lib.hid hs9
   clear hs9
   have HLay := Lib.hid HS.out.2.1
   have HBR := Lib.hid HS.out.2.2.1
   have HTAB := Lib.hid HS.out.2.2.2
   by_cases hlc : c < N
   ·
    obtain ⟨row, bv, hrow, hbv, hbP⟩ := HTAB.out.look (i := t) (c := c) (by have := HN.out; omega) (by omega)
    obtain ⟨r, hr⟩ : ∃ r, rs[t]? = some r := ⟨_, List.getElem?_eq_getElem (by have h1 := HBR.out.len; have h2 := HTAB.out.len; have := HN.out; omega)⟩
    have HRW := Lib.hid hrow
    have HBV := Lib.hid hbv
    have HBP := Lib.hid hbP
    have HRR := Lib.hid hr
    clear hrow hbv hbP hr
    have htk : t < n := by have := HN.out; omega
    have hn9 := HN9.out
    clear HS
    cases bv with
    | false =>
     have q0 := HBR.out.rowCell HRR.out
     have q1 := HBR.out.cell HRR.out HRW.out HBV.out
     have q0l := HBR.out.top.lt
     have q1l := (HBR.out.row _ _ _ HRR.out HRW.out).1.lt
     have q1f := (HBR.out.row _ _ _ HRR.out HRW.out).1.frozen c
     gi_wp2
     have hno : ¬ Fwd m fountain L t (decN m c) := fun h => by have := HBP.out.2 (PM.now.2 h); cases this
     refine ⟨⟨c + 1, Lib.hid ⟨rs, bs, hlc, HLay.out, HBR.out, pm_skip HTAB.out hno⟩, by rw [show ((c + 1 : Nat) : Int) = (c : Int) + 1 from by omega]; constructor⟩, ?_⟩
     simp [intOf] <;> omega
    | true =>
     have hfw : Fwd m fountain L t (decN m c) := PM.now.1 (HBP.out.1 rfl)
     have HFW := Lib.hid hfw
     clear hfw
     have x0_0 := (HLay.out.blk 0 rfl).cell 0
     have x0_1 := (HLay.out.blk 0 rfl).cell 1
     have x0_2 := (HLay.out.blk 0 rfl).cell 2
     have x0_3 := (HLay.out.blk 0 rfl).cell 3
     have l0_ := HLay.out.lt 0 rfl
     have q0 := HBR.out.rowCell HRR.out
     have q1 := HBR.out.cell HRR.out HRW.out HBV.out
     have q0l := HBR.out.top.lt
     have q1l := (HBR.out.row _ _ _ HRR.out HRW.out).1.lt
     have q1f := (HBR.out.row _ _ _ HRR.out HRW.out).1.frozen c
     gi_wp2
     clear x0_0 x0_1 x0_2 x0_3 l0_
     clear q0 q1 q0l q1l q1f HRW HBV HBP HRR
     refine ⟨trivial, (callsIn_wide.2 (callsIn_wide.1 (rdec_in Av nv cv Aa na ca At nt ct m (c : Int) W (HM.out.up HLay.out.1) HZ.out HV.out.1 (by have := HN9.out; omega)))).mono ?_⟩
     rintro e W8 ⟨rfl, hb⟩
     replace HLay := Lib.hid (HLay.out.below hb)
     replace HBR := Lib.hid (HBR.out.below hb)
     clear hb
     obtain ⟨s, hs⟩ : ∃ s, decN m c = s := ⟨_, rfl⟩
     rw [show decH m (c : Int) = s from hs]
     have HSD := Lib.hid hs
     have hfi : Fits all s := by rw [← HSD.out]; exact fwd_fits HL.out HV.out.1 HFW.out HAT.out.ha
     have HFI := Lib.hid hfi
     have hrg : ∀ q : Nat, q < 4 → 0 ≤ heldAt s q ∧ heldAt s q ≤ 12 := fun q hq => by have h1 := HFI.out.le q hq; have h2 := HAT.out.rng q; omega
     have HRG := Lib.hid hrg
     clear hs hfi hrg
     gi_upto_region 17 with fail
     obtain ⟨V9, hV⟩ : ∃ V, (W8.alloc (.cells #[.int .i64 (heldAt s 0), .int .i64 (heldAt s 1), .int .i64 (heldAt s 2), .int .i64 (heldAt s 3)] 110)) = V := ⟨_, rfl⟩
     rw [hV]
     have hb := fbox_bel hV
     have hnew := fbox_blk hV
     have hge := HLay.out.bel.size
     replace HLay := Lib.hid (HLay.out.below hb)
     replace HBR := Lib.hid (HBR.out.below hb)
     replace HLay := Lib.hid (HLay.out.add hge hnew)
     clear hnew hge hb hV
     obtain ⟨G10, hG⟩ : ∃ g, W8.heap.size = g := ⟨_, rfl⟩
     rw [hG] at HLay ⊢
     clear hG
     replace HLay := Lib.hid (show Lay w V9 [(w.heap.size, 26, #[.int .i64 m.fountains, .slice Av nv cv, .slice Aa na ca, .slice At nt ct]), (G7, 67, #[.int .i64 x.kind, .int .i64 x.fr, .int .i64 x.to, .int .i64 x.drops]), (G10, 110, #[.int .i64 (heldAt s 0), .int .i64 (heldAt s 1), .int .i64 (heldAt s 2), .int .i64 (heldAt s 3)])] from HLay.out)
     have HLay0 := Lib.hid HLay.out
     have HBR0 := Lib.hid HBR.out
     refine wpIn_flow_new [([true, true, true, true, true, true, true, true], 8)] [] [false, false, false, false, false, false, false, false, false, false, true] 9 (fun b => .pointer (some ⟨b, 0, none⟩)) 30 #[.int .i64 0, .int .i64 0] (by kernel_rfl) (by kernel_rfl) (by kernel_rfl) (below_drewN (Below.refl _ _) 1) rfl rfl rfl (fun _ _ => rfl) (fun _ _ => rfl) ?_
     refine wpFlow_cons (A := ?AF3) rfl ?hq3 ?_
     case hq3 =>
      rintro σ hσ of hof hcl
      have HOF := Lib.hid hof
      have HCL := Lib.hid hcl
      clear hof hcl
      have c0_ : ∀ z, (of z).cell? ⟨w.heap.size, 0, none⟩ = some (.int .i64 m.fountains) := fun z => ((HLay.out.below (HOF.out z)).blk 0 rfl).cell 0
      have c1_ : ∀ z, (of z).cell? ⟨w.heap.size, 1, none⟩ = some (.slice Av nv cv) := fun z => ((HLay.out.below (HOF.out z)).blk 0 rfl).cell 1
      have c2_ : ∀ z, (of z).cell? ⟨w.heap.size, 2, none⟩ = some (.slice Aa na ca) := fun z => ((HLay.out.below (HOF.out z)).blk 0 rfl).cell 2
      have c3_ : ∀ z, (of z).cell? ⟨w.heap.size, 3, none⟩ = some (.slice At nt ct) := fun z => ((HLay.out.below (HOF.out z)).blk 0 rfl).cell 3
      have c4_ : ∀ z, (of z).cell? ⟨G7, 0, none⟩ = some (.int .i64 x.kind) := fun z => ((HLay.out.below (HOF.out z)).blk 1 rfl).cell 0
      have c5_ : ∀ z, (of z).cell? ⟨G7, 1, none⟩ = some (.int .i64 x.fr) := fun z => ((HLay.out.below (HOF.out z)).blk 1 rfl).cell 1
      have c6_ : ∀ z, (of z).cell? ⟨G7, 2, none⟩ = some (.int .i64 x.to) := fun z => ((HLay.out.below (HOF.out z)).blk 1 rfl).cell 2
      have c7_ : ∀ z, (of z).cell? ⟨G7, 3, none⟩ = some (.int .i64 x.drops) := fun z => ((HLay.out.below (HOF.out z)).blk 1 rfl).cell 3
      have c8_ : ∀ z, (of z).cell? ⟨G10, 0, none⟩ = some (.int .i64 (heldAt s 0)) := fun z => ((HLay.out.below (HOF.out z)).blk 2 rfl).cell 0
      have c9_ : ∀ z, (of z).cell? ⟨G10, 1, none⟩ = some (.int .i64 (heldAt s 1)) := fun z => ((HLay.out.below (HOF.out z)).blk 2 rfl).cell 1
      have c10_ : ∀ z, (of z).cell? ⟨G10, 2, none⟩ = some (.int .i64 (heldAt s 2)) := fun z => ((HLay.out.below (HOF.out z)).blk 2 rfl).cell 2
      have c11_ : ∀ z, (of z).cell? ⟨G10, 3, none⟩ = some (.int .i64 (heldAt s 3)) := fun z => ((HLay.out.below (HOF.out z)).blk 2 rfl).cell 3
      have hfw : ∀ f, Fence.wide.fn f := fun _ => trivial
      have r0 : ∀ z, (of z).cell? ⟨bl, ol + t * 4, none⟩ = some (.int .i64 (heldAt all 0)) := fun z => ((HBR.out.below (HOF.out z)).bel.cell (p := ⟨bl, ol + t * 4, none⟩) HBL.out).trans (HCE.out 0 _ rfl)
      have r1 : ∀ z, (of z).cell? ⟨bl, ol + t * 4 + 1, none⟩ = some (.int .i64 (heldAt all 1)) := fun z => ((HBR.out.below (HOF.out z)).bel.cell (p := ⟨bl, ol + t * 4 + 1, none⟩) HBL.out).trans (HCE.out 1 _ rfl)
      have r2 : ∀ z, (of z).cell? ⟨bl, ol + t * 4 + 2, none⟩ = some (.int .i64 (heldAt all 2)) := fun z => ((HBR.out.below (HOF.out z)).bel.cell (p := ⟨bl, ol + t * 4 + 2, none⟩) HBL.out).trans (HCE.out 2 _ rfl)
      have r3 : ∀ z, (of z).cell? ⟨bl, ol + t * 4 + 3, none⟩ = some (.int .i64 (heldAt all 3)) := fun z => ((HBR.out.below (HOF.out z)).bel.cell (p := ⟨bl, ol + t * 4 + 3, none⟩) HBL.out).trans (HCE.out 3 _ rfl)
      have hkk : t < n := by have := HN.out; omega
      have hk13 := HN13.out
      simp only [pickB]
      iterate 8 (gi_big_quiet_step (fail))
      refine wpQuietIn_nil ?_
      exact rfl
     intro W11 hW
     replace HLay := Lib.hid (HLay.out.below hW)
     replace HBR := Lib.hid (HBR.out.below hW)
     clear hW
     gi_wp2
     refine ⟨trivial, (callsIn_wide.2 (callsIn_wide.1 (rmoves_in Av nv cv Aa na ca At nt ct m x fountain all s W11 (HM.out.up HLay.out.1) HAT.out.ok HFI.out (fun q hq => (HAT.out.rng q).2) HV.out.1))).mono ?_⟩
     rintro e W12 ⟨rfl, hb⟩
     replace HLay := Lib.hid (HLay.out.below hb)
     replace HBR := Lib.hid (HBR.out.below hb)
     obtain ⟨lo, hlo⟩ : ∃ lo, (spanR m x fountain all s).1 = lo := ⟨_, rfl⟩
     obtain ⟨hi, hhi⟩ : ∃ hi, (spanR m x fountain all s).2 = hi := ⟨_, rfl⟩
     rw [hlo, hhi]
     have HLO := Lib.hid hlo
     have HHI := Lib.hid hhi
     clear hlo hhi
     gi_wp2
     refine ⟨trivial, hb, ?_⟩
     clear hb
     refine wpFlow_nil (A := ?AF4) ?hq4 ?_
     case hq4 =>
      rintro σ hσ of hof hcl
      have HOF := Lib.hid hof
      have HCL := Lib.hid hcl
      clear hof hcl
      have c0_ : ∀ z, (of z).cell? ⟨w.heap.size, 0, none⟩ = some (.int .i64 m.fountains) := fun z => ((HLay.out.below (HOF.out z)).blk 0 rfl).cell 0
      have c1_ : ∀ z, (of z).cell? ⟨w.heap.size, 1, none⟩ = some (.slice Av nv cv) := fun z => ((HLay.out.below (HOF.out z)).blk 0 rfl).cell 1
      have c2_ : ∀ z, (of z).cell? ⟨w.heap.size, 2, none⟩ = some (.slice Aa na ca) := fun z => ((HLay.out.below (HOF.out z)).blk 0 rfl).cell 2
      have c3_ : ∀ z, (of z).cell? ⟨w.heap.size, 3, none⟩ = some (.slice At nt ct) := fun z => ((HLay.out.below (HOF.out z)).blk 0 rfl).cell 3
      have c4_ : ∀ z, (of z).cell? ⟨G7, 0, none⟩ = some (.int .i64 x.kind) := fun z => ((HLay.out.below (HOF.out z)).blk 1 rfl).cell 0
      have c5_ : ∀ z, (of z).cell? ⟨G7, 1, none⟩ = some (.int .i64 x.fr) := fun z => ((HLay.out.below (HOF.out z)).blk 1 rfl).cell 1
      have c6_ : ∀ z, (of z).cell? ⟨G7, 2, none⟩ = some (.int .i64 x.to) := fun z => ((HLay.out.below (HOF.out z)).blk 1 rfl).cell 2
      have c7_ : ∀ z, (of z).cell? ⟨G7, 3, none⟩ = some (.int .i64 x.drops) := fun z => ((HLay.out.below (HOF.out z)).blk 1 rfl).cell 3
      have c8_ : ∀ z, (of z).cell? ⟨G10, 0, none⟩ = some (.int .i64 (heldAt s 0)) := fun z => ((HLay.out.below (HOF.out z)).blk 2 rfl).cell 0
      have c9_ : ∀ z, (of z).cell? ⟨G10, 1, none⟩ = some (.int .i64 (heldAt s 1)) := fun z => ((HLay.out.below (HOF.out z)).blk 2 rfl).cell 1
      have c10_ : ∀ z, (of z).cell? ⟨G10, 2, none⟩ = some (.int .i64 (heldAt s 2)) := fun z => ((HLay.out.below (HOF.out z)).blk 2 rfl).cell 2
      have c11_ : ∀ z, (of z).cell? ⟨G10, 3, none⟩ = some (.int .i64 (heldAt s 3)) := fun z => ((HLay.out.below (HOF.out z)).blk 2 rfl).cell 3
      have hfw : ∀ f, Fence.wide.fn f := fun _ => trivial
      simp only [pickB]
      iterate 0 (gi_big_quiet_step (fail))
      refine wpQuietIn_nil ?_
      exact rfl
     intro bN W13 hW hbg hbb hbi
     replace HLay := Lib.hid (HLay.out.below hW)
     replace HBR := Lib.hid (HBR.out.below hW)
     have c0 := hbb.cell 0
     have z0 := hbb.frozen 0
     have c1 := hbb.cell 1
     have z1 := hbb.frozen 1
     have hbl := hbb.lt
     have hbw : w.heap.size ≤ bN := Nat.le_trans (HLay0.out.1.size) hbg
     simp only [pickB]
     refine wpT_cons ?_
     gi_wp2
     refine wpT_nil ?_
     have R3 := ret2' hbb (Below.refl bN W13) (Nat.le_refl _) (.int .i64 lo) (.int .i64 hi)
     have HLay9 := Lib.hid (Lay.add (w := w) (bs := [(w.heap.size, 26, #[.int .i64 m.fountains, .slice Av nv cv, .slice Aa na ca, .slice At nt ct]), (G7, 67, #[.int .i64 x.kind, .int .i64 x.fr, .int .i64 x.to, .int .i64 x.drops]), (G10, 110, #[.int .i64 (heldAt s 0), .int .i64 (heldAt s 1), .int .i64 (heldAt s 2), .int .i64 (heldAt s 3)])]) ⟨HLay.out.1.trans (R3.2.1.mono hbw), fun p hp => ⟨(HLay.out.2 p hp).1, (HLay.out.2 p hp).2.below R3.2.1 (by have := (HLay0.out.2 p hp).2.lt; omega)⟩⟩ hbw R3.1)
     replace HBR := Lib.hid (HBR.out.newb HBR0.out hbg R3.2.2)
     generalize ((W13.setCell ⟨bN, 0, none⟩ (.int .i64 lo)).setCell ⟨bN, 1, none⟩ (.int .i64 hi)) = W99 at *
     clear c0 z0 c1 z1 hbl hbb hW hbg R3
     replace HLay := HLay9
     have HTP := Lib.hid (show Tab N n bs (PI m fountain L x all t c lo) from by have h1 := pm_pi (x := x) (all := all) HTAB.out; rw [HSD.out, HLO.out] at h1; exact h1)
     replace HTAB := HTP
     clear HTP HLay0 HBR0
     have x3_0 := (HLay.out.blk 3 rfl).cell 0
     have x3_1 := (HLay.out.blk 3 rfl).cell 1
     have l3_ := HLay.out.lt 3 rfl
     gi_wp2
     clear x3_0 x3_1 l3_
     refine wpIn_loop (fun a W => ∃ (k0 : Int), Hid (Ex2 fun (rs : List Nat) (bs : List (List Bool)) => lo ≤ k0 ∧ (k0 ≤ hi + 1 ∨ k0 = lo) ∧ Lay w W [(w.heap.size, 26, #[.int .i64 m.fountains, .slice Av nv cv, .slice Aa na ca, .slice At nt ct]), (G7, 67, #[.int .i64 x.kind, .int .i64 x.fr, .int .i64 x.to, .int .i64 x.drops]), (G10, 110, #[.int .i64 (heldAt s 0), .int .i64 (heldAt s 1), .int .i64 (heldAt s 2), .int .i64 (heldAt s 3)]), (bN, 30, #[.int .i64 lo, .int .i64 hi])] ∧ BR W2 W N G rs bs ∧ Tab N n bs (PI m fountain L x all t c k0)) ∧ FrT4 (.agg #[.int .i64 m.fountains, .slice Av nv cv, .slice Aa na ca, .slice At nt ct]) (.int .i64 fountain) (.pointer (some ⟨w.heap.size, 0, none⟩)) (.slice none 0 0) (.bool false) (.slice (some ⟨bl, ol, none⟩) n c0) (.bool true) (.int .i64 (N : Int)) (.slice (some ⟨G, 0, none⟩) n n) (.int .i64 (t : Int)) (.pointer (some ⟨G7, 0, none⟩)) (.int .i64 (c : Int)) (.pointer (some ⟨G10, 0, none⟩)) (.pointer (some ⟨bN, 0, none⟩)) (.int .i64 k0) (.slice Aa na ca) (.int .i64 na) (.int .i64 (t : Int)) a) (fun a _ => (hi + 1 - intOf (a.tmps.getD 16 undef)).toNat) ?_ ?_
     ·exact ⟨lo, Lib.hid ⟨rs, bs, Int.le_refl _, .inr rfl, HLay.out, HBR.out, HTAB.out⟩, by constructor⟩
     clear HLay HBR HTAB
     rintro a W ⟨k0, HS, ha⟩
     cases ha
     obtain ⟨rs, bs, hs9⟩ := HS.out
     replace HS := Lib.hid hs9
     clear hs9
     have HLay := Lib.hid HS.out.2.2.1
     have HBR := Lib.hid HS.out.2.2.2.1
     have HTAB := Lib.hid HS.out.2.2.2.2
     by_cases hle : k0 ≤ hi
     ·
      have hkb := (spanR_bd HOK.out HL.out HX.out HAT.out.ha HFW.out).2 k0
      rw [HSD.out, HLO.out, HHI.out] at hkb
      replace hkb := hkb HS.out.1 hle
      have hkz : 0 ≤ k0 ∧ k0 ≤ 2000 := by have := HAT.out.size; dsimp only at this; omega
      have HKZ := Lib.hid hkz
      clear hkb
      have x0_0 := (HLay.out.blk 0 rfl).cell 0
      have x0_1 := (HLay.out.blk 0 rfl).cell 1
      have x0_2 := (HLay.out.blk 0 rfl).cell 2
      have x0_3 := (HLay.out.blk 0 rfl).cell 3
      have l0_ := HLay.out.lt 0 rfl
      have x1_0 := (HLay.out.blk 1 rfl).cell 0
      have x1_1 := (HLay.out.blk 1 rfl).cell 1
      have x1_2 := (HLay.out.blk 1 rfl).cell 2
      have x1_3 := (HLay.out.blk 1 rfl).cell 3
      have l1_ := HLay.out.lt 1 rfl
      have x2_0 := (HLay.out.blk 2 rfl).cell 0
      have x2_1 := (HLay.out.blk 2 rfl).cell 1
      have x2_2 := (HLay.out.blk 2 rfl).cell 2
      have x2_3 := (HLay.out.blk 2 rfl).cell 3
      have l2_ := HLay.out.lt 2 rfl
      have x3_0 := (HLay.out.blk 3 rfl).cell 0
      have x3_1 := (HLay.out.blk 3 rfl).cell 1
      have l3_ := HLay.out.lt 3 rfl
      gi_wp2
      clear x0_0 x0_1 x0_2 x0_3 l0_ x1_0 x1_1 x1_2 x1_3 l1_ x2_0 x2_1 x2_2 x2_3 l2_ x3_0 x3_1 l3_
      refine ⟨trivial, (callsIn_wide.2 (callsIn_wide.1 (rmoved_in Av nv cv Aa na ca At nt ct m x s k0 all W (HM.out.up HLay.out.1) HAT.out.ok HFI.out.lh HRG.out HKZ.out HV.out.1))).mono ?_⟩
      rintro e W14 ⟨rfl, hb⟩
      replace HLay := Lib.hid (HLay.out.below hb)
      replace HBR := Lib.hid (HBR.out.below hb)
      clear hb
      have hmc := moved_code (k := k0) HOK.out HL.out HNN.out HX.out HAT.out.ha HFW.out (by rw [HSD.out, HLO.out]; exact HS.out.1) (by rw [HSD.out, HHI.out]; exact hle)
      rw [HSD.out] at hmc
      obtain ⟨s2, hs2⟩ : ∃ s2, movedR m x s k0 = s2 := ⟨_, rfl⟩
      rw [hs2] at hmc ⊢
      obtain ⟨hw2, d, hd1, hd2, hd3⟩ := hmc
      have HS2 := Lib.hid hs2
      have HW2 := Lib.hid hw2
      have HD1 := Lib.hid hd1
      have HD2 := Lib.hid hd2
      have HD3 := Lib.hid hd3
      clear hs2 hw2 hd1 hd2 hd3
      gi_upto_region 22 with fail
      obtain ⟨V15, hV⟩ : ∃ V, (W14.alloc (.cells #[.int .i64 (heldAt s2 0), .int .i64 (heldAt s2 1), .int .i64 (heldAt s2 2), .int .i64 (heldAt s2 3)] 110)) = V := ⟨_, rfl⟩
      rw [hV]
      have hb := fbox_bel hV
      have hnew := fbox_blk hV
      have hge := HLay.out.bel.size
      replace HLay := Lib.hid (HLay.out.below hb)
      replace HBR := Lib.hid (HBR.out.below hb)
      replace HLay := Lib.hid (HLay.out.add hge hnew)
      clear hnew hge hb hV
      obtain ⟨G16, hG⟩ : ∃ g, W14.heap.size = g := ⟨_, rfl⟩
      rw [hG] at HLay ⊢
      clear hG
      replace HLay := Lib.hid (show Lay w V15 [(w.heap.size, 26, #[.int .i64 m.fountains, .slice Av nv cv, .slice Aa na ca, .slice At nt ct]), (G7, 67, #[.int .i64 x.kind, .int .i64 x.fr, .int .i64 x.to, .int .i64 x.drops]), (G10, 110, #[.int .i64 (heldAt s 0), .int .i64 (heldAt s 1), .int .i64 (heldAt s 2), .int .i64 (heldAt s 3)]), (bN, 30, #[.int .i64 lo, .int .i64 hi]), (G16, 110, #[.int .i64 (heldAt s2 0), .int .i64 (heldAt s2 1), .int .i64 (heldAt s2 2), .int .i64 (heldAt s2 3)])] from HLay.out)
      have x0_0 := (HLay.out.blk 0 rfl).cell 0
      have x0_1 := (HLay.out.blk 0 rfl).cell 1
      have x0_2 := (HLay.out.blk 0 rfl).cell 2
      have x0_3 := (HLay.out.blk 0 rfl).cell 3
      have l0_ := HLay.out.lt 0 rfl
      have x4_0 := (HLay.out.blk 4 rfl).cell 0
      have x4_1 := (HLay.out.blk 4 rfl).cell 1
      have x4_2 := (HLay.out.blk 4 rfl).cell 2
      have x4_3 := (HLay.out.blk 4 rfl).cell 3
      have l4_ := HLay.out.lt 4 rfl
      gi_wp2
      clear x0_0 x0_1 x0_2 x0_3 l0_ x4_0 x4_1 x4_2 x4_3 l4_
      refine ⟨trivial, (callsIn_wide.2 (callsIn_wide.1 (rtasted_in Av nv cv Aa na ca At nt ct m fountain (t + 1) s2 V15 (HM.out.up HLay.out.1) HTV.out HV.out.1 (by have h1 := HV.out; have h2 := HLT.out; omega)))).mono ?_⟩
      rintro e W17 ⟨rfl, hb⟩
      replace HLay := Lib.hid (HLay.out.below hb)
      replace HBR := Lib.hid (HBR.out.below hb)
      clear hb
      obtain ⟨tb, htb⟩ : ∃ b, tastedB m fountain (t + 1) s2 = b := ⟨_, rfl⟩
      rw [htb]
      have HTBX := Lib.hid htb
      clear htb
      cases tb with
      | false =>
       gi_wp2
       refine ⟨⟨k0 + 1, Lib.hid ⟨rs, _, by have := HS.out.1; omega, .inl (by omega), HLay.out.sub (by intro b hb; simp only [List.mem_cons, List.not_mem_nil, or_false] at hb ⊢; rcases hb with rfl | rfl | rfl | rfl <;> simp), HBR.out, pi_no (by rw [HSD.out, HS2.out]; exact HTBX.out) HTAB.out⟩, by constructor⟩, ?_⟩
       simp [intOf] <;> omega
      | true =>
       obtain ⟨row, bv, hrow, hbv, hbP⟩ := HTAB.out.look (i := (t + 1)) (c := d) (by have := HN.out; omega) (by have := HD2.out; omega)
       obtain ⟨r, hr⟩ : ∃ r, rs[(t + 1)]? = some r := ⟨_, List.getElem?_eq_getElem (by have h1 := HBR.out.len; have h2 := HTAB.out.len; have := HN.out; omega)⟩
       have HRW := Lib.hid hrow
       have HBV := Lib.hid hbv
       have HBP := Lib.hid hbP
       have HRR := Lib.hid hr
       clear hrow hbv hbP hr
       gi_upto_region 23 with fail
       refine wpIn_flow_old [([true, true, true, true, true, true, true], 7)] [false, false, false, false, false, false, false, false, true] [false, false, false, false, false, false, false, false, false, true] (by kernel_rfl) (by kernel_rfl) (by kernel_rfl) (below_drewN (Below.refl _ _) 1) ?_
       refine wpFlow_cons (A := ?AF5) rfl ?hq5 ?_
       case hq5 =>
        rintro σ hσ of hof hcl
        have HOF := Lib.hid hof
        have HCL := Lib.hid hcl
        clear hof hcl
        have c0_ : ∀ z, (of z).cell? ⟨w.heap.size, 0, none⟩ = some (.int .i64 m.fountains) := fun z => ((HLay.out.below (HOF.out z)).blk 0 rfl).cell 0
        have c1_ : ∀ z, (of z).cell? ⟨w.heap.size, 1, none⟩ = some (.slice Av nv cv) := fun z => ((HLay.out.below (HOF.out z)).blk 0 rfl).cell 1
        have c2_ : ∀ z, (of z).cell? ⟨w.heap.size, 2, none⟩ = some (.slice Aa na ca) := fun z => ((HLay.out.below (HOF.out z)).blk 0 rfl).cell 2
        have c3_ : ∀ z, (of z).cell? ⟨w.heap.size, 3, none⟩ = some (.slice At nt ct) := fun z => ((HLay.out.below (HOF.out z)).blk 0 rfl).cell 3
        have c4_ : ∀ z, (of z).cell? ⟨G16, 0, none⟩ = some (.int .i64 (heldAt s2 0)) := fun z => ((HLay.out.below (HOF.out z)).blk 4 rfl).cell 0
        have c5_ : ∀ z, (of z).cell? ⟨G16, 1, none⟩ = some (.int .i64 (heldAt s2 1)) := fun z => ((HLay.out.below (HOF.out z)).blk 4 rfl).cell 1
        have c6_ : ∀ z, (of z).cell? ⟨G16, 2, none⟩ = some (.int .i64 (heldAt s2 2)) := fun z => ((HLay.out.below (HOF.out z)).blk 4 rfl).cell 2
        have c7_ : ∀ z, (of z).cell? ⟨G16, 3, none⟩ = some (.int .i64 (heldAt s2 3)) := fun z => ((HLay.out.below (HOF.out z)).blk 4 rfl).cell 3
        have hfw : ∀ f, Fence.wide.fn f := fun _ => trivial
        have q0 : ∀ z, (of z).cell? ⟨G, t + 1, none⟩ = some (.slice (some ⟨r, 0, none⟩) N N) := fun z => (HBR.out.below (HOF.out z)).rowCell HRR.out
        have q1 : ∀ z, (of z).cell? ⟨r, d, none⟩ = some (.bool bv) := fun z => (HBR.out.below (HOF.out z)).cell HRR.out HRW.out HBV.out
        have hkk : t + 1 < n := by have := HN.out; omega
        have hd2 := HD2.out
        have hn9 := HN9.out
        have hk13 := HN13.out
        simp only [pickB]
        iterate 7 (gi_big_quiet_step (fail))
        refine wpQuietIn_nil ?_
        exact rfl
       intro W18 hW
       replace HLay := Lib.hid (HLay.out.below hW)
       replace HBR := Lib.hid (HBR.out.below hW)
       clear hW
       gi_wp2
       refine ⟨trivial, (callsIn_wide.2 (callsIn_wide.1 (rcode_in Av nv cv Aa na ca At nt ct m s2 W18 (HM.out.up HLay.out.1) HZ.out HV.out.1 HW2.out))).mono ?_⟩
       rintro e W19 ⟨rfl, hb⟩
       replace HLay := Lib.hid (HLay.out.below hb)
       replace HBR := Lib.hid (HBR.out.below hb)
       rw [show codeR (zsM m) (asK s2 m.vessels.length) = (d : Int) from HD1.out]
       gi_wp2
       refine ⟨trivial, hb, ?_⟩
       clear hb
       refine wpFlow_nil (A := ?AF6) ?hq6 ?_
       case hq6 =>
        rintro σ hσ of hof hcl
        have HOF := Lib.hid hof
        have HCL := Lib.hid hcl
        clear hof hcl
        have c0_ : ∀ z, (of z).cell? ⟨w.heap.size, 0, none⟩ = some (.int .i64 m.fountains) := fun z => ((HLay.out.below (HOF.out z)).blk 0 rfl).cell 0
        have c1_ : ∀ z, (of z).cell? ⟨w.heap.size, 1, none⟩ = some (.slice Av nv cv) := fun z => ((HLay.out.below (HOF.out z)).blk 0 rfl).cell 1
        have c2_ : ∀ z, (of z).cell? ⟨w.heap.size, 2, none⟩ = some (.slice Aa na ca) := fun z => ((HLay.out.below (HOF.out z)).blk 0 rfl).cell 2
        have c3_ : ∀ z, (of z).cell? ⟨w.heap.size, 3, none⟩ = some (.slice At nt ct) := fun z => ((HLay.out.below (HOF.out z)).blk 0 rfl).cell 3
        have c4_ : ∀ z, (of z).cell? ⟨G16, 0, none⟩ = some (.int .i64 (heldAt s2 0)) := fun z => ((HLay.out.below (HOF.out z)).blk 4 rfl).cell 0
        have c5_ : ∀ z, (of z).cell? ⟨G16, 1, none⟩ = some (.int .i64 (heldAt s2 1)) := fun z => ((HLay.out.below (HOF.out z)).blk 4 rfl).cell 1
        have c6_ : ∀ z, (of z).cell? ⟨G16, 2, none⟩ = some (.int .i64 (heldAt s2 2)) := fun z => ((HLay.out.below (HOF.out z)).blk 4 rfl).cell 2
        have c7_ : ∀ z, (of z).cell? ⟨G16, 3, none⟩ = some (.int .i64 (heldAt s2 3)) := fun z => ((HLay.out.below (HOF.out z)).blk 4 rfl).cell 3
        have hfw : ∀ f, Fence.wide.fn f := fun _ => trivial
        have q0 : ∀ z, (of z).cell? ⟨G, t + 1, none⟩ = some (.slice (some ⟨r, 0, none⟩) N N) := fun z => (HBR.out.below (HOF.out z)).rowCell HRR.out
        have q1 : ∀ z, (of z).cell? ⟨r, d, none⟩ = some (.bool bv) := fun z => (HBR.out.below (HOF.out z)).cell HRR.out HRW.out HBV.out
        have hkk : t + 1 < n := by have := HN.out; omega
        have hd2 := HD2.out
        have hn9 := HN9.out
        have hk13 := HN13.out
        simp only [pickB]
        iterate 1 (gi_big_quiet_step (fail))
        refine wpQuietIn_nil ?_
        exact rfl
       intro W20 hW
       replace HLay := Lib.hid (HLay.out.below hW)
       replace HBR := Lib.hid (HBR.out.below hW)
       clear hW
       have q0 := HBR.out.rowCell HRR.out
       have q1 := HBR.out.cell HRR.out HRW.out HBV.out
       have q0l := HBR.out.top.lt
       have q1l := (HBR.out.row _ _ _ HRR.out HRW.out).1.lt
       have q1f := (HBR.out.row _ _ _ HRR.out HRW.out).1.frozen d
       simp only [pickB]
       refine wpT_cons ?_
       gi_wp2
       refine wpT_nil ?_
       clear q0 q1 q0l q1l q1f
       have hne9 : ∀ b ∈ ([(w.heap.size, 26, #[.int .i64 m.fountains, .slice Av nv cv, .slice Aa na ca, .slice At nt ct]), (G7, 67, #[.int .i64 x.kind, .int .i64 x.fr, .int .i64 x.to, .int .i64 x.drops]), (G10, 110, #[.int .i64 (heldAt s 0), .int .i64 (heldAt s 1), .int .i64 (heldAt s 2), .int .i64 (heldAt s 3)]), (bN, 30, #[.int .i64 lo, .int .i64 hi]), (G16, 110, #[.int .i64 (heldAt s2 0), .int .i64 (heldAt s2 1), .int .i64 (heldAt s2 2), .int .i64 (heldAt s2 3)])] : List (Nat × TypeId × Array Value)), b.2.1 ≠ 4 := by intro b hb; simp only [List.mem_cons, List.not_mem_nil, or_false] at hb; rcases hb with rfl | rfl | rfl | rfl | rfl <;> (dsimp only; decide)
       have HLS := Lib.hid (lay_farT HLay.out (HBR.out.row _ _ _ HRR.out HRW.out).1 (Nat.le_trans HL2.out.1.size (HBR.out.row _ _ _ HRR.out HRW.out).2.2.1) hne9 d (.bool true))
       have HBS := Lib.hid (HBR.out.put (c := d) HRR.out HRW.out true)
       have HTS := Lib.hid (pi_yes (x := x) (all := all) (d := d) HOK.out HNN.out (by rw [HSD.out, HLO.out]; exact HS.out.1) (by rw [HSD.out, HS2.out]; exact HD3.out) HD2.out (by rw [HSD.out, HS2.out]; exact HTBX.out) HRW.out HTAB.out)
       generalize W20.setCell ⟨r, d, none⟩ (.bool true) = S1 at *
       replace HLay := HLS
       replace HBR := HBS
       replace HTAB := HTS
       clear HLS HBS HTS HRW HBV HBP HRR hne9
       gi_wp2
       refine ⟨⟨k0 + 1, Lib.hid ⟨rs, _, by have := HS.out.1; omega, .inl (by omega), HLay.out.sub (by intro b hb; simp only [List.mem_cons, List.not_mem_nil, or_false] at hb ⊢; rcases hb with rfl | rfl | rfl | rfl <;> simp), HBR.out, HTAB.out⟩, by constructor⟩, ?_⟩
       simp [intOf] <;> omega
     ·
      have x3_0 := (HLay.out.blk 3 rfl).cell 0
      have x3_1 := (HLay.out.blk 3 rfl).cell 1
      have l3_ := HLay.out.lt 3 rfl
      gi_wp2
      clear x3_0 x3_1 l3_
      refine ⟨⟨c + 1, Lib.hid ⟨rs, bs, hlc, HLay.out.sub (by intro b hb; simp only [List.mem_cons, List.not_mem_nil, or_false] at hb ⊢; rcases hb with rfl | rfl <;> simp), HBR.out, pi_pm HFW.out HX.out HAT.out.ha (by rw [HSD.out, HHI.out]; omega) HTAB.out (by rw [HSD.out, HHI.out, HLO.out]; exact HS.out.2.1)⟩, by rw [show ((c + 1 : Nat) : Int) = (c : Int) + 1 from by omega]; constructor⟩, ?_⟩
      simp [intOf] <;> omega
   ·
    obtain rfl : c = N := by have := HS.out.1; omega
    gi_wp2
    have hAt := HAV.out
    clear HAV
    subst hAt
    refine ⟨⟨t + 1, Lib.hid ⟨rs, bs, hlt, HLay.out.sub (by intro b hb; simp only [List.mem_cons, List.not_mem_nil, or_false] at hb ⊢; rcases hb with rfl <;> simp), HBR.out, pm_pf HOK.out HL.out HNN.out HX.out HAT.out.ha HAT.out.ok HTAB.out⟩, by rw [show ((t + 1 : Nat) : Int) = (t : Int) + 1 from by omega]; constructor⟩, ?_⟩
    simp [intOf] <;> omega
  ·
   obtain rfl : na = t := by have := HS.out.1; omega
   have HTP := Lib.hid (pf_qo (by rw [HLA.out]; exact HTAB.out) (by rw [HLA.out]; exact HN.out))
   rw [HLA.out] at HTP
   replace HTAB := HTP
   clear HTP HS hlt
   have x0_0 := (HLay.out.blk 0 rfl).cell 0
   have x0_1 := (HLay.out.blk 0 rfl).cell 1
   have x0_2 := (HLay.out.blk 0 rfl).cell 2
   have x0_3 := (HLay.out.blk 0 rfl).cell 3
   have l0_ := HLay.out.lt 0 rfl
   have hna12 : na ≤ 12 := by have h1 := HV.out; have h2 := HLA.out; omega
   gi_wp2
   clear x0_0 x0_1 x0_2 x0_3 l0_
   refine wpIn_loop (fun a W => ∃ (jj : Int), Hid (Ex3 fun (j : Nat) (rs : List Nat) (bs : List (List Bool)) => jj = (j : Int) - 1 ∧ j ≤ na ∧ Lay w W [(w.heap.size, 26, #[.int .i64 m.fountains, .slice Av nv cv, .slice Aa na ca, .slice At nt ct])] ∧ BR W2 W N G rs bs ∧ Tab N n bs (QO m fountain L j)) ∧ FrT5 (.agg #[.int .i64 m.fountains, .slice Av nv cv, .slice Aa na ca, .slice At nt ct]) (.int .i64 fountain) (.pointer (some ⟨w.heap.size, 0, none⟩)) (.slice none 0 0) (.bool false) (.slice (some ⟨bl, ol, none⟩) n c0) (.bool true) (.int .i64 (N : Int)) (.slice (some ⟨G, 0, none⟩) n n) (.int .i64 jj) a) (fun a _ => (intOf (a.tmps.getD 18 undef) + 1).toNat) ?_ ?_
   ·exact ⟨(na : Int) - 1, Lib.hid ⟨na, rs, bs, rfl, Nat.le_refl _, HLay.out, HBR.out, HTAB.out⟩, by constructor⟩
   clear HLay HBR HTAB
   rintro a W ⟨jj, HS, ha⟩
   cases ha
   obtain ⟨j, rs, bs, hs9⟩ := HS.out
   replace HS := Lib.hid hs9
   clear hs9
   have HLay := Lib.hid HS.out.2.2.1
   have HBR := Lib.hid HS.out.2.2.2.1
   have HTAB := Lib.hid HS.out.2.2.2.2
   by_cases hge : 0 ≤ jj
   ·
    obtain ⟨t, rfl⟩ : ∃ t : Nat, jj = (t : Int) := ⟨jj.toNat, by omega⟩
    obtain rfl : j = t + 1 := by have := HS.out.1; omega
    have hlt : t < na := by have := HS.out.2.1; omega
    obtain ⟨b, off, x, hAv, hbB, hx, c0_, c1_, c2_, c3_⟩ := (HM.out.at_.below HLay.out.1).act hlt
    obtain ⟨all, hA⟩ := HTB.out.at_ hx
    obtain ⟨bl9, ol9, all9, e1, _, e3, e4⟩ := recs_cell heldC_k (by omega) HRD.out (show t < n by have := HN.out; omega)
    obtain rfl : all = all9 := Option.some.inj (hA.ha.symm.trans e3)
    cases e1
    have HX := Lib.hid hx
    have HAT := Lib.hid hA
    have HCE := Lib.hid e4
    have ht12 : t + 1 ≤ 12 := by have h1 := HV.out; have h2 := HLA.out; omega
    clear e3 e4 hx hA hbB
    have x9 := (HLay.out.blk 0 rfl).cell 2
    have x9l := HLay.out.lt 0 rfl
    change _ = some (Value.slice Aa na ca) at x9
    rw [hAv] at x9 ⊢
    gi_upto_region 29 with fail
    clear c0_ c1_ c2_ c3_ x9 x9l
    obtain ⟨V21, hV⟩ : ∃ V, (W.alloc (.cells #[.int .i64 x.kind, .int .i64 x.fr, .int .i64 x.to, .int .i64 x.drops] 67)) = V := ⟨_, rfl⟩
    rw [hV]
    have hb := fbox_bel hV
    have hnew := fbox_blk hV
    have hge := HLay.out.bel.size
    replace HLay := Lib.hid (HLay.out.below hb)
    replace HBR := Lib.hid (HBR.out.below hb)
    replace HLay := Lib.hid (HLay.out.add hge hnew)
    clear hnew hge hb hV
    obtain ⟨G22, hG⟩ : ∃ g, W.heap.size = g := ⟨_, rfl⟩
    rw [hG] at HLay ⊢
    clear hG
    replace HLay := Lib.hid (show Lay w V21 [(w.heap.size, 26, #[.int .i64 m.fountains, .slice Av nv cv, .slice Aa na ca, .slice At nt ct]), (G22, 67, #[.int .i64 x.kind, .int .i64 x.fr, .int .i64 x.to, .int .i64 x.drops])] from HLay.out)
    rw [← hAv]
    have HAV := Lib.hid hAv
    clear hAv
    have HTP := Lib.hid (qo_qm HTAB.out)
    replace HTAB := HTP
    clear HTP HS
    gi_wp2
    refine wpIn_loop (fun a W => ∃ (c : Nat), Hid (Ex2 fun (rs : List Nat) (bs : List (List Bool)) => c ≤ N ∧ Lay w W [(w.heap.size, 26, #[.int .i64 m.fountains, .slice Av nv cv, .slice Aa na ca, .slice At nt ct]), (G22, 67, #[.int .i64 x.kind, .int .i64 x.fr, .int .i64 x.to, .int .i64 x.drops])] ∧ BR W2 W N G rs bs ∧ Tab N n bs (QM m fountain L t c)) ∧ FrT6 (.agg #[.int .i64 m.fountains, .slice Av nv cv, .slice Aa na ca, .slice At nt ct]) (.int .i64 fountain) (.pointer (some ⟨w.heap.size, 0, none⟩)) (.slice none 0 0) (.bool false) (.slice (some ⟨bl, ol, none⟩) n c0) (.bool true) (.int .i64 (N : Int)) (.slice (some ⟨G, 0, none⟩) n n) (.int .i64 (t : Int)) (.pointer (some ⟨G22, 0, none⟩)) (.int .i64 (c : Int)) a) (fun a _ => N - (intOf (a.tmps.getD 20 undef)).toNat) ?_ ?_
    ·exact ⟨0, Lib.hid ⟨rs, bs, by omega, HLay.out, HBR.out, HTAB.out⟩, by constructor⟩
    clear HLay HBR HTAB
    rintro a W ⟨c, HS, ha⟩
    cases ha
    obtain ⟨rs, bs, hs9⟩ := HS.out
    replace HS := Lib.hid hs9
    clear hs9
    have HLay := Lib.hid HS.out.2.1
    have HBR := Lib.hid HS.out.2.2.1
    have HTAB := Lib.hid HS.out.2.2.2
    by_cases hlc : c < N
    ·
     obtain ⟨row, bv, hrow, hbv, hbP⟩ := HTAB.out.look (i := t) (c := c) (by have := HN.out; omega) (by omega)
     obtain ⟨r, hr⟩ : ∃ r, rs[t]? = some r := ⟨_, List.getElem?_eq_getElem (by have h1 := HBR.out.len; have h2 := HTAB.out.len; have := HN.out; omega)⟩
     have HRW := Lib.hid hrow
     have HBV := Lib.hid hbv
     have HBP := Lib.hid hbP
     have HRR := Lib.hid hr
     clear hrow hbv hbP hr
     have htk : t < n := by have := HN.out; omega
     have hn9 := HN9.out
     clear HS
     cases bv with
     | false =>
      have q0 := HBR.out.rowCell HRR.out
      have q1 := HBR.out.cell HRR.out HRW.out HBV.out
      have q0l := HBR.out.top.lt
      have q1l := (HBR.out.row _ _ _ HRR.out HRW.out).1.lt
      have q1f := (HBR.out.row _ _ _ HRR.out HRW.out).1.frozen c
      gi_wp2
      have hno : ¬ Fwd m fountain L t (decN m c) := fun h => by have := HBP.out.2 (QM.now.2 h); cases this
      refine ⟨⟨c + 1, Lib.hid ⟨rs, bs, hlc, HLay.out, HBR.out, qm_skip HTAB.out hno⟩, by rw [show ((c + 1 : Nat) : Int) = (c : Int) + 1 from by omega]; constructor⟩, ?_⟩
      simp [intOf] <;> omega
     | true =>
      have hfw : Fwd m fountain L t (decN m c) := QM.now.1 (HBP.out.1 rfl)
      have HFW := Lib.hid hfw
      clear hfw
      have x0_0 := (HLay.out.blk 0 rfl).cell 0
      have x0_1 := (HLay.out.blk 0 rfl).cell 1
      have x0_2 := (HLay.out.blk 0 rfl).cell 2
      have x0_3 := (HLay.out.blk 0 rfl).cell 3
      have l0_ := HLay.out.lt 0 rfl
      have q0 := HBR.out.rowCell HRR.out
      have q1 := HBR.out.cell HRR.out HRW.out HBV.out
      have q0l := HBR.out.top.lt
      have q1l := (HBR.out.row _ _ _ HRR.out HRW.out).1.lt
      have q1f := (HBR.out.row _ _ _ HRR.out HRW.out).1.frozen c
      gi_wp2
      clear x0_0 x0_1 x0_2 x0_3 l0_
      clear q0 q1 q0l q1l q1f
      refine ⟨trivial, (callsIn_wide.2 (callsIn_wide.1 (rdec_in Av nv cv Aa na ca At nt ct m (c : Int) W (HM.out.up HLay.out.1) HZ.out HV.out.1 (by have := HN9.out; omega)))).mono ?_⟩
      rintro e W23 ⟨rfl, hb⟩
      replace HLay := Lib.hid (HLay.out.below hb)
      replace HBR := Lib.hid (HBR.out.below hb)
      clear hb
      obtain ⟨s, hs⟩ : ∃ s, decN m c = s := ⟨_, rfl⟩
      rw [show decH m (c : Int) = s from hs]
      have HSD := Lib.hid hs
      have hfi : Fits all s := by rw [← HSD.out]; exact fwd_fits HL.out HV.out.1 HFW.out HAT.out.ha
      have HFI := Lib.hid hfi
      have hrg : ∀ q : Nat, q < 4 → 0 ≤ heldAt s q ∧ heldAt s q ≤ 12 := fun q hq => by have h1 := HFI.out.le q hq; have h2 := HAT.out.rng q; omega
      have HRG := Lib.hid hrg
      clear hs hfi hrg
      gi_upto_region 34 with fail
      obtain ⟨V24, hV⟩ : ∃ V, (W23.alloc (.cells #[.int .i64 (heldAt s 0), .int .i64 (heldAt s 1), .int .i64 (heldAt s 2), .int .i64 (heldAt s 3)] 110)) = V := ⟨_, rfl⟩
      rw [hV]
      have hb := fbox_bel hV
      have hnew := fbox_blk hV
      have hge := HLay.out.bel.size
      replace HLay := Lib.hid (HLay.out.below hb)
      replace HBR := Lib.hid (HBR.out.below hb)
      replace HLay := Lib.hid (HLay.out.add hge hnew)
      clear hnew hge hb hV
      obtain ⟨G25, hG⟩ : ∃ g, W23.heap.size = g := ⟨_, rfl⟩
      rw [hG] at HLay ⊢
      clear hG
      replace HLay := Lib.hid (show Lay w V24 [(w.heap.size, 26, #[.int .i64 m.fountains, .slice Av nv cv, .slice Aa na ca, .slice At nt ct]), (G22, 67, #[.int .i64 x.kind, .int .i64 x.fr, .int .i64 x.to, .int .i64 x.drops]), (G25, 110, #[.int .i64 (heldAt s 0), .int .i64 (heldAt s 1), .int .i64 (heldAt s 2), .int .i64 (heldAt s 3)])] from HLay.out)
      have HLay0 := Lib.hid HLay.out
      have HBR0 := Lib.hid HBR.out
      refine wpIn_flow_new [([true, true, true, true, true, true, true, true], 8)] [] [false, false, false, false, false, false, false, false, false, false, true] 9 (fun b => .pointer (some ⟨b, 0, none⟩)) 30 #[.int .i64 0, .int .i64 0] (by kernel_rfl) (by kernel_rfl) (by kernel_rfl) (below_drewN (Below.refl _ _) 1) rfl rfl rfl (fun _ _ => rfl) (fun _ _ => rfl) ?_
      refine wpFlow_cons (A := ?AF7) rfl ?hq7 ?_
      case hq7 =>
       rintro σ hσ of hof hcl
       have HOF := Lib.hid hof
       have HCL := Lib.hid hcl
       clear hof hcl
       have c0_ : ∀ z, (of z).cell? ⟨w.heap.size, 0, none⟩ = some (.int .i64 m.fountains) := fun z => ((HLay.out.below (HOF.out z)).blk 0 rfl).cell 0
       have c1_ : ∀ z, (of z).cell? ⟨w.heap.size, 1, none⟩ = some (.slice Av nv cv) := fun z => ((HLay.out.below (HOF.out z)).blk 0 rfl).cell 1
       have c2_ : ∀ z, (of z).cell? ⟨w.heap.size, 2, none⟩ = some (.slice Aa na ca) := fun z => ((HLay.out.below (HOF.out z)).blk 0 rfl).cell 2
       have c3_ : ∀ z, (of z).cell? ⟨w.heap.size, 3, none⟩ = some (.slice At nt ct) := fun z => ((HLay.out.below (HOF.out z)).blk 0 rfl).cell 3
       have c4_ : ∀ z, (of z).cell? ⟨G22, 0, none⟩ = some (.int .i64 x.kind) := fun z => ((HLay.out.below (HOF.out z)).blk 1 rfl).cell 0
       have c5_ : ∀ z, (of z).cell? ⟨G22, 1, none⟩ = some (.int .i64 x.fr) := fun z => ((HLay.out.below (HOF.out z)).blk 1 rfl).cell 1
       have c6_ : ∀ z, (of z).cell? ⟨G22, 2, none⟩ = some (.int .i64 x.to) := fun z => ((HLay.out.below (HOF.out z)).blk 1 rfl).cell 2
       have c7_ : ∀ z, (of z).cell? ⟨G22, 3, none⟩ = some (.int .i64 x.drops) := fun z => ((HLay.out.below (HOF.out z)).blk 1 rfl).cell 3
       have c8_ : ∀ z, (of z).cell? ⟨G25, 0, none⟩ = some (.int .i64 (heldAt s 0)) := fun z => ((HLay.out.below (HOF.out z)).blk 2 rfl).cell 0
       have c9_ : ∀ z, (of z).cell? ⟨G25, 1, none⟩ = some (.int .i64 (heldAt s 1)) := fun z => ((HLay.out.below (HOF.out z)).blk 2 rfl).cell 1
       have c10_ : ∀ z, (of z).cell? ⟨G25, 2, none⟩ = some (.int .i64 (heldAt s 2)) := fun z => ((HLay.out.below (HOF.out z)).blk 2 rfl).cell 2
       have c11_ : ∀ z, (of z).cell? ⟨G25, 3, none⟩ = some (.int .i64 (heldAt s 3)) := fun z => ((HLay.out.below (HOF.out z)).blk 2 rfl).cell 3
       have hfw : ∀ f, Fence.wide.fn f := fun _ => trivial
       have r0 : ∀ z, (of z).cell? ⟨bl, ol + t * 4, none⟩ = some (.int .i64 (heldAt all 0)) := fun z => ((HBR.out.below (HOF.out z)).bel.cell (p := ⟨bl, ol + t * 4, none⟩) HBL.out).trans (HCE.out 0 _ rfl)
       have r1 : ∀ z, (of z).cell? ⟨bl, ol + t * 4 + 1, none⟩ = some (.int .i64 (heldAt all 1)) := fun z => ((HBR.out.below (HOF.out z)).bel.cell (p := ⟨bl, ol + t * 4 + 1, none⟩) HBL.out).trans (HCE.out 1 _ rfl)
       have r2 : ∀ z, (of z).cell? ⟨bl, ol + t * 4 + 2, none⟩ = some (.int .i64 (heldAt all 2)) := fun z => ((HBR.out.below (HOF.out z)).bel.cell (p := ⟨bl, ol + t * 4 + 2, none⟩) HBL.out).trans (HCE.out 2 _ rfl)
       have r3 : ∀ z, (of z).cell? ⟨bl, ol + t * 4 + 3, none⟩ = some (.int .i64 (heldAt all 3)) := fun z => ((HBR.out.below (HOF.out z)).bel.cell (p := ⟨bl, ol + t * 4 + 3, none⟩) HBL.out).trans (HCE.out 3 _ rfl)
       have hkk : t < n := by have := HN.out; omega
       have hk13 := HN13.out
       simp only [pickB]
       iterate 8 (gi_big_quiet_step (fail))
       refine wpQuietIn_nil ?_
       exact rfl
      intro W26 hW
      replace HLay := Lib.hid (HLay.out.below hW)
      replace HBR := Lib.hid (HBR.out.below hW)
      clear hW
      gi_wp2
      refine ⟨trivial, (callsIn_wide.2 (callsIn_wide.1 (rmoves_in Av nv cv Aa na ca At nt ct m x fountain all s W26 (HM.out.up HLay.out.1) HAT.out.ok HFI.out (fun q hq => (HAT.out.rng q).2) HV.out.1))).mono ?_⟩
      rintro e W27 ⟨rfl, hb⟩
      replace HLay := Lib.hid (HLay.out.below hb)
      replace HBR := Lib.hid (HBR.out.below hb)
      obtain ⟨lo, hlo⟩ : ∃ lo, (spanR m x fountain all s).1 = lo := ⟨_, rfl⟩
      obtain ⟨hi, hhi⟩ : ∃ hi, (spanR m x fountain all s).2 = hi := ⟨_, rfl⟩
      rw [hlo, hhi]
      have HLO := Lib.hid hlo
      have HHI := Lib.hid hhi
      clear hlo hhi
      gi_wp2
      refine ⟨trivial, hb, ?_⟩
      clear hb
      refine wpFlow_nil (A := ?AF8) ?hq8 ?_
      case hq8 =>
       rintro σ hσ of hof hcl
       have HOF := Lib.hid hof
       have HCL := Lib.hid hcl
       clear hof hcl
       have c0_ : ∀ z, (of z).cell? ⟨w.heap.size, 0, none⟩ = some (.int .i64 m.fountains) := fun z => ((HLay.out.below (HOF.out z)).blk 0 rfl).cell 0
       have c1_ : ∀ z, (of z).cell? ⟨w.heap.size, 1, none⟩ = some (.slice Av nv cv) := fun z => ((HLay.out.below (HOF.out z)).blk 0 rfl).cell 1
       have c2_ : ∀ z, (of z).cell? ⟨w.heap.size, 2, none⟩ = some (.slice Aa na ca) := fun z => ((HLay.out.below (HOF.out z)).blk 0 rfl).cell 2
       have c3_ : ∀ z, (of z).cell? ⟨w.heap.size, 3, none⟩ = some (.slice At nt ct) := fun z => ((HLay.out.below (HOF.out z)).blk 0 rfl).cell 3
       have c4_ : ∀ z, (of z).cell? ⟨G22, 0, none⟩ = some (.int .i64 x.kind) := fun z => ((HLay.out.below (HOF.out z)).blk 1 rfl).cell 0
       have c5_ : ∀ z, (of z).cell? ⟨G22, 1, none⟩ = some (.int .i64 x.fr) := fun z => ((HLay.out.below (HOF.out z)).blk 1 rfl).cell 1
       have c6_ : ∀ z, (of z).cell? ⟨G22, 2, none⟩ = some (.int .i64 x.to) := fun z => ((HLay.out.below (HOF.out z)).blk 1 rfl).cell 2
       have c7_ : ∀ z, (of z).cell? ⟨G22, 3, none⟩ = some (.int .i64 x.drops) := fun z => ((HLay.out.below (HOF.out z)).blk 1 rfl).cell 3
       have c8_ : ∀ z, (of z).cell? ⟨G25, 0, none⟩ = some (.int .i64 (heldAt s 0)) := fun z => ((HLay.out.below (HOF.out z)).blk 2 rfl).cell 0
       have c9_ : ∀ z, (of z).cell? ⟨G25, 1, none⟩ = some (.int .i64 (heldAt s 1)) := fun z => ((HLay.out.below (HOF.out z)).blk 2 rfl).cell 1
       have c10_ : ∀ z, (of z).cell? ⟨G25, 2, none⟩ = some (.int .i64 (heldAt s 2)) := fun z => ((HLay.out.below (HOF.out z)).blk 2 rfl).cell 2
       have c11_ : ∀ z, (of z).cell? ⟨G25, 3, none⟩ = some (.int .i64 (heldAt s 3)) := fun z => ((HLay.out.below (HOF.out z)).blk 2 rfl).cell 3
       have hfw : ∀ f, Fence.wide.fn f := fun _ => trivial
       simp only [pickB]
       iterate 0 (gi_big_quiet_step (fail))
       refine wpQuietIn_nil ?_
       exact rfl
      intro bN W28 hW hbg hbb hbi
      replace HLay := Lib.hid (HLay.out.below hW)
      replace HBR := Lib.hid (HBR.out.below hW)
      have c0 := hbb.cell 0
      have z0 := hbb.frozen 0
      have c1 := hbb.cell 1
      have z1 := hbb.frozen 1
      have hbl := hbb.lt
      have hbw : w.heap.size ≤ bN := Nat.le_trans (HLay0.out.1.size) hbg
      simp only [pickB]
      refine wpT_cons ?_
      gi_wp2
      refine wpT_nil ?_
      have R3 := ret2' hbb (Below.refl bN W28) (Nat.le_refl _) (.int .i64 lo) (.int .i64 hi)
      have HLay9 := Lib.hid (Lay.add (w := w) (bs := [(w.heap.size, 26, #[.int .i64 m.fountains, .slice Av nv cv, .slice Aa na ca, .slice At nt ct]), (G22, 67, #[.int .i64 x.kind, .int .i64 x.fr, .int .i64 x.to, .int .i64 x.drops]), (G25, 110, #[.int .i64 (heldAt s 0), .int .i64 (heldAt s 1), .int .i64 (heldAt s 2), .int .i64 (heldAt s 3)])]) ⟨HLay.out.1.trans (R3.2.1.mono hbw), fun p hp => ⟨(HLay.out.2 p hp).1, (HLay.out.2 p hp).2.below R3.2.1 (by have := (HLay0.out.2 p hp).2.lt; omega)⟩⟩ hbw R3.1)
      replace HBR := Lib.hid (HBR.out.newb HBR0.out hbg R3.2.2)
      generalize ((W28.setCell ⟨bN, 0, none⟩ (.int .i64 lo)).setCell ⟨bN, 1, none⟩ (.int .i64 hi)) = W99 at *
      clear c0 z0 c1 z1 hbl hbb hW hbg R3
      replace HLay := HLay9
      clear HLay0 HBR0
      have x3_0 := (HLay.out.blk 3 rfl).cell 0
      have x3_1 := (HLay.out.blk 3 rfl).cell 1
      have l3_ := HLay.out.lt 3 rfl
      gi_wp2
      clear x3_0 x3_1 l3_
      refine wpIn_loop (fun a W => ∃ (k0 : Int) (lb : Bool), Hid (lo ≤ k0 ∧ (k0 ≤ hi + 1 ∨ k0 = lo) ∧ Lay w W [(w.heap.size, 26, #[.int .i64 m.fountains, .slice Av nv cv, .slice Aa na ca, .slice At nt ct]), (G22, 67, #[.int .i64 x.kind, .int .i64 x.fr, .int .i64 x.to, .int .i64 x.drops]), (G25, 110, #[.int .i64 (heldAt s 0), .int .i64 (heldAt s 1), .int .i64 (heldAt s 2), .int .i64 (heldAt s 3)]), (bN, 30, #[.int .i64 lo, .int .i64 hi])] ∧ BR W2 W N G rs bs ∧ (lb = true ↔ LdTo m fountain L x all t s k0)) ∧ FrT7 (.agg #[.int .i64 m.fountains, .slice Av nv cv, .slice Aa na ca, .slice At nt ct]) (.int .i64 fountain) (.pointer (some ⟨w.heap.size, 0, none⟩)) (.slice none 0 0) (.bool false) (.slice (some ⟨bl, ol, none⟩) n c0) (.bool true) (.int .i64 (N : Int)) (.slice (some ⟨G, 0, none⟩) n n) (.int .i64 (t : Int)) (.pointer (some ⟨G22, 0, none⟩)) (.int .i64 (c : Int)) (.pointer (some ⟨G25, 0, none⟩)) (.pointer (some ⟨bN, 0, none⟩)) (.bool lb) (.int .i64 k0) a) (fun a _ => (hi + 1 - intOf (a.tmps.getD 24 undef)).toNat) ?_ ?_
      ·exact ⟨lo, false, Lib.hid ⟨Int.le_refl _, .inr rfl, HLay.out, HBR.out, ⟨fun h => (by cases h), fun h => (by rw [← HLO.out] at h; exact absurd h LdTo.zero)⟩⟩, by constructor⟩
      clear HLay HBR
      rintro a W ⟨k0, lb, HS, ha⟩
      cases ha
      have HLay := Lib.hid HS.out.2.2.1
      have HBR := Lib.hid HS.out.2.2.2.1
      by_cases hle : k0 ≤ hi
      ·
       have hkb := (spanR_bd HOK.out HL.out HX.out HAT.out.ha HFW.out).2 k0
       rw [HSD.out, HLO.out, HHI.out] at hkb
       replace hkb := hkb HS.out.1 hle
       have hkz : 0 ≤ k0 ∧ k0 ≤ 2000 := by have := HAT.out.size; dsimp only at this; omega
       have HKZ := Lib.hid hkz
       clear hkb
       cases lb with
       | true =>
        have x3_0 := (HLay.out.blk 3 rfl).cell 0
        have x3_1 := (HLay.out.blk 3 rfl).cell 1
        have l3_ := HLay.out.lt 3 rfl
        gi_upto_region 39 with fail
        clear x3_0 x3_1 l3_
        refine wpIn_flow_old [([true, true, true, true, true, true, true, true, true, true, true, true], 12), ([], 13)] [false, false, false, false, false, false, false, false, false, false, false, false, false, false, true, true, true, true] [] (by kernel_rfl) (by kernel_rfl) (by kernel_rfl) (below_drewN (Below.refl _ _) 1) ?_
        refine wpFlow_cons (A := ?AF9) rfl ?hq9 ?_
        case hq9 =>
         rintro σ hσ of hof hcl
         have HOF := Lib.hid hof
         have HCL := Lib.hid hcl
         clear hof hcl
         have c0_ : ∀ z, (of z).cell? ⟨w.heap.size, 0, none⟩ = some (.int .i64 m.fountains) := fun z => ((HLay.out.below (HOF.out z)).blk 0 rfl).cell 0
         have c1_ : ∀ z, (of z).cell? ⟨w.heap.size, 1, none⟩ = some (.slice Av nv cv) := fun z => ((HLay.out.below (HOF.out z)).blk 0 rfl).cell 1
         have c2_ : ∀ z, (of z).cell? ⟨w.heap.size, 2, none⟩ = some (.slice Aa na ca) := fun z => ((HLay.out.below (HOF.out z)).blk 0 rfl).cell 2
         have c3_ : ∀ z, (of z).cell? ⟨w.heap.size, 3, none⟩ = some (.slice At nt ct) := fun z => ((HLay.out.below (HOF.out z)).blk 0 rfl).cell 3
         have hfw : ∀ f, Fence.wide.fn f := fun _ => trivial
         simp only [pickB]
         iterate 12 (gi_big_quiet_step (fail))
         refine wpQuietIn_nil ?_
         exact rfl
        intro W29 hW
        replace HLay := Lib.hid (HLay.out.below hW)
        replace HBR := Lib.hid (HBR.out.below hW)
        clear hW
        gi_wp2
        refine ⟨trivial, ?_⟩
        gi_wp2
        refine ⟨trivial, Below.refl _ _, ?_⟩
        refine wpFlow_cons rfl Quietly.none ?_
        intro W30 hW
        replace HLay := Lib.hid (HLay.out.below hW)
        replace HBR := Lib.hid (HBR.out.below hW)
        clear hW
        gi_wp2
        refine ⟨trivial, ?_⟩
        gi_wp2
        refine ⟨trivial, Below.refl _ _, ?_⟩
        refine wpFlow_nil (A := ?AF10) ?hq10 ?_
        case hq10 =>
         rintro σ hσ of hof hcl
         have HOF := Lib.hid hof
         have HCL := Lib.hid hcl
         clear hof hcl
         have c0_ : ∀ z, (of z).cell? ⟨w.heap.size, 0, none⟩ = some (.int .i64 m.fountains) := fun z => ((HLay.out.below (HOF.out z)).blk 0 rfl).cell 0
         have c1_ : ∀ z, (of z).cell? ⟨w.heap.size, 1, none⟩ = some (.slice Av nv cv) := fun z => ((HLay.out.below (HOF.out z)).blk 0 rfl).cell 1
         have c2_ : ∀ z, (of z).cell? ⟨w.heap.size, 2, none⟩ = some (.slice Aa na ca) := fun z => ((HLay.out.below (HOF.out z)).blk 0 rfl).cell 2
         have c3_ : ∀ z, (of z).cell? ⟨w.heap.size, 3, none⟩ = some (.slice At nt ct) := fun z => ((HLay.out.below (HOF.out z)).blk 0 rfl).cell 3
         have hfw : ∀ f, Fence.wide.fn f := fun _ => trivial
         simp only [pickB]
         iterate 4 (gi_big_quiet_step (fail))
         refine wpQuietIn_nil ?_
         exact rfl
        intro W31 hW
        replace HLay := Lib.hid (HLay.out.below hW)
        replace HBR := Lib.hid (HBR.out.below hW)
        clear hW
        simp only [pickB]
        refine wpT_nil ?_
        gi_wp2
        refine ⟨⟨k0 + 1, true, Lib.hid ⟨by have := HS.out.1; omega, .inl (by omega), HLay.out.sub (by intro b hb; simp only [List.mem_cons, List.not_mem_nil, or_false] at hb ⊢; rcases hb with rfl | rfl | rfl | rfl <;> simp), HBR.out, ⟨fun _ => (LdTo.step (by rw [HLO.out]; exact HS.out.1)).2 (.inl (HS.out.2.2.2.2.1 (by first | rfl | trivial))), fun _ => rfl⟩⟩, by constructor⟩, ?_⟩
        simp [intOf] <;> omega
       | false =>
        have hmc := moved_code (k := k0) HOK.out HL.out HNN.out HX.out HAT.out.ha HFW.out (by rw [HSD.out, HLO.out]; exact HS.out.1) (by rw [HSD.out, HHI.out]; exact hle)
        rw [HSD.out] at hmc
        obtain ⟨s2, hs2⟩ : ∃ s2, movedR m x s k0 = s2 := ⟨_, rfl⟩
        rw [hs2] at hmc
        obtain ⟨hw2, d, hd1, hd2, hd3⟩ := hmc
        have HS2 := Lib.hid hs2
        have HW2 := Lib.hid hw2
        have HD1 := Lib.hid hd1
        have HD2 := Lib.hid hd2
        have HD3 := Lib.hid hd3
        clear hs2 hw2 hd1 hd2 hd3
        obtain ⟨row2, bv2, hrow2, hbv2, hbP2⟩ := HTAB.out.look (i := t + 1) (c := d) (by have := HN.out; omega) HD2.out
        obtain ⟨r2, hr2⟩ : ∃ r, rs[t + 1]? = some r := ⟨_, List.getElem?_eq_getElem (by have h1 := HBR.out.len; have h2 := HTAB.out.len; have := HN.out; omega)⟩
        have HRW2 := Lib.hid hrow2
        have HBV2 := Lib.hid hbv2
        have HBP2 := Lib.hid hbP2
        have HRR2 := Lib.hid hr2
        clear hrow2 hbv2 hbP2 hr2
        have x3_0 := (HLay.out.blk 3 rfl).cell 0
        have x3_1 := (HLay.out.blk 3 rfl).cell 1
        have l3_ := HLay.out.lt 3 rfl
        gi_upto_region 39 with fail
        clear x3_0 x3_1 l3_
        refine wpIn_flow_old [([true, true, true, true, true, true, true, true, true, true, true, true], 12), ([], 13)] [false, false, false, false, false, false, false, false, false, false, false, false, false, false, true, true, true, true] [] (by kernel_rfl) (by kernel_rfl) (by kernel_rfl) (below_drewN (Below.refl _ _) 1) ?_
        refine wpFlow_cons (A := ?AF11) rfl ?hq11 ?_
        case hq11 =>
         rintro σ hσ of hof hcl
         have HOF := Lib.hid hof
         have HCL := Lib.hid hcl
         clear hof hcl
         have c0_ : ∀ z, (of z).cell? ⟨w.heap.size, 0, none⟩ = some (.int .i64 m.fountains) := fun z => ((HLay.out.below (HOF.out z)).blk 0 rfl).cell 0
         have c1_ : ∀ z, (of z).cell? ⟨w.heap.size, 1, none⟩ = some (.slice Av nv cv) := fun z => ((HLay.out.below (HOF.out z)).blk 0 rfl).cell 1
         have c2_ : ∀ z, (of z).cell? ⟨w.heap.size, 2, none⟩ = some (.slice Aa na ca) := fun z => ((HLay.out.below (HOF.out z)).blk 0 rfl).cell 2
         have c3_ : ∀ z, (of z).cell? ⟨w.heap.size, 3, none⟩ = some (.slice At nt ct) := fun z => ((HLay.out.below (HOF.out z)).blk 0 rfl).cell 3
         have c4_ : ∀ z, (of z).cell? ⟨G22, 0, none⟩ = some (.int .i64 x.kind) := fun z => ((HLay.out.below (HOF.out z)).blk 1 rfl).cell 0
         have c5_ : ∀ z, (of z).cell? ⟨G22, 1, none⟩ = some (.int .i64 x.fr) := fun z => ((HLay.out.below (HOF.out z)).blk 1 rfl).cell 1
         have c6_ : ∀ z, (of z).cell? ⟨G22, 2, none⟩ = some (.int .i64 x.to) := fun z => ((HLay.out.below (HOF.out z)).blk 1 rfl).cell 2
         have c7_ : ∀ z, (of z).cell? ⟨G22, 3, none⟩ = some (.int .i64 x.drops) := fun z => ((HLay.out.below (HOF.out z)).blk 1 rfl).cell 3
         have c8_ : ∀ z, (of z).cell? ⟨G25, 0, none⟩ = some (.int .i64 (heldAt s 0)) := fun z => ((HLay.out.below (HOF.out z)).blk 2 rfl).cell 0
         have c9_ : ∀ z, (of z).cell? ⟨G25, 1, none⟩ = some (.int .i64 (heldAt s 1)) := fun z => ((HLay.out.below (HOF.out z)).blk 2 rfl).cell 1
         have c10_ : ∀ z, (of z).cell? ⟨G25, 2, none⟩ = some (.int .i64 (heldAt s 2)) := fun z => ((HLay.out.below (HOF.out z)).blk 2 rfl).cell 2
         have c11_ : ∀ z, (of z).cell? ⟨G25, 3, none⟩ = some (.int .i64 (heldAt s 3)) := fun z => ((HLay.out.below (HOF.out z)).blk 2 rfl).cell 3
         have hfw : ∀ f, Fence.wide.fn f := fun _ => trivial
         have q0 : ∀ z, (of z).cell? ⟨G, t + 1, none⟩ = some (.slice (some ⟨r2, 0, none⟩) N N) := fun z => (HBR.out.below (HOF.out z)).rowCell HRR2.out
         have q1 : ∀ z, (of z).cell? ⟨r2, d, none⟩ = some (.bool bv2) := fun z => (HBR.out.below (HOF.out z)).cell HRR2.out HRW2.out HBV2.out
         have hkk : t + 1 < n := by have := HN.out; omega
         have hd2 := HD2.out
         have hn9 := HN9.out
         have hk13 := HN13.out
         simp only [pickB]
         iterate 12 (gi_big_quiet_step (fail))
         refine wpQuietIn_nil ?_
         exact rfl
        intro W32 hW
        replace HLay := Lib.hid (HLay.out.below hW)
        replace HBR := Lib.hid (HBR.out.below hW)
        clear hW
        gi_wp2
        refine ⟨trivial, (callsIn_wide.2 (callsIn_wide.1 (rmoved_in Av nv cv Aa na ca At nt ct m x s k0 all W32 (HM.out.up HLay.out.1) HAT.out.ok HFI.out.lh HRG.out HKZ.out HV.out.1))).mono ?_⟩
        rintro e W33 ⟨rfl, hb⟩
        rw [HS2.out]
        replace HLay := Lib.hid (HLay.out.below hb)
        replace HBR := Lib.hid (HBR.out.below hb)
        gi_wp2
        refine ⟨trivial, hb, ?_⟩
        clear hb
        refine wpFlow_cons rfl Quietly.none ?_
        intro W34 hW
        replace HLay := Lib.hid (HLay.out.below hW)
        replace HBR := Lib.hid (HBR.out.below hW)
        clear hW
        gi_wp2
        refine ⟨trivial, (callsIn_wide.2 (callsIn_wide.1 (rcode_in Av nv cv Aa na ca At nt ct m s2 W34 (HM.out.up HLay.out.1) HZ.out HV.out.1 HW2.out))).mono ?_⟩
        rintro e W35 ⟨rfl, hb⟩
        rw [show codeR (zsM m) (asK s2 m.vessels.length) = (d : Int) from HD1.out]
        replace HLay := Lib.hid (HLay.out.below hb)
        replace HBR := Lib.hid (HBR.out.below hb)
        gi_wp2
        refine ⟨trivial, hb, ?_⟩
        clear hb
        refine wpFlow_nil (A := ?AF12) ?hq12 ?_
        case hq12 =>
         rintro σ hσ of hof hcl
         have HOF := Lib.hid hof
         have HCL := Lib.hid hcl
         clear hof hcl
         have c0_ : ∀ z, (of z).cell? ⟨w.heap.size, 0, none⟩ = some (.int .i64 m.fountains) := fun z => ((HLay.out.below (HOF.out z)).blk 0 rfl).cell 0
         have c1_ : ∀ z, (of z).cell? ⟨w.heap.size, 1, none⟩ = some (.slice Av nv cv) := fun z => ((HLay.out.below (HOF.out z)).blk 0 rfl).cell 1
         have c2_ : ∀ z, (of z).cell? ⟨w.heap.size, 2, none⟩ = some (.slice Aa na ca) := fun z => ((HLay.out.below (HOF.out z)).blk 0 rfl).cell 2
         have c3_ : ∀ z, (of z).cell? ⟨w.heap.size, 3, none⟩ = some (.slice At nt ct) := fun z => ((HLay.out.below (HOF.out z)).blk 0 rfl).cell 3
         have c4_ : ∀ z, (of z).cell? ⟨G22, 0, none⟩ = some (.int .i64 x.kind) := fun z => ((HLay.out.below (HOF.out z)).blk 1 rfl).cell 0
         have c5_ : ∀ z, (of z).cell? ⟨G22, 1, none⟩ = some (.int .i64 x.fr) := fun z => ((HLay.out.below (HOF.out z)).blk 1 rfl).cell 1
         have c6_ : ∀ z, (of z).cell? ⟨G22, 2, none⟩ = some (.int .i64 x.to) := fun z => ((HLay.out.below (HOF.out z)).blk 1 rfl).cell 2
         have c7_ : ∀ z, (of z).cell? ⟨G22, 3, none⟩ = some (.int .i64 x.drops) := fun z => ((HLay.out.below (HOF.out z)).blk 1 rfl).cell 3
         have c8_ : ∀ z, (of z).cell? ⟨G25, 0, none⟩ = some (.int .i64 (heldAt s 0)) := fun z => ((HLay.out.below (HOF.out z)).blk 2 rfl).cell 0
         have c9_ : ∀ z, (of z).cell? ⟨G25, 1, none⟩ = some (.int .i64 (heldAt s 1)) := fun z => ((HLay.out.below (HOF.out z)).blk 2 rfl).cell 1
         have c10_ : ∀ z, (of z).cell? ⟨G25, 2, none⟩ = some (.int .i64 (heldAt s 2)) := fun z => ((HLay.out.below (HOF.out z)).blk 2 rfl).cell 2
         have c11_ : ∀ z, (of z).cell? ⟨G25, 3, none⟩ = some (.int .i64 (heldAt s 3)) := fun z => ((HLay.out.below (HOF.out z)).blk 2 rfl).cell 3
         have hfw : ∀ f, Fence.wide.fn f := fun _ => trivial
         have q0 : ∀ z, (of z).cell? ⟨G, t + 1, none⟩ = some (.slice (some ⟨r2, 0, none⟩) N N) := fun z => (HBR.out.below (HOF.out z)).rowCell HRR2.out
         have q1 : ∀ z, (of z).cell? ⟨r2, d, none⟩ = some (.bool bv2) := fun z => (HBR.out.below (HOF.out z)).cell HRR2.out HRW2.out HBV2.out
         have hkk : t + 1 < n := by have := HN.out; omega
         have hd2 := HD2.out
         have hn9 := HN9.out
         have hk13 := HN13.out
         simp only [pickB]
         iterate 4 (gi_big_quiet_step (fail))
         refine wpQuietIn_nil ?_
         exact rfl
        intro W36 hW
        replace HLay := Lib.hid (HLay.out.below hW)
        replace HBR := Lib.hid (HBR.out.below hW)
        clear hW
        simp only [pickB]
        refine wpT_nil ?_
        gi_wp2
        refine ⟨⟨k0 + 1, bv2, Lib.hid ⟨by have := HS.out.1; omega, .inl (by omega), HLay.out.sub (by intro b hb; simp only [List.mem_cons, List.not_mem_nil, or_false] at hb ⊢; rcases hb with rfl | rfl | rfl | rfl <;> simp), HBR.out, (HBP2.out.trans QM.next).trans ⟨fun h => (LdTo.step (by rw [HLO.out]; exact HS.out.1)).2 (.inr (by rw [HS2.out, ← HD3.out]; exact h)), fun h => by
          rcases (LdTo.step (by rw [HLO.out]; exact HS.out.1)).1 h with h | h
          ·have := HS.out.2.2.2.2.2 h; cases this
          ·rw [HS2.out, ← HD3.out] at h; exact h⟩⟩, by constructor⟩, ?_⟩
        simp [intOf] <;> omega
      ·
       have x3_0 := (HLay.out.blk 3 rfl).cell 0
       have x3_1 := (HLay.out.blk 3 rfl).cell 1
       have l3_ := HLay.out.lt 3 rfl
       have q0 := HBR.out.rowCell HRR.out
       have q1 := HBR.out.cell HRR.out HRW.out HBV.out
       have q0l := HBR.out.top.lt
       have q1l := (HBR.out.row _ _ _ HRR.out HRW.out).1.lt
       have q1f := (HBR.out.row _ _ _ HRR.out HRW.out).1.frozen c
       gi_wp2
       clear x3_0 x3_1 l3_
       clear q0 q1 q0l q1l q1f
       have hlb : lb = true ↔ Truth m fountain L t (decN m c) := by rw [HS.out.2.2.2.2, HSD.out]; exact LdTo.fin HOK.out HL.out HX.out HAT.out.ha HAT.out.ok (by rw [← HSD.out]; exact HFW.out) (by rw [HHI.out]; omega) (by rw [HHI.out, HLO.out]; exact HS.out.2.1)
       have HLB := Lib.hid hlb
       clear hlb
       have hne9 : ∀ b ∈ ([(w.heap.size, 26, #[.int .i64 m.fountains, .slice Av nv cv, .slice Aa na ca, .slice At nt ct]), (G22, 67, #[.int .i64 x.kind, .int .i64 x.fr, .int .i64 x.to, .int .i64 x.drops]), (G25, 110, #[.int .i64 (heldAt s 0), .int .i64 (heldAt s 1), .int .i64 (heldAt s 2), .int .i64 (heldAt s 3)]), (bN, 30, #[.int .i64 lo, .int .i64 hi])] : List (Nat × TypeId × Array Value)), b.2.1 ≠ 4 := by intro b hb; simp only [List.mem_cons, List.not_mem_nil, or_false] at hb; rcases hb with rfl | rfl | rfl | rfl <;> (dsimp only; decide)
       have HLS := Lib.hid (lay_farT HLay.out (HBR.out.row _ _ _ HRR.out HRW.out).1 (Nat.le_trans HL2.out.1.size (HBR.out.row _ _ _ HRR.out HRW.out).2.2.1) hne9 c (.bool lb))
       have HBS := Lib.hid (HBR.out.put (c := c) HRR.out HRW.out lb)
       have HTS := Lib.hid (qm_put HRW.out HLB.out HTAB.out)
       generalize W.setCell ⟨r, c, none⟩ (.bool lb) = S2 at *
       replace HLay := HLS
       replace HBR := HBS
       replace HTAB := HTS
       clear HLS HBS HTS HRW HBV HBP HRR hne9
       gi_wp2
       refine ⟨⟨c + 1, Lib.hid ⟨rs, _, hlc, HLay.out.sub (by intro b hb; simp only [List.mem_cons, List.not_mem_nil, or_false] at hb ⊢; rcases hb with rfl | rfl <;> simp), HBR.out, HTAB.out⟩, by rw [show ((c + 1 : Nat) : Int) = (c : Int) + 1 from by omega]; constructor⟩, ?_⟩
       simp [intOf] <;> omega
    ·
     obtain rfl : c = N := by have := HS.out.1; omega
     gi_wp2
     have hAt := HAV.out
     clear HAV
     subst hAt
     refine ⟨⟨(t : Int) - 1, Lib.hid ⟨t, rs, bs, rfl, Nat.le_of_lt hlt, HLay.out.sub (by intro b hb; simp only [List.mem_cons, List.not_mem_nil, or_false] at hb ⊢; rcases hb with rfl <;> simp), HBR.out, qm_qo HTAB.out⟩, by constructor⟩, ?_⟩
     simp [intOf] <;> omega
   ·
    obtain rfl : j = 0 := by have := HS.out.1; omega
    have HTP := Lib.hid (HTAB.out.congr (P' := fun i c => Truth m fountain L i (decN m c)) fun i c _ _ => by unfold QO; rw [if_pos (Nat.zero_le _)])
    replace HTAB := HTP
    clear HTP HS
    obtain ⟨row, bv, hrow, hbv, hbP⟩ := HTAB.out.look (i := 0) (c := 0) (by have := HN.out; omega) (by have := HN9.out; omega)
    obtain ⟨r, hr⟩ : ∃ r, rs[0]? = some r := ⟨_, List.getElem?_eq_getElem (by have h1 := HBR.out.len; have h2 := HTAB.out.len; have := HN.out; omega)⟩
    have HRW := Lib.hid hrow
    have HBV := Lib.hid hbv
    have HBP := Lib.hid hbP
    have HRR := Lib.hid hr
    clear hrow hbv hbP hr
    gi_upto_region 41 with fail
    refine wpIn_flow_old [] [true, true, true, true, true, true, true, true] [] (by kernel_rfl) (by kernel_rfl) (by kernel_rfl) (below_drewN (Below.refl _ _) 1) ?_
    refine wpFlow_nil (A := ?AF13) ?hq13 ?_
    case hq13 =>
     rintro σ hσ of hof hcl
     have HOF := Lib.hid hof
     have HCL := Lib.hid hcl
     clear hof hcl
     have hfw : ∀ f, Fence.wide.fn f := fun _ => trivial
     have q0 : ∀ z, (of z).cell? ⟨G, 0, none⟩ = some (.slice (some ⟨r, 0, none⟩) N N) := fun z => (HBR.out.below (HOF.out z)).rowCell HRR.out
     have q1 : ∀ z, (of z).cell? ⟨r, 0, none⟩ = some (.bool bv) := fun z => (HBR.out.below (HOF.out z)).cell HRR.out HRW.out HBV.out
     have hn1 : 0 < n := by have := HN.out; omega
     have hN1 : 0 < N := by have := HN9.out; omega
     simp only [pickB]
     iterate 8 (gi_big_quiet_step (fail))
     refine wpQuietIn_nil ?_
     exact rfl
    intro W37 hW
    replace HLay := Lib.hid (HLay.out.below hW)
    replace HBR := Lib.hid (HBR.out.below hW)
    clear hW
    simp only [pickB]
    refine wpT_nil ?_
    gi_wp2
    refine bodyPost_ret (v := .tuple #[.slice (some ⟨G, 0, none⟩) n n, .bool bv]) (by simp [results, Try.results47, go_sem]) rfl ?_
    exact ⟨L, rs, bs, G, n, N, bv, rfl, HNN.out, HN9.out, HL.out, by rw [HLA.out]; exact HN.out, HBR.out.base HLay.out.1 HL2.out.1.size, HTAB.out, by have h1 := HBP.out; rw [dec_zero HOK.out HNN.out HN9.out.1] at h1; exact h1⟩

end Go.Proofs.Ythofngceiecniaa
/- Words for the answer's Of, Moved, Gone. -/
namespace Go.Proofs.Ythofngceiecniaa
open Go.RowKit

/-- A block of another type is written. -/
theorem BR.other {w W W' : World} {N g b : Nat} {rs : List Nat} {bs : List (List Bool)} {t : TypeId} {cs : Array Value} (h : BR w W N g rs bs) (hg : W.grownBy W' (some b)) (hb : Blk W b t cs) (h1 : t ≠ 4) (h2 : t ≠ 109) (hge : w.heap.size ≤ b) : BR w W' N g rs bs :=
 ⟨h.bel.grown hg h.bel.size (fun k e => by cases e; exact hge), h.top.grown hg (fun e => blk_ne hb h.top h2 (Option.some.inj e).symm), h.ge, h.len, fun i r c k1 k2 => ⟨(h.row i r c k1 k2).1.grown hg (fun e => blk_ne hb (h.row i r c k1 k2).1 h1 (Option.some.inj e).symm), (h.row i r c k1 k2).2⟩, h.nodup⟩
theorem ix_held (s : Held) {q : Nat} (hq : q < 4) (z : World) : (Instr.index 110 (.agg #[.int .i64 (heldAt s 0), .int .i64 (heldAt s 1), .int .i64 (heldAt s 2), .int .i64 (heldAt s 3)]) (.int .i64 (q : Int))).run Try.prog z = .ok (.int .i64 (heldAt s (q : Int))) z := by
 have h0 : (Instr.index 110 (.agg #[.int .i64 (heldAt s 0), .int .i64 (heldAt s 1), .int .i64 (heldAt s 2), .int .i64 (heldAt s 3)]) (.int .i64 ((0 : Nat) : Int))).run Try.prog z = .ok (.int .i64 (heldAt s ((0 : Nat) : Int))) z := by kernel_rfl
 have h1 : (Instr.index 110 (.agg #[.int .i64 (heldAt s 0), .int .i64 (heldAt s 1), .int .i64 (heldAt s 2), .int .i64 (heldAt s 3)]) (.int .i64 ((1 : Nat) : Int))).run Try.prog z = .ok (.int .i64 (heldAt s ((1 : Nat) : Int))) z := by kernel_rfl
 have h2 : (Instr.index 110 (.agg #[.int .i64 (heldAt s 0), .int .i64 (heldAt s 1), .int .i64 (heldAt s 2), .int .i64 (heldAt s 3)]) (.int .i64 ((2 : Nat) : Int))).run Try.prog z = .ok (.int .i64 (heldAt s ((2 : Nat) : Int))) z := by kernel_rfl
 have h3 : (Instr.index 110 (.agg #[.int .i64 (heldAt s 0), .int .i64 (heldAt s 1), .int .i64 (heldAt s 2), .int .i64 (heldAt s 3)]) (.int .i64 ((3 : Nat) : Int))).run Try.prog z = .ok (.int .i64 (heldAt s ((3 : Nat) : Int))) z := by kernel_rfl
 match q, hq with
 | 0, _ => exact h0
 | 1, _ => exact h1
 | 2, _ => exact h2
 | 3, _ => exact h3
/-- One of the boxes written, the last one of three. -/
theorem lay_two {w W : World} {g : Nat} {t0 t1 t2 : TypeId} {g0 g1 : Nat} {c0 c1 : Array Value} {a b : Value} (h : Lay w W [(g0, t0, c0), (g1, t1, c1), (g, t2, #[a, b])]) (h0 : g0 ≠ g) (h1 : g1 ≠ g) (v0 v1 : Value) :
  Lay w ((W.setCell ⟨g, 0, none⟩ v0).setCell ⟨g, 1, none⟩ v1) [(g0, t0, c0), (g1, t1, c1), (g, t2, #[v0, v1])] := by
 have k1 := Lay.setLast (bs := [(g0, t0, c0), (g1, t1, c1)]) h (by intro p hp; simp only [List.mem_cons, List.not_mem_nil, or_false] at hp; rcases hp with rfl | rfl <;> assumption) 0 v0
 exact Lay.setLast (bs := [(g0, t0, c0), (g1, t1, c1)]) k1 (by intro p hp; simp only [List.mem_cons, List.not_mem_nil, or_false] at hp; rcases hp with rfl | rfl <;> assumption) 1 v1
theorem grown_two (W : World) (g : Nat) (v0 v1 : Value) : W.grownBy ((W.setCell ⟨g, 0, none⟩ v0).setCell ⟨g, 1, none⟩ v1) (some g) :=
 grown_setCell (grown_setCell (grown_refl W (some g)) (p := ⟨g, 0, none⟩) (.inl rfl) v0) (p := ⟨g, 1, none⟩) (.inl rfl) v1
theorem rowLen {w W : World} {N g n i r : Nat} {rs : List Nat} {bs : List (List Bool)} {P : Nat → Nat → Prop} (h : BR w W N g rs bs) (hT : Tab N n bs P) (hi : i < n) : ∃ r row, rs[i]? = some r ∧ bs[i]? = some row := by
 have h1 := h.len
 have h2 := hT.len
 exact ⟨_, _, List.getElem?_eq_getElem (by omega : i < rs.length), List.getElem?_eq_getElem (by omega : i < bs.length)⟩
/-- A row's cell. -/
theorem rowAt {w W : World} {N g n i r c : Nat} {rs : List Nat} {bs : List (List Bool)} {row : List Bool} {P : Nat → Nat → Prop} (h : BR w W N g rs bs) (hT : Tab N n bs P) (hr : rs[i]? = some r) (hb : bs[i]? = some row) (hc : c < N) : ∃ v : Bool, W.cell? ⟨r, c, none⟩ = some (.bool v) ∧ (v = true ↔ P i c) ∧ r < W.heap.size := by
 have h1 := hT.rows _ _ hb
 have h2 : row[c]? = some (row[c]'(by omega)) := List.getElem?_eq_getElem _
 exact ⟨_, h.cell hr hb h2, hT.is _ _ _ _ hb h2, (h.row i r row hr hb).1.lt⟩
theorem mvq_pos {m : Mix} {f : Int} {A : List Held} {x : MAct} {all : Held} {t c0 : Nat} {k0 n : Int} (hok : okMix m = true) (hA : allM m m.acts = some A) (hx : m.acts[t]? = some x) (ha : A[t]? = some all) (ht : Truth m f A t (decN m c0)) (h : MvQ m f A x all t c0 k0 n) : 0 ≤ n := by
 rcases h with ⟨c, _, h1, h2, _⟩ | ⟨h2, _⟩
 ·have := (spanR_bd hok hA hx ha (Fin.fwd h1)).1
  omega
 ·have := (spanR_bd hok hA hx ha (Fin.fwd ht)).1
  omega
/-- So much of what is held, the first ones together. -/
def pS (s : Held) : Nat → Int
 | 0 => 0
 | j + 1 => pS s j + heldAt s (j : Int)
theorem pS_four (s : Held) : pS s 4 = sumH s := by
 show 0 + heldAt s 0 + heldAt s 1 + heldAt s 2 + heldAt s 3 = _
 unfold sumH
 omega
theorem pS_bd {s : Held} (h : ∀ i : Nat, i < 4 → 0 ≤ heldAt s (i : Int) ∧ heldAt s (i : Int) ≤ 12) : ∀ {j : Nat}, j ≤ 4 → 0 ≤ pS s j ∧ pS s j ≤ 12 * j
 | 0, _ => ⟨Int.le_refl _, Int.le_refl _⟩
 | j + 1, hj => by
  have h1 := pS_bd h (j := j) (by omega)
  have h2 := h j (by omega)
  unfold pS
  omega
theorem filled_bd {m : Mix} {L : List Held} {f : Int} (hk : okMix m = true) (hL : allM m m.acts = some L) : 0 ≤ filledM m f ∧ filledM m f ≤ 24000 := by
 have hT : TbOk ⟨0, none, 0, 0, none, 0, 0, none, 0, 0, none, 0, 0, m, L⟩ := ⟨hk, hL⟩
 have h := filledK_bd (f := f) hT (k := m.acts.length) (Nat.le_refl _)
 dsimp only at h
 rw [filledK_all rfl] at h
 have := (okMix_vess hk).2.1
 omega
theorem act_ok1 {m : Mix} {act f : Int} (hk : okMix m = true) (h : (1 ≤ act ∧ act ≤ m.acts.length) ∧ 1 ≤ f ∧ f ≤ m.fountains) : actM m act f = 0 := by unfold actM; rw [if_pos hk, if_pos h]
theorem act_bad1 {m : Mix} {act f : Int} (hk : okMix m = true) (h : ¬ ((1 ≤ act ∧ act ≤ m.acts.length) ∧ 1 ≤ f ∧ f ≤ m.fountains)) : actM m act f = 2 := by unfold actM; rw [if_pos hk, if_neg h]
theorem act_no {m : Mix} {act f : Int} (hk : okMix m = false) : actM m act f = 40 := by unfold actM; rw [if_neg (by rw [hk]; decide)]
theorem gone_ok1 {m : Mix} {f : Int} (hk : okMix m = true) (h : 1 ≤ f ∧ f ≤ m.fountains) : goneM m f = 0 := by unfold goneM; rw [if_pos hk, if_pos h]
theorem gone_bad1 {m : Mix} {f : Int} (hk : okMix m = true) (h : ¬ (1 ≤ f ∧ f ≤ m.fountains)) : goneM m f = 2 := by unfold goneM; rw [if_pos hk, if_neg h]
theorem gone_no {m : Mix} {f : Int} (hk : okMix m = false) : goneM m f = 40 := by unfold goneM; rw [if_neg (by rw [hk]; decide)]
end Go.Proofs.Ythofngceiecniaa
