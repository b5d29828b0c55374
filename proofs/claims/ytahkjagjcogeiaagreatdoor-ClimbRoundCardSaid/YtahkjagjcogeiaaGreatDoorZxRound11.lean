/- Part 11 of the texts of this claim, joined. -/
import Derived.Test.YtahkjagjcogeiaaGreatDoorZxRound10
set_option linter.unusedVariables false
/- The answer's Stops: whether stops are right for a base. -/
namespace Go.Proofs.YtahkjagjcogeiaaGreatDoor
open Go.RowKit Go.Shelf

def stopsB (t : Town) (u : Int) (st : List Int) : Bool := decide (st.length ≤ 6 ∧ (∀ x ∈ st, x ∈ t.places ∧ x ≠ u) ∧ st.Nodup)
theorem stopsB_round (t : Town) (u : Int) (st : List Int) : roundE t u st = if askE t [u] = 0 then (if stopsB t u st = true then 0 else 33) else askE t [u] := by
 have e : (stopsB t u st = true) = (st.length ≤ 6 ∧ hasB t st = true ∧ u ∉ st ∧ st.Nodup) := by
  apply propext
  unfold stopsB
  rw [decide_eq_true_eq]
  constructor
  ·rintro ⟨h1, h2, h3⟩
   refine ⟨h1, ?_, fun h => (h2 u h).2 rfl, h3⟩
   unfold hasB
   simp only [Bool.not_eq_true', List.any_eq_false]
   intro x hx
   rw [memI_iff.2 (h2 x hx).1]
   decide
  ·rintro ⟨h1, h2, h3, h4⟩
   exact ⟨h1, fun x hx => ⟨hasB_mem h2 x hx, fun e => h3 (by rw [← e]; exact hx)⟩, h4⟩
 unfold roundE
 simp only [e]

set_option maxRecDepth 100000 in
set_option maxHeartbeats 8000000 in
theorem rstops_in (A : Option Addr) (n c : Nat) (A' : Option Addr) (m d : Nat) (t : Town) (u : Int) (A2 : Option Addr) (n2 c2 : Nat) (st : List Int) (w : World) (hn : n ≤ 1000) (hn2 : n2 ≤ 1000)
  (ht : IntsAt w w.heap.size A n t.places) (hr : IntsAt w w.heap.size A2 n2 st) :
  CallsIn Fence.wide 9 Tryz.prog 33 #[.agg #[.slice A n c, .slice A' m d], .int .i64 u, .slice A2 n2 c2] w fun e w' => e = .returned (.bool (stopsB t u st)) ∧ Below w.heap.size w w' := by
 have HT := Lib.hid ht
 have HR := Lib.hid hr
 have HLN := Lib.hid hr.len
 have NO := Lib.hid (fun (h : ¬ (st.length ≤ 6 ∧ (∀ x ∈ st, x ∈ t.places ∧ x ≠ u) ∧ st.Nodup)) => (show stopsB t u st = false from decide_eq_false h))
 clear ht hr
 refine callsIn_of_wp Tryz.func33 rfl trivial ?_ rfl
 simp only [Tryz.ntmps33, List.size_toArray, List.length_cons, List.length_nil, Nat.reduceAdd, Nat.reduceSub, Array.replicate_succ, Array.replicate_zero, List.push_toArray, List.append_toArray, List.nil_append, List.cons_append]
 gi_upto_region 1 with fail
 have HLay := Lib.hid (Lay.one w 25 #[.slice A n c, .slice A' m d])
 generalize (w.alloc (.cells #[.slice A n c, .slice A' m d] 25)) = w0 at *
 by_cases h6 : 6 < n2
 ·have h6' : (6 : Int) < (n2 : Int) := by omega
  gi_wp2
  refine bodyPost_ret (v := .bool false) (by simp [results, Tryz.results33, go_sem]) rfl ⟨?_, HLay.out.1⟩
  rw [NO.out (fun h => by have := HLN.out; omega)]
 ·have h6' : ¬ (6 : Int) < (n2 : Int) := by omega
  gi_wp2
  gi_loopw [15] (fun v15 wr => ∃ i : Nat, v15 = .int .i64 i ∧ i ≤ n2 ∧ Hid (Lay w wr [(w.heap.size, 25, #[.slice A n c, .slice A' m d])] ∧ (∀ x ∈ st.take i, x ∈ t.places ∧ x ≠ u) ∧ (st.take i).Nodup)) (fun v15 _ => n2 - (intOf v15).toNat)
  case atStart => exact ⟨0, rfl, Nat.zero_le _, Lib.hid ⟨HLay.out, fun x hx => by simp at hx, by simp⟩⟩
  case round =>
   obtain ⟨i, rfl, hi, HS⟩ := hrel
   by_cases hlt : i < n2
   ·obtain ⟨b, off, x, hA, hb, hx, hc⟩ := ((HR.out.below HS.out.1.1).more HS.out.1.1.size).cell hlt
    subst hA
    have HX := Lib.hid hx
    have hcc : wr.cell? ⟨b, off + i, none⟩ = some (.int .i64 x) := hc
    have y0 := (HS.out.1.blk 0 rfl).cell 0
    have y1 := (HS.out.1.blk 0 rfl).cell 1
    have ly := HS.out.1.lt 0 rfl
    clear hx hc
    gi_wp2
    refine ⟨trivial, (callsIn_wide.2 (place_any A n c A' m d t x wr (by unfold maxLen; omega) ((HT.out.below HS.out.1.1).more HS.out.1.1.size))).mono ?_⟩
    rintro e W1 ⟨rfl, hb1⟩
    have HL1 := Lib.hid (HS.out.1.below hb1)
    clear hb1 y0 y1 ly hcc
    obtain ⟨pl, hpl⟩ : ∃ pl, placeI t.places x = pl := ⟨_, rfl⟩
    rw [hpl]
    have HPL := Lib.hid (show pl < 0 ↔ x ∉ t.places from by
     rw [← hpl]
     cases hm : memI t.places x with
     | true => exact ⟨fun h => by have := placeI_yes hm; omega, fun h => absurd (memI_iff.1 hm) h⟩
     | false => exact ⟨(fun _ h => by rw [memI_iff.2 h] at hm; cases hm), fun _ => placeI_no hm⟩)
    clear hpl
    by_cases hp : pl < 0
    ·gi_wp2
     refine bodyPost_ret (v := .bool false) (by simp [results, Tryz.results33, go_sem]) rfl ⟨?_, HL1.out.1⟩
     rw [NO.out (fun h => HPL.out.1 hp (h.2.1 x (List.mem_of_getElem? HX.out)).1)]
    ·by_cases hxu : x = u
     ·subst hxu
      gi_wp2
      refine bodyPost_ret (v := .bool false) (by simp [results, Tryz.results33, go_sem]) rfl ⟨?_, HL1.out.1⟩
      rw [NO.out (fun h => (h.2.1 x (List.mem_of_getElem? HX.out)).2 rfl)]
     ·have hxu' : (x == u) = false := by simpa using hxu
      have HXU := Lib.hid hxu
      have HXP := Lib.hid (show x ∈ t.places from Classical.byContradiction fun h => hp (HPL.out.2 h))
      clear hxu
      gi_wp2
      gi_loopw [9] (fun v9 wr2 => ∃ k : Nat, v9 = .int .i64 k ∧ k ≤ i ∧ wr2 = W1 ∧ Hid (x ∉ st.take k)) (fun v9 _ => i - (intOf v9).toNat)
      case atStart => exact ⟨0, rfl, Nat.zero_le _, rfl, Lib.hid (by simp)⟩
      case round =>
       obtain ⟨k, rfl, hk, rfl, HK⟩ := hrel
       by_cases hki : k < i
       ·obtain ⟨b', off', y, hA', hb', hy, hc'⟩ := ((HR.out.below HL1.out.1).more HL1.out.1.size).cell (show k < n2 by omega)
        cases hA'
        have HY := Lib.hid hy
        have hcc' : wr.cell? ⟨b, off + k, none⟩ = some (.int .i64 y) := hc'
        clear hy hc'
        by_cases hyx : y = x
        ·subst hyx
         gi_wp2
         refine bodyPost_ret (v := .bool false) (by simp [results, Tryz.results33, go_sem]) rfl ⟨?_, HL1.out.1⟩
         rw [NO.out (fun h => by
          have h1 := (List.getElem?_inj (by have := HLN.out; omega) h.2.2).1 (HY.out.trans HX.out.symm)
          omega)]
        ·have hyx' : (y == x) = false := by simpa using hyx
         have HYX := Lib.hid hyx
         clear hyx
         gi_wp2
         go_roundw
         case rel =>
          refine ⟨k + 1, by go_num, by omega, by first | rfl | trivial, Lib.hid ?_⟩
          rw [← take_snocI HY.out]
          intro hm
          rcases List.mem_append.1 hm with hm | hm
          ·exact HK.out hm
          ·exact HYX.out (List.mem_singleton.1 hm).symm
         case measure => simp [intOf]; omega
       ·obtain rfl : k = i := by omega
        gi_wp2
        go_roundw
        case rel =>
         refine ⟨k + 1, by go_num, by omega, Lib.hid ⟨HL1.out, fun y hy => ?_, ?_⟩⟩
         ·rw [← take_snocI HX.out] at hy
          rcases List.mem_append.1 hy with hy | hy
          ·exact HS.out.2.1 y hy
          ·rw [List.mem_singleton.1 hy]; exact ⟨HXP.out, HXU.out⟩
         ·rw [← take_snocI HX.out, List.nodup_append]
          exact ⟨HS.out.2.2, by simp, fun a ha b hb e => HK.out (by rw [List.mem_singleton.1 hb] at e; rw [← e]; exact ha)⟩
        case measure => simp [intOf]; omega
   ·obtain rfl : i = n2 := by omega
    gi_wp2
    refine bodyPost_ret (v := .bool true) (by simp [results, Tryz.results33, go_sem]) rfl ⟨?_, HS.out.1.1⟩
    have h := HS.out.2
    rw [List.take_of_length_le (by rw [HLN.out]; exact Nat.le_refl _)] at h
    rw [show stopsB t u st = true from decide_eq_true ⟨by have := HLN.out; omega, h.1, h.2⟩]

theorem rstops_any (A : Option Addr) (n c : Nat) (A' : Option Addr) (m d : Nat) (t : Town) (u : Int) (A2 : Option Addr) (n2 c2 : Nat) (st : List Int) (w : World) (hn : n ≤ 1000) (hn2 : n2 ≤ 1000)
  (ht : IntsAt w w.heap.size A n t.places) (hr : IntsAt w w.heap.size A2 n2 st) :
  Calls Tryz.prog 33 #[.agg #[.slice A n c, .slice A' m d], .int .i64 u, .slice A2 n2 c2] w fun e w' => e = .returned (.bool (stopsB t u st)) ∧ Below w.heap.size w w' :=
 callsIn_wide.1 (rstops_in A n c A' m d t u A2 n2 c2 st w hn hn2 ht hr)

end Go.Proofs.YtahkjagjcogeiaaGreatDoor
/- The least round: plain Lean. -/
namespace Go.Proofs.YtahkjagjcogeiaaGreatDoor

/-- No more toil. -/
def LeG (x y : Leg) : Prop := x.1 < y.1 ∨ (x.1 = y.1 ∧ x.2 ≤ y.2)
theorem leG_less {x y : Leg} : lessG y x = false ↔ LeG x y := by
 unfold lessG LeG
 simp
 omega
theorem LeG.refl (x : Leg) : LeG x x := .inr ⟨rfl, Int.le_refl _⟩
theorem LeG.trans {x y z : Leg} (h : LeG x y) (h' : LeG y z) : LeG x z := by unfold LeG at *; omega
theorem LeG.add {x y u v : Leg} (h : LeG x y) (h' : LeG u v) : LeG (addG x u) (addG y v) := by unfold LeG addG at *; dsimp only; omega
theorem addG_assoc (x y z : Leg) : addG (addG x y) z = addG x (addG y z) := by simp [addG, Int.add_assoc]
section
variable {T : Int → Int → Option Leg} {base : Int}
theorem dfs_mem : ∀ (n : Nat) (o : List Int) (p : Int) (s : Leg) (l : List Int) (r : Rnd), l.length = n → (r ∈ dfs T base n o p s l ↔ ∃ q, q.Perm l ∧ r.1 = o ++ q ∧ ordG T base p s q = some r.2)
 | 0, o, p, s, l, r, hn => by
  obtain rfl : l = [] := List.eq_nil_of_length_eq_zero hn
  unfold dfs
  constructor
  ·intro h
   cases hT : T p base with
   | none => rw [hT] at h; cases h
   | some d =>
    rw [hT] at h
    simp only [List.mem_singleton] at h
    subst h
    exact ⟨[], .refl _, by simp, by simp [ordG, hT]⟩
  ·rintro ⟨q, hq, h1, h2⟩
   obtain rfl : q = [] := hq.eq_nil
   obtain ⟨r1, r2⟩ := r
   simp only [ordG, List.append_nil] at h1 h2
   subst h1
   cases hT : T p base with
   | none => rw [hT] at h2; cases h2
   | some d => rw [hT] at h2; simp at h2; simp [h2]
 | n + 1, o, p, s, l, r, hn => by
  unfold dfs
  rw [List.mem_flatMap]
  constructor
  ·rintro ⟨x, hx, h⟩
   cases hT : T p x with
   | none => rw [hT] at h; cases h
   | some d =>
    rw [hT] at h
    have hl : (l.erase x).length = n := by rw [List.length_erase_of_mem hx]; omega
    obtain ⟨q, h1, h2, h3⟩ := (dfs_mem n (o ++ [x]) x (addG s d) (l.erase x) r hl).1 h
    exact ⟨x :: q, List.cons_perm_iff_perm_erase.2 ⟨hx, h1⟩, by rw [h2]; simp, by simp only [ordG, hT]; exact h3⟩
  ·rintro ⟨q, h1, h2, h3⟩
   cases q with
   | nil => have := h1.length_eq; simp at this; omega
   | cons x q =>
    obtain ⟨hx, h4⟩ := List.cons_perm_iff_perm_erase.1 h1
    refine ⟨x, hx, ?_⟩
    cases hT : T p x with
    | none => simp only [ordG, hT] at h3; cases h3
    | some d =>
     simp only [ordG, hT] at h3
     have hl : (l.erase x).length = n := by rw [List.length_erase_of_mem hx]; omega
     exact (dfs_mem n (o ++ [x]) x (addG s d) (l.erase x) r hl).2 ⟨q, h4, by rw [h2]; simp, h3⟩
/-- The first least one. -/
def LeastR (r : Rnd) (l : List Rnd) : Prop := r ∈ l ∧ ∀ y ∈ l, LeG r.2 y.2 ∧ (y.2 = r.2 → cmpL r.1 y.1 ≤ 0)
theorem least_fold : ∀ (l : List Rnd) (b : Rnd) (pre : List Rnd), LeastR b pre → (pre ++ l).Pairwise (fun x y => cmpL x.1 y.1 < 0) → ∃ r, l.foldl stepR (some b) = some r ∧ LeastR r (pre ++ l)
 | [], b, pre, h, _ => ⟨b, rfl, by rw [List.append_nil]; exact h⟩
 | x :: l, b, pre, h, hp => by
  have e : pre ++ x :: l = (pre ++ [x]) ++ l := by simp
  rw [e] at hp ⊢
  have hpx : ∀ y ∈ pre, cmpL y.1 x.1 < 0 := fun y hy => (List.pairwise_append.1 (List.pairwise_append.1 hp).1).2.2 y hy x (by simp)
  rw [List.foldl_cons]
  by_cases hl : lessG x.2 b.2 = true
  ·rw [show stepR (some b) x = some x from by simp [stepR, hl]]
   refine least_fold l x (pre ++ [x]) ⟨by simp, fun y hy => ?_⟩ hp
   have hlt : x.2.1 < b.2.1 ∨ (x.2.1 = b.2.1 ∧ x.2.2 < b.2.2) := by unfold lessG at hl; simpa using hl
   rcases List.mem_append.1 hy with hy | hy
   ·obtain ⟨h1, h2⟩ := h.2 y hy
    refine ⟨by unfold LeG at h1 ⊢; omega, fun e => ?_⟩
    rw [e] at h1
    unfold LeG at h1
    omega
   ·obtain rfl : y = x := by simpa using hy
    exact ⟨LeG.refl _, fun _ => by rw [cmpL_refl]; exact Int.le_refl _⟩
  ·rw [show stepR (some b) x = some b from by simp [stepR, hl]]
   refine least_fold l b (pre ++ [x]) ⟨List.mem_append_left _ h.1, fun y hy => ?_⟩ hp
   rcases List.mem_append.1 hy with hy | hy
   ·exact h.2 y hy
   ·obtain rfl : y = x := by simpa using hy
    exact ⟨leG_less.1 (by simpa using hl), fun _ => Int.le_of_lt (hpx b h.1)⟩
theorem bestG_none {l : List Int} (h : bestG T base l = none) : dfs T base l.length [] base (0, 0) l = [] := by
 unfold bestG at h
 cases hd : dfs T base l.length [] base (0, 0) l with
 | nil => rfl
 | cons x m =>
  rw [hd] at h
  have key : ∀ (m : List Rnd) (b : Rnd), m.foldl stepR (some b) ≠ none := by
   intro m
   induction m with
   | nil => intro b h; cases h
   | cons y m ih =>
    intro b h
    rw [List.foldl_cons] at h
    by_cases hl : lessG y.2 b.2 = true
    ·rw [show stepR (some b) y = some y from by simp [stepR, hl]] at h
     exact ih _ h
    ·rw [show stepR (some b) y = some b from by simp [stepR, hl]] at h
     exact ih _ h
  rw [List.foldl_cons] at h
  exact absurd h (key m x)
theorem bestG_least {l : List Int} {r : Rnd} (hs : l.Pairwise (· < ·)) (h : bestG T base l = some r) : LeastR r (dfs T base l.length [] base (0, 0) l) := by
 have hp := dfs_lex T base l.length [] base (0, 0) l hs
 unfold bestG at h
 cases hd : dfs T base l.length [] base (0, 0) l with
 | nil => rw [hd] at h; cases h
 | cons x m =>
  rw [hd] at h hp
  have h0 : LeastR x [x] := ⟨by simp, fun y hy => by
   obtain rfl : y = x := by simpa using hy
   exact ⟨LeG.refl _, fun _ => by rw [cmpL_refl]; exact Int.le_refl _⟩⟩
  obtain ⟨r', h1, h2⟩ := least_fold m x [x] h0 hp
  have h3 : m.foldl stepR (some x) = some r := h
  rw [h1] at h3
  cases h3
  exact h2
theorem bestG_perm {l : List Int} {r : Rnd} (hs : l.Pairwise (· < ·)) (h : bestG T base l = some r) : r.1.Perm l ∧ ordG T base base (0, 0) r.1 = some r.2 := by
 obtain ⟨q, h1, h2, h3⟩ := (dfs_mem _ _ _ _ _ r rfl).1 (bestG_least hs h).1
 obtain rfl : r.1 = q := h2
 exact ⟨h1, h3⟩
theorem bestG_le {l q : List Int} {r : Rnd} {c : Leg} (hs : l.Pairwise (· < ·)) (h : bestG T base l = some r) (hq : q.Perm l) (ho : ordG T base base (0, 0) q = some c) : LeG r.2 c ∧ (c = r.2 → cmpL r.1 q ≤ 0) :=
 (bestG_least hs h).2 (q, c) ((dfs_mem _ _ _ _ _ (q, c) rfl).2 ⟨q, hq, rfl, ho⟩)
theorem bestG_some {l q : List Int} {c : Leg} (hq : q.Perm l) (ho : ordG T base base (0, 0) q = some c) : ∃ r, bestG T base l = some r := by
 cases h : bestG T base l with
 | some r => exact ⟨r, rfl⟩
 | none =>
  have h1 := (dfs_mem (T := T) (base := base) _ [] base (0, 0) l (q, c) rfl).2 ⟨q, hq, rfl, ho⟩
  rw [bestG_none h] at h1
  cases h1
/-- A stop left out. -/
def TriG (T : Int → Int → Option Leg) : Prop := ∀ a b c d1 d2, T a b = some d1 → T b c = some d2 → ∃ d, T a c = some d ∧ LeG d (addG d1 d2)
theorem ord_mono : ∀ (q : List Int) (p : Int) (s s' r : Leg), LeG s' s → ordG T base p s q = some r → ∃ r', ordG T base p s' q = some r' ∧ LeG r' r
 | [], p, s, s', r, h, ho => by
  unfold ordG at ho ⊢
  cases hT : T p base with
  | none => rw [hT] at ho; cases ho
  | some d =>
   rw [hT] at ho
   cases ho
   exact ⟨_, rfl, h.add (LeG.refl d)⟩
 | x :: q, p, s, s', r, h, ho => by
  unfold ordG at ho ⊢
  cases hT : T p x with
  | none => rw [hT] at ho; cases ho
  | some d =>
   rw [hT] at ho
   exact ord_mono q x _ _ r (h.add (LeG.refl d)) ho
theorem ord_out (ht : TriG T) {x : Int} {o2 : List Int} : ∀ (o1 : List Int) (p : Int) (s r : Leg), ordG T base p s (o1 ++ x :: o2) = some r → ∃ r', ordG T base p s (o1 ++ o2) = some r' ∧ LeG r' r
 | [], p, s, r, ho => by
  simp only [List.nil_append] at ho ⊢
  unfold ordG at ho
  cases h1 : T p x with
  | none => rw [h1] at ho; cases ho
  | some d1 =>
   rw [h1] at ho
   dsimp only at ho
   cases o2 with
   | nil =>
    unfold ordG at ho ⊢
    cases h2 : T x base with
    | none => rw [h2] at ho; cases ho
    | some d2 =>
     rw [h2] at ho
     cases ho
     obtain ⟨d, h3, h4⟩ := ht _ _ _ _ _ h1 h2
     refine ⟨addG s d, by rw [h3]; rfl, ?_⟩
     rw [addG_assoc]
     exact (LeG.refl s).add h4
   | cons y o3 =>
    unfold ordG at ho ⊢
    cases h2 : T x y with
    | none => rw [h2] at ho; cases ho
    | some d2 =>
     rw [h2] at ho
     obtain ⟨d, h3, h4⟩ := ht _ _ _ _ _ h1 h2
     rw [h3]
     refine ord_mono o3 y _ _ r ?_ ho
     rw [addG_assoc]
     exact (LeG.refl s).add h4
 | y :: o1, p, s, r, ho => by
  rw [List.cons_append] at ho ⊢
  unfold ordG at ho ⊢
  cases h1 : T p y with
  | none => rw [h1] at ho; cases ho
  | some d =>
   rw [h1] at ho
   exact ord_out ht o1 y _ r ho
end

section
variable {t : Town} {u v m : Int} {dk : Bool} {l k : List Int}
theorem legF_tri (ht : Fine t) (dk : Bool) : TriG (legF t dk) := by
 intro a b c d1 d2 h1 h2
 unfold legF at *
 cases hb1 : best t dk freeP a b with
 | none => rw [hb1] at h1; cases h1
 | some r1 =>
  cases hb2 : best t dk freeP b c with
  | none => rw [hb2] at h2; cases h2
  | some r2 =>
   obtain ⟨c1, l1⟩ := r1
   obtain ⟨c2, l2⟩ := r2
   rw [hb1] at h1
   rw [hb2] at h2
   cases h1
   cases h2
   obtain ⟨d, k, hb, hle⟩ := walk_some ht freeP_fair ((best_walk ht freeP_fair hb1).1.append (best_walk ht freeP_fair hb2).1)
   rw [hb]
   refine ⟨_, rfl, ?_⟩
   have a1 := best_a ht hb1
   have a2 := best_a ht hb2
   have a3 := best_a ht hb
   have h4 := key_split hle
   simp only [addC] at h4
   simp only [LeG, addG]
   omega
theorem legF_self (ht : Fine t) (dk : Bool) (a : Int) : legF t dk a a = some (0, 0) := by
 obtain ⟨d, k, hb, hle⟩ := walk_some ht freeP_fair (Walk.nil (t := t) (dk := dk) (p := freeP) a)
 have h1 := best_a ht hb
 have h2 := best_cost ht freeP_fair hb
 have h4 := key_split hle
 simp only [zeroC] at h4
 unfold legF
 rw [hb]
 have e1 : d.b = 0 := by omega
 have e2 : d.c = 0 := by omega
 simp [e1, e2]
theorem stops_ok {st : List Int} (hb : townB t = true) (hu : u ∈ t.places) (h : StopsOk t u st) : roundE t u st = 0 := by
 rw [stopsB_round, if_pos (askE_one hb hu), if_pos]
 exact decide_eq_true ⟨h.size, h.mem, h.nodup⟩
theorem StopsOk.perm {st o : List Int} (h : StopsOk t u st) (hp : o.Perm st) : StopsOk t u o :=
 ⟨hp.nodup_iff.2 h.nodup, fun x hx => h.mem x (hp.mem_iff.1 hx), by rw [hp.length_eq]; exact h.size⟩
theorem StopsOk.sub {st o : List Int} (h : StopsOk t u st) (hp : o.Sublist st) : StopsOk t u o :=
 ⟨h.nodup.sublist hp, fun x hx => h.mem x (hp.subset hx), Nat.le_trans hp.length_le h.size⟩
theorem StopsOk.bool {st : List Int} (h : StopsOk t u st) : stopsB t u st = true := decide_eq_true ⟨h.size, h.mem, h.nodup⟩
theorem leg_way (hb : townB t = true) (hu : u ∈ t.places) (hv : v ∈ t.places) {d : Leg} (h : legF t dk u v = some d) : wayE t u v dk = 0 ∧ wayT t u v dk = d := by
 unfold legF at h
 cases hbe : best t dk freeP u v with
 | none => rw [hbe] at h; cases h
 | some q =>
  rw [hbe] at h
  cases h
  obtain ⟨h1, _, h3⟩ := way_some (askE_two hb hu hv) hbe
  exact ⟨h1, h3⟩
/-- No round. -/
theorem round_none {st : List Int} (hb : townB t = true) (hu : u ∈ t.places) (h : StopsOk t u st) (hr : roundR t u st dk = none) : roundX t u st dk = 6 ∧ orderR t u st dk = none ∧ orderE t u st dk = 6 := by
 have h0 := stops_ok hb hu h
 have h1 : orderR t u st dk = none := by
  cases ho : orderR t u st dk with
  | none => rfl
  | some c =>
   unfold orderR at ho
   rw [if_pos h0] at ho
   unfold roundR at hr
   rw [if_pos h0] at hr
   obtain ⟨r, h2⟩ := bestG_some (upI_perm st).symm ho
   rw [h2] at hr
   cases hr
 refine ⟨?_, h1, ?_⟩
 ·unfold roundX; rw [if_pos h0, hr]; rfl
 ·unfold orderE; rw [if_pos h0, h1]; rfl
/-- The round that is told. -/
structure RoundOk (t : Town) (u : Int) (dk : Bool) (st o : List Int) (c : Leg) : Prop where
 err : roundX t u st dk = 0
 perm : o.Perm st
 stops : StopsOk t u o
 ord : ordG (legF t dk) u u (0, 0) o = some c
 ordR : orderR t u o dk = some c
 ordE : orderE t u o dk = 0
 own : ∀ s, orderR t u st dk = some s → LeG c s ∧ (s = c → aheadF st o = false)
 out : ∀ k, k < st.length → ∃ o' c', roundR t u (st.eraseIdx k) dk = some (o', c') ∧ roundX t u (st.eraseIdx k) dk = 0 ∧ LeG c' c
theorem round_some {st o : List Int} {c : Leg} (hb : townB t = true) (hu : u ∈ t.places) (h : StopsOk t u st) (hr : roundR t u st dk = some (o, c)) : RoundOk t u dk st o c := by
 have h0 := stops_ok hb hu h
 have hr' := hr
 unfold roundR at hr
 rw [if_pos h0] at hr
 have hs := upI_strict h.nodup
 obtain ⟨hp, ho⟩ := bestG_perm hs hr
 dsimp only at hp ho
 have hp' : o.Perm st := hp.trans (upI_perm st)
 have ho' := h.perm hp'
 have h1 := stops_ok hb hu ho'
 have e1 : orderR t u o dk = some c := by unfold orderR; rw [if_pos h1]; exact ho
 refine ⟨by unfold roundX; rw [if_pos h0, hr']; rfl, hp', ho', ho, e1, by unfold orderE; rw [if_pos h1, e1]; rfl, ?_, ?_⟩
 ·intro s hso
  unfold orderR at hso
  rw [if_pos h0] at hso
  obtain ⟨h2, h3⟩ := bestG_le hs hr (upI_perm st).symm hso
  refine ⟨h2, fun e => ?_⟩
  rw [ahead_cmp hp'.length_eq.symm]
  have h4 := h3 e
  have h5 := cmpL_swap o st
  simp only [decide_eq_false_iff_not]
  dsimp only at h4
  omega
 ·intro k hk
  have hx : st[k] ∈ o := hp'.mem_iff.2 (List.getElem_mem _)
  obtain ⟨o1, o2, e⟩ := List.append_of_mem hx
  have hq : (o1 ++ o2).Perm (st.eraseIdx k) := by
   have p1 : (st[k] :: (o1 ++ o2)).Perm o := by rw [e]; exact (List.perm_middle).symm
   have p2 : (st[k] :: st.eraseIdx k).Perm st := (by
    rw [List.eraseIdx_eq_take_drop_succ]
    refine List.perm_middle.symm.trans ?_
    rw [List.getElem_cons_drop, List.take_append_drop])
   exact (List.perm_cons st[k]).1 (p1.trans (hp'.trans p2.symm))
  have ho2 := ho
  rw [e] at ho2
  obtain ⟨r', h2, h3⟩ := ord_out (legF_tri (goodT hb).fine dk) o1 u (0, 0) c ho2
  have hk0 : StopsOk t u (st.eraseIdx k) := h.sub (List.eraseIdx_sublist _ _)
  have h4 := stops_ok hb hu hk0
  have hq' : (o1 ++ o2).Perm (upI (st.eraseIdx k)) := hq.trans (upI_perm _).symm
  obtain ⟨⟨o', c'⟩, h5⟩ := bestG_some hq' h2
  have h6 := (bestG_le (upI_strict hk0.nodup) h5 hq' h2).1
  have h7 : roundR t u (st.eraseIdx k) dk = some (o', c') := by unfold roundR; rw [if_pos h4]; exact h5
  exact ⟨o', c', h7, by unfold roundX; rw [if_pos h4, h7]; rfl, h6.trans h3⟩
theorem round_nil (hb : townB t = true) (hu : u ∈ t.places) {o : List Int} {c : Leg} (hr : roundR t u [] dk = some (o, c)) : c = (0, 0) := by
 have h := round_some hb hu ⟨List.nodup_nil, (fun x hx => by cases hx), by simp⟩ hr
 obtain rfl : o = [] := h.perm.eq_nil
 have h1 := h.ord
 unfold ordG at h1
 rw [legF_self (goodT hb).fine] at h1
 simp [addG] at h1
 exact h1.symm
theorem sum_step {o : List Int} {x p : Int} {s c : Leg} (hb : townB t = true) (hp : p ∈ t.places) (hx : x ∈ t.places) (h : ordG (legF t dk) u p s (x :: o) = some c) : wayE t p x dk = 0 ∧ ordG (legF t dk) u x (addG s (wayT t p x dk)) o = some c := by
 unfold ordG at h
 cases hT : legF t dk p x with
 | none => rw [hT] at h; cases h
 | some d =>
  rw [hT] at h
  obtain ⟨h1, h2⟩ := leg_way hb hp hx hT
  exact ⟨h1, by rw [h2]; exact h⟩
theorem sum_end {p : Int} {s c : Leg} (hb : townB t = true) (hp : p ∈ t.places) (hu : u ∈ t.places) (h : ordG (legF t dk) u p s [] = some c) : wayE t p u dk = 0 ∧ addG s (wayT t p u dk) = c := by
 unfold ordG at h
 cases hT : legF t dk p u with
 | none => rw [hT] at h; cases h
 | some d =>
  rw [hT] at h
  obtain ⟨h1, h2⟩ := leg_way hb hp hu hT
  refine ⟨h1, ?_⟩
  rw [h2]
  simpa using h
/-- One leg further, of the list with the base behind it. -/
theorem sum_next {o : List Int} {x p : Int} {s c : Leg} {i : Nat} (hb : townB t = true) (hu : u ∈ t.places) (hs : StopsOk t u o) (hx : (o ++ [u])[i]? = some x) (hp : p ∈ t.places) (h : ordG (legF t dk) u p s (o.drop i) = some c) :
  x ∈ t.places ∧ wayE t p x dk = 0 ∧ (i + 1 < o.length + 1 → ordG (legF t dk) u x (addG s (wayT t p x dk)) (o.drop (i + 1)) = some c) ∧ (i + 1 = o.length + 1 → addG s (wayT t p x dk) = c) := by
 by_cases hi : i < o.length
 ·rw [List.getElem?_append_left hi] at hx
  have hxo := List.mem_of_getElem? hx
  have hxt := (hs.mem x hxo).1
  rw [drop_atF hx] at h
  obtain ⟨h1, h2⟩ := sum_step hb hp hxt h
  exact ⟨hxt, h1, fun _ => h2, fun e => by omega⟩
 ·have hl : i = o.length := by
   have := (List.getElem?_eq_some_iff.1 hx).1
   simp at this
   omega
  subst hl
  have hxu : x = u := by simpa using hx.symm
  subst hxu
  rw [List.drop_of_length_le (Nat.le_refl _)] at h
  obtain ⟨h1, h2⟩ := sum_end hb hp hu h
  exact ⟨hu, h1, fun e => by omega, fun _ => h2⟩
theorem le_lessP {a b c d : Int} (h : LeG (a, b) (c, d)) : lessP c d a b = false := by
 unfold LeG at h
 unfold lessP
 simp
 omega
/-- The stops in their own order. -/
theorem own_cases {st o : List Int} {c : Leg} (h0 : roundE t u st = 0) (h : RoundOk t u dk st o c) : (orderE t u st dk = 0 ∧ LeG c ((orderR t u st dk).getD (0, 0)) ∧ ((orderR t u st dk).getD (0, 0) = c → aheadF st o = false)) ∨ orderE t u st dk = 6 := by
 cases ho : orderR t u st dk with
 | none => right; unfold orderE; rw [if_pos h0, ho]; rfl
 | some s =>
  left
  have h1 := h.own s ho
  exact ⟨by unfold orderE; rw [if_pos h0, ho]; rfl, h1.1, h1.2⟩
end
end Go.Proofs.YtahkjagjcogeiaaGreatDoor
/- mem/RegionT once more, with rows by sequence, not by set. The law of a drawn region by a plan: quiet operations float; of those that do something, whichever of some comes next; stores last. -/
namespace Go.Proofs.YtahkjagjcogeiaaGreatDoor.Ts
open Go.RowKit Gr
set_option linter.unusedSectionVars false

/-- The plainest growth. -/
def Up (A B : World) : Prop := Below A.heap.size A B
instance up_grows : Grows Up where
 refl := fun W => Below.refl _ W
 trans := fun {A B C} (h : Below A.heap.size A B) (k : Below B.heap.size B C) => (show Below A.heap.size A C from h.trans (k.mono h.size))
 below := fun h => h
 size := fun {A B} (h : Below A.heap.size A B) => h.size
/-- A row of the plan: what has been carried out (in the order in which it came), the quiet operations to be walked, what may come next. -/
abbrev Plan := List (List Nat × List Bool × List Nat)
def ins (x : Nat) (p : List Nat) : List Nat := p ++ [x]
def rowAt (tab : Plan) (p : List Nat) : Option (List Bool × List Nat) := (tab.find? fun r => r.1 == p).map (·.2)
def pathB (l : List Oper) (es : List Nat) (tab : Plan) : Nat → List Nat → List Nat → Bool
 | 0, _, _ => false
 | k + 1, p, ys => match rowAt tab p with
  | none => false
  | some (m, kids) =>
   decide (m.length ≤ l.length) && depsB l ys (idxs 0 m) && ((idxs 0 m).all fun i => decide (i < l.length) && !es.contains i && !ys.contains i) && decide (idxs 0 m).Nodup &&
   (kids.all fun x => decide (x < l.length) && !es.contains x && !(ys ++ idxs 0 m).contains x && readsB l x (ys ++ idxs 0 m) && !((l[x]?).map lateB).getD true && pathB l es tab k (ins x p) (ys ++ idxs 0 m ++ [x])) &&
   (!kids.isEmpty || (List.range l.length).all fun i => (ys ++ idxs 0 m).contains i || es.contains i) &&
   ((List.range l.length).all fun i => (ys ++ idxs 0 m).contains i || es.contains i || kids.contains i || (List.range l.length).any fun k' => !(ys ++ idxs 0 m).contains k' && afterB l i k')
def treeB (l : List Oper) (es : List Nat) : Bool :=
 upS es && backB l.toArray && Region.noSelect l.toArray && noDeferB l && (es.all fun i => decide (i < l.length)) &&
 ((List.range l.length).all fun i => es.contains i || ((dstAt l i).isSome && ((List.range l.length).all fun i' => i == i' || dstAt l i != dstAt l i'))) &&
 (es.all fun e => readsB l e (List.range l.length)) && (es.all fun e => es.all fun e' => decide (e ≤ e') || afterB l e e') &&
 ((List.range l.length).all fun i => es.contains i || ((l[i]?).map lateB).getD false || es.all fun e => afterB l e i) && (es.all fun e => (dstAt l e).isNone)
structure TreeOk (l : List Oper) (es : List Nat) : Prop where
 upE : es.Pairwise (· < ·)
 back : backB l.toArray = true
 nosel : Region.noSelect l.toArray = true
 nodef : noDeferB l = true
 e : ∀ i ∈ es, i < l.length
 own : ∀ i, i < l.length → i ∉ es → ∃ d, dstAt l i = some d ∧ ∀ i', i' < l.length → dstAt l i' = some d → i' = i
 depsE : ∀ i ∈ es, ∀ o, l[i]? = some o → ∀ t ∈ o.looksAt l.toArray, ∀ i', i' < l.length → dstAt l i' = some t → afterB l i i' = true
 chain : ∀ e ∈ es, ∀ e' ∈ es, e' < e → afterB l e e' = true
 late : ∀ i, i < l.length → i ∉ es → ∀ o, l[i]? = some o → lateB o = true ∨ ∀ e ∈ es, afterB l e i = true
 edst : ∀ e ∈ es, dstAt l e = none
theorem treeOk {l : List Oper} {es : List Nat} (h : treeB l es = true) : TreeOk l es := by
 unfold treeB at h
 simp only [Bool.and_eq_true] at h
 obtain ⟨⟨⟨⟨⟨⟨⟨⟨⟨h1, h2⟩, h3⟩, h4⟩, h5⟩, h6⟩, h7⟩, h8⟩, h9⟩, h10⟩ := h
 refine ⟨upS_pair h1, h2, h3, h4, fun i hi => of_decide_eq_true (List.all_eq_true.1 h5 i hi), fun i hi hne => ?_, fun i hi o ho t ht i' hi' hd => (readsB_spec (List.all_eq_true.1 h7 i hi) o ho t ht i' hi' hd).1, fun e he e' he' hlt => ?_, fun i hi hne o ho => ?_, fun e he => by simpa using List.all_eq_true.1 h10 e he⟩
 ·have h := List.all_eq_true.1 h6 i (List.mem_range.2 hi)
  simp only [Bool.or_eq_true, List.contains_eq_mem, decide_eq_true_eq] at h
  rcases h with h | h
  ·exact absurd h hne
  ·simp only [Bool.and_eq_true] at h
   obtain ⟨d, hd⟩ := Option.isSome_iff_exists.1 h.1
   refine ⟨d, hd, fun i' hi' hd' => ?_⟩
   have h' := List.all_eq_true.1 h.2 i' (List.mem_range.2 hi')
   simp only [Bool.or_eq_true, beq_iff_eq, bne_iff_ne] at h'
   rcases h' with h' | h'
   ·exact h'.symm
   ·exact absurd (hd.trans hd'.symm) h'
 ·have := List.all_eq_true.1 (List.all_eq_true.1 h8 e he) e' he'
  simp only [Bool.or_eq_true, decide_eq_true_eq] at this
  exact this.resolve_left (by omega)
 ·have := List.all_eq_true.1 h9 i (List.mem_range.2 hi)
  rw [ho] at this
  simp only [Option.map_some, Option.getD_some, Bool.or_eq_true, List.contains_eq_mem, decide_eq_true_eq] at this
  rcases this with (h | h) | h
  ·exact absurd h hne
  ·exact .inl h
  ·exact .inr fun e he => List.all_eq_true.1 h e he

/-- What has been carried out, or walked, in an order. -/
structure PathOk (l : List Oper) (es ys : List Nat) : Prop where
 nodup : ys.Nodup
 x : ∀ i ∈ ys, i < l.length ∧ i ∉ es
 deps : ∀ pre i post, ys = pre ++ i :: post → ∀ o, l[i]? = some o → ∀ t ∈ o.looksAt l.toArray, ∀ i', i' < l.length → dstAt l i' = some t → afterB l i i' = true ∧ i' ∈ pre
theorem PathOk.nil {l : List Oper} {es : List Nat} : PathOk l es [] := ⟨List.nodup_nil, (fun i h => by cases h), fun pre i post e => by simp at e⟩
theorem PathOk.snoc {l : List Oper} {es ys : List Nat} (h : PathOk l es ys) {x : Nat} (h1 : x < l.length) (h2 : x ∉ es) (h3 : x ∉ ys) (h4 : readsB l x ys = true) : PathOk l es (ys ++ [x]) := by
 refine ⟨?_, fun i hi => ?_, fun pre i post e => ?_⟩
 ·rw [List.nodup_append]
  exact ⟨h.nodup, by simp, fun a ha b hb e => h3 (by rw [List.mem_singleton.1 hb] at e; rw [← e]; exact ha)⟩
 ·rcases List.mem_append.1 hi with hi | hi
  ·exact h.x i hi
  ·rw [List.mem_singleton.1 hi]; exact ⟨h1, h2⟩
 ·rcases List.append_eq_append_iff.1 e.symm with ⟨a', e1, e2⟩ | ⟨c', e1, e2⟩
  ·cases a' with
   | nil =>
    simp at e2
    obtain ⟨rfl, rfl⟩ := e2
    simp at e1
    subst e1
    exact readsB_spec h4
   | cons q a' =>
    simp at e2
    obtain ⟨rfl, rfl⟩ := e2
    exact h.deps pre i a' e1
  ·cases c' with
   | nil =>
    simp at e1 e2
    obtain ⟨rfl, rfl⟩ := e2
    subst e1
    exact readsB_spec h4
   | cons q c' => simp at e2
theorem PathOk.more {l : List Oper} {es : List Nat} : ∀ {qs ys : List Nat}, PathOk l es ys → depsB l ys qs = true → (∀ i ∈ qs, i < l.length ∧ i ∉ es ∧ i ∉ ys) → qs.Nodup → PathOk l es (ys ++ qs)
 | [], ys, h, _, _, _ => by simpa using h
 | x :: qs, ys, h, hd, hx, hn => by
  simp only [depsB, Bool.and_eq_true] at hd
  rw [List.nodup_cons] at hn
  have h1 := h.snoc (hx x (by simp)).1 (hx x (by simp)).2.1 (hx x (by simp)).2.2 hd.1
  have h2 := PathOk.more (qs := qs) h1 hd.2 (fun i hi => ⟨(hx i (by simp [hi])).1, (hx i (by simp [hi])).2.1, fun hm => by
   rcases List.mem_append.1 hm with hm | hm
   ·exact (hx i (by simp [hi])).2.2 hm
   ·rw [List.mem_singleton.1 hm] at hi; exact hn.1 hi⟩) hn.2
  simpa using h2
structure KidsOk (l : List Oper) (es : List Nat) (tab : Plan) (k : Nat) (p ys kids : List Nat) : Prop where
 kid : ∀ x ∈ kids, x < l.length ∧ x ∉ es ∧ x ∉ ys ∧ readsB l x ys = true ∧ (∀ o, l[x]? = some o → lateB o = false) ∧ pathB l es tab k (ins x p) (ys ++ [x]) = true
 all : kids = [] → ∀ i, i < l.length → i ∈ ys ∨ i ∈ es
 wait : ∀ i, i < l.length → i ∉ ys → i ∉ es → i ∉ kids → ∃ k', k' ∉ ys ∧ afterB l i k' = true
theorem pathOk {l : List Oper} {es : List Nat} {tab : Plan} {k : Nat} {p ys : List Nat} (h : pathB l es tab (k + 1) p ys = true) (ho : PathOk l es ys) : ∃ m kids, rowAt tab p = some (m, kids) ∧ m.length ≤ l.length ∧ PathOk l es (ys ++ idxs 0 m) ∧ KidsOk l es tab k p (ys ++ idxs 0 m) kids := by
 unfold pathB at h
 cases hr : rowAt tab p with
 | none => rw [hr] at h; simp at h
 | some q =>
  obtain ⟨m, kids⟩ := q
  rw [hr] at h
  simp only [Bool.and_eq_true, decide_eq_true_eq] at h
  obtain ⟨⟨⟨⟨⟨⟨h1, h2⟩, h3⟩, h4⟩, h5⟩, h6⟩, h7⟩ := h
  refine ⟨m, kids, rfl, h1, ho.more h2 (fun i hi => ?_) h4, ⟨fun x hx => ?_, fun e i hi => ?_, fun i hi hy he hk => ?_⟩⟩
  ·have := List.all_eq_true.1 h3 i hi
   simp only [Bool.and_eq_true, decide_eq_true_eq, Bool.not_eq_true', List.contains_eq_mem, decide_eq_false_iff_not] at this
   exact ⟨this.1.1, this.1.2, this.2⟩
  ·have := List.all_eq_true.1 h5 x hx
   simp only [Bool.and_eq_true, decide_eq_true_eq, Bool.not_eq_true', List.contains_eq_mem, decide_eq_false_iff_not] at this
   obtain ⟨⟨⟨⟨⟨a1, a2⟩, a3⟩, a4⟩, a5⟩, a6⟩ := this
   exact ⟨a1, a2, a3, a4, fun o ho => by rw [ho] at a5; simpa using a5, a6⟩
  ·subst e
   simp only [List.isEmpty_nil, Bool.not_true, Bool.false_or] at h6
   have := List.all_eq_true.1 h6 i (List.mem_range.2 hi)
   simpa using this
  ·have := List.all_eq_true.1 h7 i (List.mem_range.2 hi)
   simp only [Bool.or_eq_true, List.contains_eq_mem, decide_eq_true_eq] at this
   rcases this with ((h | h) | h) | h
   ·exact absurd h hy
   ·exact absurd h he
   ·exact absurd h hk
   ·obtain ⟨k', _, hk'⟩ := List.any_eq_true.1 h
    simp only [Bool.and_eq_true, Bool.not_eq_true'] at hk'
    exact ⟨k', by simpa using hk'.1, hk'.2⟩

section
variable {G : World → World → Prop} [Grows G] {F : Fence} {n : Nat} {P : Program} {l : List Oper}
/-- By the plan. -/
def wpTree (G : World → World → Prop) (F : Fence) (n : Nat) (P : Program) (l : List Oper) (tail : World → Act → Prop) (tab : Plan) : Nat → List Nat → World → Act → Prop
 | 0, _, _, _ => False
 | k + 1, p, V, a => ∃ m kids, rowAt tab p = some (m, kids) ∧ ∃ A, Gr.Quietly G F n P l V (pickB l m) a A ∧ (kids = [] → tail V A) ∧ ∀ x ∈ kids, ∃ o, l[x]? = some o ∧ ∀ W, Below V.heap.size V W →
     wpListIn F n P l.toArray (Exit.then (fun a' W' => a'.defers = A.defers ∧ G W W' ∧ wpTree G F n P l tail tab k (ins x p) W' a') (fun _ _ _ => False)) [o] A W
theorem wpTree_end {tail : World → Act → Prop} {tab : Plan} {k : Nat} {p : List Nat} {V : World} {a A : Act} {m : List Bool} (hr : rowAt tab p = some (m, [])) (hq : Gr.Quietly G F n P l V (pickB l m) a A) (h : tail V A) : wpTree G F n P l tail tab (k + 1) p V a := ⟨m, [], hr, A, hq, fun _ => h, fun x hx => by cases hx⟩
theorem wpTree_one {tail : World → Act → Prop} {tab : Plan} {k x : Nat} {p : List Nat} {V : World} {a A : Act} {m : List Bool} {o : Oper} (hr : rowAt tab p = some (m, [x])) (ho : l[x]? = some o) (hq : Gr.Quietly G F n P l V (pickB l m) a A)
  (h : ∀ W, Below V.heap.size V W → wpListIn F n P l.toArray (Exit.then (fun a' W' => a'.defers = A.defers ∧ G W W' ∧ wpTree G F n P l tail tab k (ins x p) W' a') (fun _ _ _ => False)) [o] A W) : wpTree G F n P l tail tab (k + 1) p V a :=
 ⟨m, [x], hr, A, hq, (fun e => by cases e), fun y hy => by obtain rfl := List.mem_singleton.1 hy; exact ⟨o, ho, h⟩⟩
theorem wpTree_two {tail : World → Act → Prop} {tab : Plan} {k x y : Nat} {p : List Nat} {V : World} {a A : Act} {m : List Bool} {o o' : Oper} (hr : rowAt tab p = some (m, [x, y])) (ho : l[x]? = some o) (ho' : l[y]? = some o') (hq : Gr.Quietly G F n P l V (pickB l m) a A)
  (h : ∀ W, Below V.heap.size V W → wpListIn F n P l.toArray (Exit.then (fun a' W' => a'.defers = A.defers ∧ G W W' ∧ wpTree G F n P l tail tab k (ins x p) W' a') (fun _ _ _ => False)) [o] A W)
  (h' : ∀ W, Below V.heap.size V W → wpListIn F n P l.toArray (Exit.then (fun a' W' => a'.defers = A.defers ∧ G W W' ∧ wpTree G F n P l tail tab k (ins y p) W' a') (fun _ _ _ => False)) [o'] A W) : wpTree G F n P l tail tab (k + 1) p V a :=
 ⟨m, [x, y], hr, A, hq, (fun e => by cases e), fun z hz => by
  rcases List.mem_cons.1 hz with rfl | hz
  ·exact ⟨o, ho, h⟩
  ·obtain rfl := List.mem_singleton.1 hz; exact ⟨o', ho', h'⟩⟩

/-- What is next. -/
def NextT (G : World → World → Prop) (F : Fence) (n : Nat) (P : Program) (l : List Oper) (tail : World → Act → Prop) (tab : Plan) (k : Nat) (p kids : List Nat) (V : World) (A : Act) : Prop :=
 (kids = [] → tail V A) ∧ ∀ x ∈ kids, ∃ o, l[x]? = some o ∧ ∀ W, Below V.heap.size V W →
   wpListIn F n P l.toArray (Exit.then (fun a' W' => a'.defers = A.defers ∧ G W W' ∧ wpTree G F n P l tail tab k (ins x p) W' a') (fun _ _ _ => False)) [o] A W
/-- It may come up, and yields what A says. -/
def AvT (G : World → World → Prop) (F : Fence) (n : Nat) (P : Program) (l : List Oper) (a0 : Act) (ys : List Nat) (V : World) (A : Act) (i : Nat) : Prop :=
 ∀ o, l[i]? = some o → ∃ pre post, ys = pre ++ i :: post ∧ ∀ C, Gr.Good G V C → ∃ LF, Mixed l (· ∈ pre) A a0 LF ∧ YieldsQuiet F n P l.toArray C o (valOf l A i) LF
section
variable {es : List Nat} {a0 : Act} {tail : World → Act → Prop} {tab : Plan}
theorem enter_core (ok : TreeOk l es) (hs : slotsM l a0.tmps.size = true) {ys qs : List Nat} {V : World} {A1 A : Act} (hp : PathOk l es (ys ++ qs)) (hA1 : Mixed l (· ∈ ys) A1 a0 A1) (hq : Gr.Quietly G F n P l V (pick l qs) A1 A) :
  Mixed l (· ∈ ys ++ qs) A a0 A ∧ (∀ i ∈ ys, ∀ t, dstAt l i = some t → A1.tmps.getD t undef = A.tmps.getD t undef) ∧ ∀ i ∈ qs, AvT G F n P l a0 (ys ++ qs) V A i := by
 have hslot : ∀ i, i < l.length → ∀ d, dstAt l i = some d → d < a0.tmps.size := fun i hi d hd => by
  have := List.all_eq_true.1 hs i (List.mem_range.2 hi)
  rw [hd] at this
  simpa using this
 have hnd := hp.nodup
 rw [List.nodup_append] at hnd
 obtain ⟨_, hnq, hdis⟩ := hnd
 have hcond : ∀ i ∈ qs, i < l.length ∧ ∃ d, dstAt l i = some d ∧ d < A1.tmps.size ∧ ∀ i' ∈ qs, dstAt l i' = some d → i' = i := fun i hi => by
  obtain ⟨h1, h3⟩ := hp.x i (by simp [hi])
  obtain ⟨d, h4, h5⟩ := ok.own i h1 h3
  exact ⟨h1, d, h4, by rw [hA1.size]; exact hslot i h1 d h4, fun i' hi' hd' => h5 i' (hp.x i' (by simp [hi'])).1 hd'⟩
 have S := fun (C : World → Prop) (hC : Gr.Good G V C) => quiet_seq (F := F) (n := n) (P := P) (l := l) (C := C) (A := A) qs A1 hcond hnq (hq.cls hC)
 obtain ⟨M, _⟩ := S _ (Gr.Good.above V)
 have same : ∀ i ∈ ys, ∀ t, dstAt l i = some t → A1.tmps.getD t undef = A.tmps.getD t undef := fun i hi t ht => by
  refine (M.out t fun i' hi' hd' => ?_).symm
  obtain ⟨h1, h3⟩ := hp.x i (by simp [hi])
  obtain ⟨d, h4, h5⟩ := ok.own i h1 h3
  rw [ht] at h4
  cases h4
  have := h5 i' (hp.x i' (by simp [hi'])).1 hd'
  subst this
  exact hdis i' hi i' hi' rfl
 have B := hA1.change same
 refine ⟨(M.trans B).congr (fun i => by simp [or_comm]), same, fun i hi o ho => ?_⟩
 obtain ⟨pre, post, e⟩ := List.append_of_mem hi
 refine ⟨ys ++ pre, post, by rw [e]; simp, fun C hC => ?_⟩
 obtain ⟨LF, h1, h2⟩ := (S C hC).2 pre i post e o ho
 exact ⟨LF, (h1.trans B).congr (fun k => by simp [or_comm]), h2⟩
theorem tree_enter (ok : TreeOk l es) (hs : slotsM l a0.tmps.size = true) {k : Nat} {p ys : List Nat} {V : World} {A1 : Act} (h : wpTree G F n P l tail tab k p V A1) (hB : pathB l es tab k p ys = true) (hp : PathOk l es ys) (hA1 : Mixed l (· ∈ ys) A1 a0 A1) :
  ∃ k' qs kids A, PathOk l es (ys ++ qs) ∧ KidsOk l es tab k' p (ys ++ qs) kids ∧ Mixed l (· ∈ ys ++ qs) A a0 A ∧ (∀ i ∈ ys, ∀ t, dstAt l i = some t → A1.tmps.getD t undef = A.tmps.getD t undef) ∧ (∀ i ∈ qs, AvT G F n P l a0 (ys ++ qs) V A i) ∧ NextT G F n P l tail tab k' p kids V A := by
 cases k with
 | zero => exact h.elim
 | succ k =>
  obtain ⟨m, kids, hr, A, hq, h1, h2⟩ := h
  obtain ⟨m', kids', hr', hm, hp', hk⟩ := pathOk hB hp
  rw [hr] at hr'
  cases hr'
  rw [pickB_all l m hm] at hq
  obtain ⟨a1, a2, a3⟩ := enter_core ok hs hp' hA1 hq
  exact ⟨k, idxs 0 m, kids, A, hp', hk, a1, a2, a3, h1, h2⟩
end

theorem wpIn_region_tree {Q : Exit → Act → World → Prop} {id : Nat} {a0 : Act} {w V0 : World} (tab : Plan) (fuel : Nat) (em : List Bool)
  (hm : P.follows .mixedOrders = true) (hB : (treeB l (idxs 0 em) && pathB l (idxs 0 em) tab fuel [] [] && decide (em.length ≤ l.length)) = true)
  (hs : slotsM l a0.tmps.size = true) (hV : Below V0.heap.size V0 w.drew)
  (h : wpTree G F n P l (fun V A => ∀ W, Below V.heap.size V W → wpT F n P l.toArray (Q .normal) (pickB l em) A W) tab fuel [] V0 a0) : (Code.region id l.toArray true).wpIn F n P Q a0 w := by
 simp only [Bool.and_eq_true, decide_eq_true_eq] at hB
 obtain ⟨⟨hB, hpb⟩, hem⟩ := hB
 have ok := treeOk hB
 obtain ⟨es, hes⟩ : ∃ es, idxs 0 em = es := ⟨_, rfl⟩
 rw [hes] at ok hpb
 have hpe : pickB l em = pick l es := by rw [← hes]; exact pickB_all l em hem
 have hnd : noDefer l.toArray := noDefer_of ok.nodef
 have hslot : ∀ i, i < l.length → ∀ d, dstAt l i = some d → d < a0.tmps.size := fun i hi d hd => by
  have := List.all_eq_true.1 hs i (List.mem_range.2 hi)
  rw [hd] at this
  simpa using this
 let tail : World → Act → Prop := fun V A => ∀ W, Below V.heap.size V W → wpT F n P l.toArray (Q .normal) (pickB l em) A W
 let StA : Array Bool → Act → World → Prop := fun listed a W => listed.size = l.length ∧ (∀ e ∈ es, listed.getD e false = false) ∧ ∃ (k : Nat) (p ys kids : List Nat) (A : Act) (V : World), PathOk l es ys ∧ KidsOk l es tab k p ys kids ∧ (∀ i, i < l.length → i ∉ ys → listed.getD i false = false) ∧ Mixed l (· ∈ ys) A a0 A ∧
  Mixed l (fun i => i ∈ ys ∧ listed.getD i false = true) A a0 a ∧ (∀ i ∈ ys, listed.getD i false = false → AvT G F n P l a0 ys V A i) ∧ Below V.heap.size V W ∧ NextT G F n P l tail tab k p kids V A
 let Miss : Array Bool → Tmp → Prop := fun listed t => ∃ i, i < l.length ∧ i ∉ es ∧ listed.getD i false = false ∧ dstAt l i = some t
 let StB : Array Bool → Act → World → Prop := fun listed a W => listed.size = l.length ∧ ∃ (A Ac : Act) (m : Nat) (ys : List Nat), PathOk l es ys ∧ (∀ i, i < l.length → i ∈ ys ∨ i ∈ es) ∧ m ≤ es.length ∧ (∀ e ∈ es.take m, listed.getD e false = true) ∧ (∀ e ∈ es.drop m, listed.getD e false = false) ∧ Rel (Miss listed) a Ac ∧ Ac.tmps.size = a0.tmps.size ∧
  (∀ i ∈ ys, ∀ t, dstAt l i = some t → Ac.tmps.getD t undef = A.tmps.getD t undef) ∧ (∀ t, (∀ i, i < l.length → dstAt l i ≠ some t) → Ac.tmps.getD t undef = a0.tmps.getD t undef) ∧
  (∀ i ∈ ys, listed.getD i false = false → ∀ o, l[i]? = some o → ∃ pre post LF, ys = pre ++ i :: post ∧ Mixed l (· ∈ pre) A a0 LF ∧ YieldsAll F P l.toArray o (valOf l A i) LF) ∧ wpT F n P l.toArray (Q .normal) (pick l (es.drop m)) Ac W
 have setD : ∀ (listed : Array Bool) (i i' : Nat), listed.size = l.length → i < l.length → (listed.setIfInBounds i true).getD i' false = done (fun i => listed.getD i false) i i' := fun listed i i' hsz hi => by
  unfold done
  by_cases e : i' = i
  ·subst e
   rw [if_pos rfl, Array.getD_eq_getD_getElem?, Array.getElem?_setIfInBounds]
   have : i' < listed.size := by omega
   simp [this]
  ·rw [if_neg e, getD_set_ne false (Ne.symm e)]
 have mixS : ∀ (listed : Array Bool) (i : Nat) (ys : List Nat), listed.size = l.length → i < l.length → i ∈ ys → ∀ k, ((k ∈ ys ∧ listed.getD k false = true) ∨ k = i) ↔ (k ∈ ys ∧ (listed.setIfInBounds i true).getD k false = true) := fun listed i ys hsz hi hix k => by
  rw [setD listed i k hsz hi]
  unfold done
  by_cases e : k = i
  ·subst e; simp [hix]
  ·simp [e]
 -- what an operation reads
 have agreeA : ∀ {listed : Array Bool} {A LF a1 : Act} {ys pre post : List Nat} {i : Nat} {o : Oper}, PathOk l es ys → l[i]? = some o → ys = pre ++ i :: post → (∀ i', afterB l i i' = true → listed.getD i' false = true) →
   Mixed l (· ∈ pre) A a0 LF → Mixed l (fun i => i ∈ ys ∧ listed.getD i false = true) A a0 a1 → ∀ t ∈ o.looksAt l.toArray, LF.tmps.getD t undef = a1.tmps.getD t undef := by
  intro listed A LF a1 ys pre post i o hp hol hx hwait hLF hM t ht
  by_cases hex : ∃ i', i' < l.length ∧ dstAt l i' = some t
  ·obtain ⟨i', hi', hd⟩ := hex
   obtain ⟨h1, h2⟩ := hp.deps pre i post hx o hol t ht i' hi' hd
   have hix : i' ∈ ys := by rw [hx]; simp [h2]
   rw [hLF.in_ i' h2 t hd, hM.in_ i' ⟨hix, hwait i' h1⟩ t hd]
  ·have hno : ∀ i', i' < l.length → dstAt l i' ≠ some t := fun i' hi' hd => hex ⟨i', hi', hd⟩
   rw [hLF.out t (fun i' hi' => hno i' (hp.x i' (by rw [hx]; simp [hi'])).1), hM.out t (fun i' hi' => hno i' (hp.x i' hi'.1).1)]
 have toB : ∀ listed a W, StA listed a W → (∀ i, i < l.length → i ∉ es → listed.getD i false = false → ∀ o, l[i]? = some o → lateB o = true) → StB listed a W := by
  rintro listed a W ⟨hsz, hesl, k, p, ys, kids, A, V, hp, hk, hlater, hA, hM, hav, hc, hnext⟩ hfl
  have hnil : kids = [] := by
   cases hkk : kids with
   | nil => rfl
   | cons x r =>
    obtain ⟨h1, h2, h3, _, h4, _⟩ := hk.kid x (by rw [hkk]; simp)
    have ho : l[x]? = some l[x] := List.getElem?_eq_getElem h1
    have := hfl x h1 h2 (hlater x h1 h3) _ ho
    rw [h4 _ ho] at this
    cases this
  have hall := hk.all hnil
  have hw := hnext.1 hnil W hc
  rw [hpe] at hw
  refine ⟨hsz, A, A, 0, ys, hp, hall, Nat.zero_le _, (fun e he => by simp at he), (fun e he => hesl e (by simpa using he)), ⟨?_, ?_, fun t ht' => ?_⟩, hA.size, fun i hi t hd => rfl, fun t hno => hA.out t fun i hi => hno i (hp.x i hi).1, fun i hi hf o ho => ?_, by simpa using hw⟩
  ·rw [hM.defers, hA.defers]
  ·rw [hM.size, hA.size]
  ·by_cases hex : ∃ i ∈ ys, dstAt l i = some t
   ·obtain ⟨i, hi, hd⟩ := hex
    have hl : listed.getD i false = true := by
     cases hc' : listed.getD i false with
     | true => rfl
     | false => exact absurd ⟨i, (hp.x i hi).1, (hp.x i hi).2, hc', hd⟩ ht'
    exact hM.in_ i ⟨hi, hl⟩ t hd
   ·rw [hM.out t (fun i hi hd => hex ⟨i, hi.1, hd⟩), hA.out t (fun i hi hd => hex ⟨i, hi, hd⟩)]
  ·obtain ⟨pre, post, e1, e3⟩ := hav i hi hf o ho
   obtain ⟨LF, h3, h4⟩ := e3 _ (Gr.Good.above V)
   exact ⟨pre, post, LF, e1, h3, late_yields (hfl i (hp.x i hi).1 (hp.x i hi).2 hf o ho) ⟨V, Grows.refl _⟩ h4⟩
 let St : Array Bool → Act → World → Prop := fun listed a W => StA listed a W ∨ StB listed a W
 have stepB : ∀ listed a W i o, l[i]? = some o → listed.getD i true = false → (∀ i', afterB l i i' = true → listed.getD i' false = true) → StB listed a W → wpListIn F n P l.toArray (Exit.then (St (listed.setIfInBounds i true)) Q) [o] a W := by
  rintro listed a W i o hol hu hwait ⟨hsz, A, Ac, m, ys, hp, hall, hm', ht, hdp, hR, hAcs, hAcx, hAco, hfl, hwp⟩
  have hi : i < l.length := (List.getElem?_eq_some_iff.1 hol).1
  have hfalse : listed.getD i false = false := getD_both hu
  have hsel : ∀ cs b, o.op ≠ .select cs b := fun cs b => Region.noSelect_spec ok.nosel i o cs b (by simpa using hol)
  by_cases hie : i ∈ es
  ·have hmem : i ∈ es.drop m := by
    rcases (List.mem_append.1 (by rw [List.take_append_drop]; exact hie : i ∈ es.take m ++ es.drop m)) with h | h
    ·rw [ht i h] at hfalse; cases hfalse
    ·exact h
   have hml : m < es.length := by
    rcases Nat.lt_or_ge m es.length with h | h
    ·exact h
    ·rw [List.drop_of_length_le h] at hmem; cases hmem
   have hdrop : es.drop m = es[m] :: es.drop (m + 1) := List.drop_eq_getElem_cons hml
   have hie' : i = es[m] := by
    rw [hdrop] at hmem
    rcases List.mem_cons.1 hmem with h | h
    ·exact h
    ·exfalso
     have hlt : es[m] < i := by
      have hp := ok.upE.sublist (List.drop_sublist m es)
      rw [hdrop, List.pairwise_cons] at hp
      exact hp.1 i h
     have h1 := hwait _ (ok.chain i hie es[m] (List.getElem_mem _) hlt)
     rw [hdp es[m] (by rw [hdrop]; exact List.mem_cons_self)] at h1
     cases h1
   rw [hdrop, ← hie', pick_cons hol] at hwp
   have hdn : o.dst = none := by
    have := ok.edst i hie
    unfold dstAt at this
    rw [hol] at this
    exact this
   refine wpListIn_rel hsel (hnd i o (by simpa using hol)) hdn hR (fun t ht' => ?_) hwp ?_
   ·rintro ⟨i2, h5, _, h6, h7⟩
    rw [hwait _ (ok.depsE i hie o hol t ht' i2 h5 h7)] at h6
    cases h6
   ·rintro A' a' W' eA ea ed hwp'
    refine .inr ⟨by simpa using hsz, A, A', m + 1, ys, hp, hall, hml, fun e he => ?_, fun e he => ?_, ?_, by rw [eA]; exact hAcs, by rw [eA]; exact hAcx, by rw [eA]; exact hAco, fun i' hi' hf => ?_, hwp'⟩
    ·rw [setD _ _ _ hsz hi]; unfold done; split
     ·rfl
     ·rename_i hne
      rw [List.take_succ_eq_append_getElem hml] at he
      rcases List.mem_append.1 he with h | h
      ·exact ht e h
      ·exact absurd ((List.mem_singleton.1 h).trans hie'.symm) hne
    ·rw [setD _ _ _ hsz hi]; unfold done
     have hne : e ≠ i := fun e' => by
      have hp := ok.upE.sublist (List.drop_sublist m es)
      rw [hdrop, List.pairwise_cons] at hp
      have := hp.1 e he
      omega
     rw [if_neg hne]
     exact hdp e (by rw [hdrop]; exact List.mem_cons_of_mem _ he)
    ·refine ⟨ed, by rw [ea, eA]; exact hR.size, fun t ht' => ?_⟩
     rw [ea, eA]
     refine hR.same t fun ⟨i2, h5, h5', h6, h7⟩ => ht' ⟨i2, h5, h5', ?_, h7⟩
     rw [setD _ _ _ hsz hi]; unfold done
     rw [if_neg (fun e' => by subst e'; exact h5' hie)]
     exact h6
    ·rw [setD _ _ _ hsz hi] at hf
     unfold done at hf
     split at hf
     ·cases hf
     ·exact hfl i' hi' hf
  ·have hix : i ∈ ys := (hall i hi).resolve_right hie
   obtain ⟨pre, post, LF, hx, hLF, hy⟩ := hfl i hix hfalse o hol
   have hag : ∀ t ∈ o.looksAt l.toArray, LF.tmps.getD t undef = a.tmps.getD t undef := fun t ht' => by
    by_cases hex : ∃ i', i' < l.length ∧ dstAt l i' = some t
    ·obtain ⟨i', hi', hd⟩ := hex
     obtain ⟨h1, h2⟩ := hp.deps pre i post hx o hol t ht' i' hi' hd
     have hix' : i' ∈ ys := by rw [hx]; simp [h2]
     rw [hLF.in_ i' h2 t hd, hR.same t (fun ⟨i2, h5, h5', h6, h7⟩ => by
      obtain ⟨d, h8, h9⟩ := ok.own i' hi' (hp.x i' hix').2
      rw [hd] at h8
      cases h8
      have := h9 i2 h5 h7
      subst this
      rw [hwait _ h1] at h6
      cases h6), hAcx i' hix' t hd]
    ·have hno : ∀ i', i' < l.length → dstAt l i' ≠ some t := fun i' hi' hd => hex ⟨i', hi', hd⟩
     rw [hLF.out t (fun i' hi' => hno i' (hp.x i' (by rw [hx]; simp [hi'])).1), hR.same t (fun ⟨i2, h5, _, _, h7⟩ => hno i2 h5 h7), hAco t hno]
   have hya := hy.agree hsel (hLF.size.trans (hAcs.symm.trans hR.size.symm)) hag
   obtain ⟨d, hdi, huniq⟩ := ok.own i hi hie
   have hdo : o.dst = some d := by unfold dstAt at hdi; rw [hol] at hdi; exact hdi
   have hnext : St (listed.setIfInBounds i true) (a.put o.dst (valOf l A i)) W := by
    refine .inr ⟨by simpa using hsz, A, Ac, m, ys, hp, hall, hm', fun e he => ?_, fun e he => ?_, ?_, hAcs, hAcx, hAco, fun i' hi' hf => ?_, hwp⟩
    ·rw [setD _ _ _ hsz hi]; unfold done; split
     ·rfl
     ·exact ht e he
    ·rw [setD _ _ _ hsz hi]; unfold done; rw [if_neg (fun e' => by subst e'; exact hie (List.mem_of_mem_drop he))]; exact hdp e he
    ·rw [hdo]
     refine ⟨hR.defers, by rw [← hR.size]; simp [Act.put], fun t ht' => ?_⟩
     by_cases e : t = d
     ·subst e
      rw [show (a.put (some t) (valOf l A i)).tmps = a.tmps.setIfInBounds t (valOf l A i) from rfl, getD_set_same _ _ _ (by rw [hR.size, hAcs]; exact hslot i hi t hdi), hAcx i hix t hdi]
      unfold valOf; rw [hdi]; rfl
     ·rw [show (a.put (some d) (valOf l A i)).tmps = a.tmps.setIfInBounds d (valOf l A i) from rfl, getD_set_other _ _ (Ne.symm e)]
      refine hR.same t fun ⟨i2, h5, h5', h6, h7⟩ => ht' ⟨i2, h5, h5', ?_, h7⟩
      rw [setD _ _ _ hsz hi]; unfold done
      rw [if_neg (fun e' => by subst e'; rw [hdi] at h7; exact e (Option.some.inj h7).symm)]
      exact h6
    ·rw [setD _ _ _ hsz hi] at hf
     unfold done at hf
     split at hf
     ·cases hf
     ·exact hfl i' hi' hf
   simp only [wpListIn]
   rcases hya.2 with ⟨hw, hv⟩ | ⟨hw, hv⟩
   ·rw [if_pos hw]
    unfold Oper.wpIn
    refine ⟨hya.1 W, ?_⟩
    rw [Oper.semAt_eq _ _ _ (hnd i o (by simpa using hol)), hv W]
    exact hnext
   ·rw [if_neg (by rw [hw]; simp)]
    refine ⟨hya.1 W, ?_⟩
    rw [hv] at hnext
    exact hnext
 refine wpIn_region_inv hm St ?_ ?_ ?_ ?_
 ·rintro listed a W (⟨h, _⟩ | ⟨h, _⟩) <;> simpa using h
 ·obtain ⟨k', qs, kids, A, hp, hk, hA, _, hav, hnext⟩ := tree_enter (G := G) (F := F) (n := n) (P := P) (tail := tail) (a0 := a0) ok hs h hpb PathOk.nil (Mixed.nil (by simp))
  have hrep : ∀ i, (Array.replicate l.toArray.size false).getD i false = false := fun i => getD_replicate_false _ _
  exact .inl ⟨by simp, fun e _ => hrep e, k', [], qs, kids, A, V0, by simpa using hp, by simpa using hk, fun i _ _ => hrep i, by simpa using hA, Mixed.nil (fun i hi => by rw [hrep i] at hi; cases hi.2), fun i hi _ => by simpa using hav i hi, hV, hnext⟩
 ·rintro listed a W i o ho hu hd hst
  have hol : l[i]? = some o := by simpa using ho
  have hi : i < l.length := (List.getElem?_eq_some_iff.1 hol).1
  have hwait : ∀ i', afterB l i i' = true → listed.getD i' false = true := fun i' h => by
   unfold afterB at h
   rw [hol] at h
   obtain ⟨e, he, h2⟩ := List.any_eq_true.1 h
   simp only [Bool.and_eq_true, beq_iff_eq] at h2
   rw [← h2.1]
   exact hd e (by simpa using he) h2.2
  rcases hst with hA0 | hBB
  ·obtain ⟨hsz, hesl, k, p, ys, kids, A, V, hp, hk, hlater, hA, hM, hav, hc, hnext⟩ := hA0
   have hfalse : listed.getD i false = false := getD_both hu
   have hsel : ∀ cs b, o.op ≠ .select cs b := fun cs b => Region.noSelect_spec ok.nosel i o cs b ho
   by_cases hie : i ∈ es
   ·refine stepB listed _ W i o hol hu hwait (toB listed _ W ⟨hsz, hesl, k, p, ys, kids, A, V, hp, hk, hlater, hA, hM, hav, hc, hnext⟩ fun i' hi' hne' hf o' ho' => ?_)
    rcases ok.late i' hi' hne' o' ho' with h | h
    ·exact h
    ·rw [hwait i' (h i hie)] at hf
     cases hf
   ·obtain ⟨d, hdi, hun⟩ := ok.own i hi hie
    have hdo : o.dst = some d := by unfold dstAt at hdi; rw [hol] at hdi; exact hdi
    have e1 : ∀ e ∈ es, (listed.setIfInBounds i true).getD e false = false := fun e he => by
     rw [setD _ _ _ hsz hi]; unfold done
     rw [if_neg (fun e' => by subst e'; exact hie he)]
     exact hesl e he
    by_cases hy : i ∈ ys
    ·-- quiet
     obtain ⟨pre, post, hp1, hp3⟩ := hav i hy hfalse o hol
     obtain ⟨LF, hLF, hyq⟩ := hp3 (fun W => Below V.heap.size V W) ⟨⟨W, hc⟩, fun _ h => Grows.below h, fun W W' h k => h.trans (k.mono h.size)⟩
     have hag := agreeA hp hol hp1 hwait hLF hM
     have hya := yields_agree hsel (hLF.size.trans hM.size.symm) hag hyq
     have hval : valOf l A i = A.tmps.getD d undef := by unfold valOf; rw [hdi]; rfl
     have hnx : ∀ W', Below V.heap.size V W' → St (listed.setIfInBounds i true) (a.put o.dst (valOf l A i)) W' := fun W' hW' => by
      refine .inl ⟨by simpa using hsz, e1, k, p, ys, kids, A, V, hp, hk, fun q hq hqy => ?_, hA, by rw [hdo, hval]; exact (hM.step hdi (fun i' hi' hd' => hun i' (hp.x i' hi'.1).1 hd') (hslot i hi d hdi)).congr (mixS listed i ys hsz hi hy), fun q hq hf => ?_, hW', hnext⟩
      ·rw [setD _ _ _ hsz hi]; unfold done
       rw [if_neg (fun e' => by subst e'; exact hqy hy)]
       exact hlater q hq hqy
      ·rw [setD _ _ _ hsz hi] at hf
       unfold done at hf
       split at hf
       ·cases hf
       ·exact hav q hq hf
     simp only [wpListIn]
     rcases hya.2 with ⟨hw, hv⟩ | ⟨hw, hv⟩
     ·rw [if_pos hw]
      exact wpIn_of_quiet' (K := fun a' => a' = a.put o.dst (valOf l A i)) (hnd i o ho) hc (fun a' W' hW' ha' => by subst ha'; exact hnx W' hW') hya.1 ⟨_, hv, rfl⟩
     ·rw [if_neg (by rw [hw]; simp)]
      refine ⟨hya.1 W hc, ?_⟩
      have := hnx W hc
      rw [hv] at this
      exact this
    ·-- the next one
     have hik : i ∈ kids := by
      refine Classical.byContradiction fun hno => ?_
      obtain ⟨k', h1, h2⟩ := hk.wait i hi hy hie hno
      have h3 := hwait k' h2
      rcases Nat.lt_or_ge k' l.length with h4 | h4
      ·rw [hlater k' h4 h1] at h3; cases h3
      ·rw [Array.getD_eq_getD_getElem?, Array.getElem?_eq_none (by omega)] at h3; cases h3
     obtain ⟨_, _, _, hrd, hlt, hpb'⟩ := hk.kid i hik
     obtain ⟨ox, hox, hwx⟩ := hnext.2 i hik
     obtain rfl : ox = o := Option.some.inj (hox.symm.trans hol)
     have hp' : PathOk l es (ys ++ [i]) := hp.snoc hi hie hy hrd
     have hM' : Mixed l (fun q => q ∈ ys ++ [i] ∧ listed.getD q false = true) A a0 a := hM.congr (fun q => by
      constructor
      ·rintro ⟨h1, h2⟩; exact ⟨by simp [h1], h2⟩
      ·rintro ⟨h1, h2⟩
       rcases List.mem_append.1 h1 with h1 | h1
       ·exact ⟨h1, h2⟩
       ·rw [List.mem_singleton.1 h1, hfalse] at h2; cases h2)
     have hag := agreeA hp' hol (show ys ++ [i] = ys ++ i :: [] from rfl) hwait hA hM'
     refine wpListIn_relD hsel (hnd i ox ho) (by rw [hM.size, hA.size]) hag (hwx W hc) ?_
     rintro A' a' W' v eA ea ed ⟨hdf, hbW, hfl⟩
     have eA' : A' = A.put (some d) v := by
      obtain ⟨t1, d1⟩ := A'
      rw [hdo] at eA
      simp only at eA hdf
      subst eA hdf
      rfl
     have ea' : a' = a.put (some d) v := by
      obtain ⟨t1, d1⟩ := a'
      rw [hdo] at ea
      have h5 := ed hdf
      simp only at ea h5
      subst ea h5
      rfl
     rw [eA'] at hfl
     have hA1 : Mixed l (· ∈ ys ++ [i]) (A.put (some d) v) a0 (A.put (some d) v) := by
      have hpt : (A.put (some d) v).tmps = A.tmps.setIfInBounds d v := rfl
      refine ⟨hA.defers, by rw [hpt]; simpa using hA.size, fun _ _ _ _ => rfl, fun t ht => ?_⟩
      rw [hpt, getD_set_other _ _ (fun e => ht i (by simp) (by rw [hdi, e]))]
      exact hA.out t fun k hk => ht k (by simp [hk])
     obtain ⟨k2, qs, kids2, A2, hp2, hk2, hA2, hsame, hav2, hnext2⟩ := tree_enter (G := G) (F := F) (n := n) (P := P) (tail := tail) (a0 := a0) ok hs hfl hpb' hp' hA1
     have hbV : G V W' := Grows.trans (Grows.below hc) hbW
     have hdv : (A.put (some d) v).tmps.getD d undef = v := getD_set_same _ _ _ (by rw [hA.size]; exact hslot i hi d hdi)
     have hold : ∀ k ∈ ys, ∀ t, dstAt l k = some t → A.tmps.getD t undef = A2.tmps.getD t undef := fun k hk t hd => by
      rw [← hsame k (by simp [hk]) t hd]
      refine (getD_set_other _ _ (fun e => ?_)).symm
      subst e
      have := hun k (hp.x k hk).1 hd
      subst this
      exact hy hk
     have hM2 : Mixed l (fun q => q ∈ ys ++ [i] ++ qs ∧ (listed.setIfInBounds i true).getD q false = true) A2 a0 (a.put (some d) v) := by
      have h6 := (hM.change (A' := A2) (fun k hk t hd => hold k hk.1 t hd)).step hdi (fun i' hi' hd' => hun i' (hp.x i' hi'.1).1 hd') (hslot i hi d hdi)
      have h7 : A2.tmps.getD d undef = v := by rw [← hsame i (by simp) d hdi]; exact hdv
      rw [h7] at h6
      refine h6.congr (fun q => ?_)
      rw [setD listed i q hsz hi]
      unfold done
      by_cases e : q = i
      ·subst e; simp
      ·simp only [e, if_false, or_false]
       constructor
       ·rintro ⟨h8, h9⟩; exact ⟨by simp [h8], h9⟩
       ·rintro ⟨h8, h9⟩
        refine ⟨?_, h9⟩
        refine Classical.byContradiction fun hno => ?_
        have hql := (hp2.x q h8).1
        rw [hlater q hql hno] at h9
        cases h9
     refine .inl ⟨by simpa using hsz, e1, k2, ins i p, ys ++ [i] ++ qs, kids2, A2, W', hp2, hk2, fun q hq hqy => ?_, hA2, by rw [ea']; exact hM2, fun q hq hf => ?_, Below.refl _ _, hnext2⟩
     ·rw [setD _ _ _ hsz hi]; unfold done
      rw [if_neg (fun e' => by subst e'; exact hqy (by simp))]
      exact hlater q hq (fun h => hqy (by simp [h]))
     ·rw [setD _ _ _ hsz hi] at hf
      unfold done at hf
      split at hf
      ·cases hf
      ·rename_i hki
       rcases List.mem_append.1 hq with hq | hq
       ·have hq' : q ∈ ys := by
         rcases List.mem_append.1 hq with h | h
         ·exact h
         ·exact absurd (List.mem_singleton.1 h) hki
        intro o' ho'
        obtain ⟨pre, post, q1, q3⟩ := hav q hq' hf o' ho'
        refine ⟨pre, post ++ [i] ++ qs, by rw [q1]; simp, fun C hC => ?_⟩
        obtain ⟨LF, q4, q5⟩ := q3 C (hC.up hbV)
        have hkv : valOf l A q = valOf l A2 q := by
         obtain ⟨dk, g1, _⟩ := ok.own q (hp.x q hq').1 (hp.x q hq').2
         unfold valOf
         rw [g1]
         exact hold q hq' dk g1
        exact ⟨LF, q4.change (fun k2 hk2 t hd => hold k2 (by rw [q1]; simp [hk2]) t hd), by rw [← hkv]; exact q5⟩
       ·exact hav2 q hq
  ·exact stepB listed a W i o hol hu hwait hBB
 ·rintro listed a W hr hst
  have hal : ∀ i, i < l.length → listed.getD i false = true := by
   rcases hst with ⟨h, _⟩ | ⟨h, _⟩ <;> exact fun i hi => ready_nil_all ok.back (by simpa using h) hr i (by simpa using hi)
  have hBB : StB listed a W := by
   rcases hst with h | h
   ·exact toB listed a W h (fun i hi _ hf => by rw [hal i hi] at hf; cases hf)
   ·exact h
  obtain ⟨hsz, A, Ac, m, ys, hp, hall, hm', ht, hdp, hR, hAcs, hAcx, hAco, hfl, hwp⟩ := hBB
  have hnil : es.drop m = [] := by
   cases h : es.drop m with
   | nil => rfl
   | cons e r =>
    have h1 := hdp e (by rw [h]; simp)
    rw [hal e (ok.e e (List.mem_of_mem_drop (by rw [h]; simp)))] at h1
    cases h1
  rw [hnil] at hwp
  have hEq : a = Ac := by
   obtain ⟨t, d⟩ := a
   obtain ⟨t', d'⟩ := Ac
   have e1 : d = d' := hR.defers
   have s1 : t.size = t'.size := hR.size
   have e2 : t = t' := by
    apply Array.ext s1
    intro i h1 h2
    have := hR.same i (fun ⟨i2, h5, _, h6, _⟩ => by rw [hal i2 h5] at h6; cases h6)
    simpa [h1, h2] using this
   rw [e1, e2]
  subst hEq
  exact hwp
end
end Go.Proofs.YtahkjagjcogeiaaGreatDoor.Ts
