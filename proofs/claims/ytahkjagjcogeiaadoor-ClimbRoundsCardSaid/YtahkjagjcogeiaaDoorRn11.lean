/- Part 11 of the texts of this claim, joined. -/
import Derived.Test.YtahkjagjcogeiaaDoorRn10
/- The answer's better: the search for the best round by indices. -/
namespace Go.Proofs.YtahkjagjcogeiaaDoor
open Go.RowKit Go.Shelf
set_option linter.unusedVariables false

def ix (o : List Nat) : List Int := o.map fun i : Nat => (i : Int)
def lst (o : List Nat) : Nat := o.getLast?.getD 0
def BestIs (w : World) (b : Option RndI) (A : Option Addr) (n : Nat) (s1 s2 : Int) (f : Bool) : Prop := match b with
  | none => f = false
  | some x => f = true ∧ IntsAt w w.heap.size A n (ix x.1) ∧ s1 = x.2.1 ∧ s2 = x.2.2
theorem BestIs.up {w w' : World} {b : Option RndI} {A : Option Addr} {n : Nat} {s1 s2 : Int} {f : Bool} (h : BestIs w b A n s1 s2 f) (hb : Below w.heap.size w w') : BestIs w' b A n s1 s2 f := by
  cases b with
  | none => exact h
  | some x => exact ⟨h.1, ints_up h.2.1 hb, h.2.2⟩
theorem legs_get : ∀ {l : List Leg} {j : Nat} {x : Leg}, l[j]? = some x → (l.flatMap legVals)[j * 2]? = some (.int .i64 x.1) ∧ (l.flatMap legVals)[j * 2 + 1]? = some (.int .i64 x.2)
  | [], j, x, h => by simp at h
  | y :: l, 0, x, h => by
    simp at h
    subst h
    exact ⟨rfl, rfl⟩
  | y :: l, j + 1, x, h => by
    have h' : l[j]? = some x := by simpa using h
    have := legs_get h'
    rw [show (j + 1) * 2 = j * 2 + 2 by omega]
    exact this
theorem legVals_all (l : List Leg) : (l.flatMap legVals).length = l.length * 2 := by
  induction l with
  | nil => rfl
  | cons x l ih => rw [List.flatMap_cons, List.length_append, ih, legVals_len, List.length_cons]; omega
theorem rows_leg {w : World} {B M : Nat} {A : Option Addr} {L : List (List Leg)} (h : RowsAt w B A M L) (hL : L.length = M) (hM : ∀ row ∈ L, row.length = M) {i j : Nat} (hi : i < M) (hj : j < M) :
    ∃ b off rb ro rc, A = some ⟨b, off, none⟩ ∧ b < B ∧ rb < B ∧ w.cell? ⟨b, off + i, none⟩ = some (.slice (some ⟨rb, ro, none⟩) M rc) ∧ w.cell? ⟨rb, ro + j * 2, none⟩ = some (.int .i64 (at2 L i j).1) ∧ w.cell? ⟨rb, ro + j * 2 + 1, none⟩ = some (.int .i64 (at2 L i j).2) := by
  obtain ⟨ds, h1, h2⟩ := h.out
  have hd := h2.1
  obtain ⟨b, off, e, hb, hc⟩ := h1.plain (by simp; omega)
  have hdi : ds[i]? = some ds[i] := List.getElem?_eq_getElem (by omega)
  have hLi : L[i]? = some L[i] := List.getElem?_eq_getElem (by omega)
  have hr := h2.2 i _ _ hdi hLi
  have hrl := hM _ (List.getElem_mem (show i < L.length by omega))
  have hn : ds[i].n = M := by have := hr.1; rw [legVals_all, hrl] at this; omega
  obtain ⟨rb, ro, e2, hb2, hc2⟩ := hr.plain (by rw [legVals_all]; omega)
  have hx : L[i][j]? = some L[i][j] := List.getElem?_eq_getElem (by omega)
  have hg := legs_get hx
  have hat : at2 L i j = L[i][j] := by unfold at2; rw [hLi]; simp [hx]
  refine ⟨b, off, rb, ro, ds[i].c, e, hb, hb2, ?_, ?_, ?_⟩
  · rw [hc i _ (by rw [List.getElem?_map, hdi]; rfl)]
    unfold RowD.val
    rw [e2, hn]
  · rw [hat]; exact hc2 _ _ hg.1
  · rw [hat]; exact hc2 _ _ hg.2
theorem lst_le {o : List Nat} {m : Nat} (h : ∀ i ∈ o, i ≤ m) : lst o ≤ m := by
  unfold lst
  cases e : o.getLast? with
  | none => simp
  | some x => simp; exact h x (List.mem_of_getLast? e)
theorem lst_snoc (o : List Nat) (i : Nat) : lst (o ++ [i]) = i := by unfold lst; simp
def nextI (L : List (List Leg)) (m k : Nat) (o : List Nat) (p : Nat) (s : Leg) (i : Nat) : List RndI := if i ∈ o ∨ (at2 L p i).2 < 0 then [] else dfsI L m k (o ++ [i]) i (addG s (at2 L p i))
def foldN (L : List (List Leg)) (m k : Nat) (o : List Nat) (p : Nat) (s : Leg) (b : Option RndI) (i : Nat) : Option RndI := ((List.range' 1 (i - 1)).flatMap (nextI L m k o p s)).foldl stepI b
theorem foldN_one (L : List (List Leg)) (m k : Nat) (o : List Nat) (p : Nat) (s : Leg) (b : Option RndI) : foldN L m k o p s b 1 = b := rfl
theorem foldN_step (L : List (List Leg)) (m k : Nat) (o : List Nat) (p : Nat) (s : Leg) (b : Option RndI) {i : Nat} (h : 1 ≤ i) : foldN L m k o p s b (i + 1) = (nextI L m k o p s i).foldl stepI (foldN L m k o p s b i) := by
  unfold foldN
  obtain ⟨j, rfl⟩ : ∃ j, i = j + 1 := ⟨i - 1, by omega⟩
  rw [show j + 1 + 1 - 1 = j + 1 by omega, show j + 1 - 1 = j by omega, List.range'_1_concat, List.flatMap_append, List.foldl_append, List.flatMap_singleton, Nat.add_comm 1 j]
theorem foldN_skip (L : List (List Leg)) (m k : Nat) (o : List Nat) (p : Nat) (s : Leg) (b : Option RndI) {i : Nat} (h : 1 ≤ i) (hs : i ∈ o ∨ (at2 L p i).2 < 0) : foldN L m k o p s b (i + 1) = foldN L m k o p s b i := by
  rw [foldN_step _ _ _ _ _ _ _ h]; unfold nextI; rw [if_pos hs]; rfl
theorem foldN_go (L : List (List Leg)) (m k : Nat) (o : List Nat) (p : Nat) (s : Leg) (b : Option RndI) {i : Nat} (h : 1 ≤ i) (hs : ¬ (i ∈ o ∨ (at2 L p i).2 < 0)) : foldN L m k o p s b (i + 1) = betterI L m k (o ++ [i]) (lst (o ++ [i])) (addG s (at2 L p i)) (foldN L m k o p s b i) := by
  rw [foldN_step _ _ _ _ _ _ _ h, lst_snoc]; unfold nextI betterI; rw [if_neg hs]
theorem foldN_all (L : List (List Leg)) (m k : Nat) (o : List Nat) (p : Nat) (s : Leg) (b : Option RndI) : foldN L m k o p s b (m + 1) = betterI L m (k + 1) o p s b := rfl
theorem ix_snoc (o : List Nat) (i : Nat) : ix (o ++ [i]) = ix o ++ [(i : Int)] := by unfold ix; simp
theorem ix_get {o : List Nat} {j : Nat} {x : Int} (h : (ix o)[j]? = some x) : ∃ y, o[j]? = some y ∧ x = (y : Int) := by
  unfold ix at h
  rw [List.getElem?_map] at h
  cases e : o[j]? with
  | none => rw [e] at h; cases h
  | some y => rw [e] at h; exact ⟨y, rfl, by simpa using h.symm⟩
theorem used_step {o : List Nat} {i j y : Nat} (h : o[j]? = some y) : decide (i ∈ o.take (j + 1)) = (decide (i ∈ o.take j) || decide ((y : Int) = (i : Int))) := by
  have e : ((y : Int) = (i : Int)) = (i = y) := propext ⟨fun h => (Int.ofNat_inj.1 h).symm, fun h => by rw [h]⟩
  rw [← take_snocN h]
  simp only [e, List.mem_append, List.mem_singleton, Bool.decide_or]
where
  take_snocN {l : List Nat} {j : Nat} {x : Nat} (h : l[j]? = some x) : l.take j ++ [x] = l.take (j + 1) := by
    rw [List.take_add_one, h]; rfl
/-- The best's order lies in memory that is there. -/
def Low (w : World) (A : Option Addr) (n : Nat) : Prop := 0 < n → ∀ a, A = some a → a.block < w.heap.size
/-- The best's order is the given one, or in new memory. -/
def Kept (g : Nat) (Ab : Option Addr) (nb : Nat) (A : Option Addr) (n : Nat) : Prop := (A = Ab ∧ n = nb) ∨ ∀ a, A = some a → g + 3 ≤ a.block
theorem BestIs.off {W W' : World} {b : Option RndI} {A : Option Addr} {n g : Nat} {s1 s2 : Int} {f : Bool} (h : BestIs W b A n s1 s2 f) (hne : 0 < n → ∀ a, A = some a → a.block ≠ g) (hg : W.grownBy W' (some g)) : BestIs W' b A n s1 s2 f := by
  cases b with
  | none => exact h
  | some x =>
    refine ⟨h.1, ?_, h.2.2⟩
    have hi := h.2.1
    rcases Nat.eq_zero_or_pos n with h0 | h0
    · subst h0
      exact ⟨hi.1, fun h => absurd h (Nat.lt_irrefl _)⟩
    · exact ints_off hi (hne h0) hg
/-- Growth that leaves what lies below B. -/
def UpB (B : Nat) (A C : World) : Prop := A.heap.size ≤ C.heap.size ∧ (B ≤ A.heap.size → Below B A C)
instance upB_grows (B : Nat) : Gr.Grows (UpB B) where
  refl := fun W => ⟨Nat.le_refl _, fun _ => Below.refl _ W⟩
  trans := fun {A X C} h k => ⟨Nat.le_trans h.1 k.1, fun hB => (h.2 hB).trans (k.2 (Nat.le_trans hB h.1))⟩
  below := fun {A C} h => ⟨h.size, fun hB => h.mono hB⟩
  size := fun h => h.1
theorem UpB.of_below {B : Nat} {A C : World} (h : Below B A C) : UpB B A C := ⟨h.size, fun _ => h⟩
theorem Lay.swap {w W W' : World} {bs bs' : List (Nat × TypeId × Array Value)} (h : Lay w W bs) {g : Nat} {t : TypeId} {cs : Array Value} (hb : Blk W' g t cs) (hge : w.heap.size ≤ g) (hbel : Below w.heap.size w W') (hg : W.grownBy W' (some g)) (hs : ∀ b ∈ bs', (b ∈ bs ∧ b.1 ≠ g) ∨ b = (g, t, cs)) : Lay w W' bs' :=
  ⟨hbel, fun b k => by
    rcases hs b k with ⟨k1, k2⟩ | rfl
    · exact ⟨(h.2 b k1).1, (h.2 b k1).2.grown hg (fun e => k2 (Option.some.inj e))⟩
    · exact ⟨hge, hb⟩⟩
theorem Lay.mid {w W : World} {a c : Nat × TypeId × Array Value} {g : Nat} {t : TypeId} {z0 z1 : Value} (h : Lay w W [a, (g, t, #[z0, z1]), c]) (ha : a.1 ≠ g) (hc : c.1 ≠ g) (v0 v1 : Value) : Lay w ((W.setCell ⟨g, 0, none⟩ v0).setCell ⟨g, 1, none⟩ v1) [a, (g, t, #[v0, v1]), c] := by
  have R := ret2' (h.blk 1 rfl) h.1 (h.ge 1 rfl) v0 v1
  refine h.swap R.1 (h.ge 1 rfl) R.2.1 R.2.2 (fun b hb => ?_)
  simp only [List.mem_cons, List.not_mem_nil, or_false] at hb
  rcases hb with rfl | rfl | rfl
  · exact .inl ⟨by simp, ha⟩
  · exact .inr rfl
  · exact .inl ⟨by simp, hc⟩
theorem Lay.head4 {w W : World} {a c : Nat × TypeId × Array Value} {g : Nat} {t : TypeId} {z0 z1 z2 z3 : Value} (h : Lay w W [(g, t, #[z0, z1, z2, z3]), a, c]) (ha : a.1 ≠ g) (hc : c.1 ≠ g) (v0 v1 v2 v3 : Value) : Lay w ((((W.setCell ⟨g, 0, none⟩ v0).setCell ⟨g, 1, none⟩ v1).setCell ⟨g, 2, none⟩ v2).setCell ⟨g, 3, none⟩ v3) [(g, t, #[v0, v1, v2, v3]), a, c] := by
  have R := ret4' (h.blk 0 rfl) h.1 (h.ge 0 rfl) v0 v1 v2 v3
  refine h.swap R.1 (h.ge 0 rfl) R.2.1 R.2.2 (fun b hb => ?_)
  simp only [List.mem_cons, List.not_mem_nil, or_false] at hb
  rcases hb with rfl | rfl | rfl
  · exact .inr rfl
  · exact .inl ⟨by simp, ha⟩
  · exact .inl ⟨by simp, hc⟩

set_option maxRecDepth 1000000 in
set_option maxHeartbeats 16000000 in
theorem rbetter_in (L : List (List Leg)) (m : Nat) (hm : m ≤ 6) (hL : L.length = m + 1) (hM : ∀ row ∈ L, row.length = m + 1) (hS : ∀ i j, (0 ≤ (at2 L i j).1 ∧ (at2 L i j).1 ≤ 16000) ∧ -1 ≤ (at2 L i j).2 ∧ (at2 L i j).2 ≤ 16000) :
    ∀ (k : Nat) (b : Option RndI) (Ab : Option Addr) (nb cb : Nat) (b1 b2 : Int) (bf : Bool) (A : Option Addr) (cA : Nat) (Ao : Option Addr) (no co : Nat) (o : List Nat) (s1 s2 : Int) (w : World),
      BestIs w b Ab nb b1 b2 bf → Low w Ab nb → RowsAt w w.heap.size A (m + 1) L → IntsAt w w.heap.size Ao no (ix o) → no + k = m → (∀ i ∈ o, i ≤ m) → (0 ≤ s1 ∧ s1 + 16000 * ((k : Int) + 1) ≤ 200000) → (0 ≤ s2 ∧ s2 + 16000 * ((k : Int) + 1) ≤ 200000) →
      CallsIn Fence.wide 9 Tryd.prog 102 #[.agg #[.slice Ab nb cb, .int .i64 b1, .int .i64 b2, .bool bf], .slice A (m + 1) cA, .slice Ao no co, .agg #[.int .i64 s1, .int .i64 s2]] w fun e w' =>
        ∃ A' n' c' x1 x2 f, e = .returned (.agg #[.slice A' n' c', .int .i64 x1, .int .i64 x2, .bool f]) ∧ BestIs w' (betterI L m k o (lst o) (s1, s2) b) A' n' x1 x2 f ∧ Below w.heap.size w w' ∧ Low w' A' n' ∧ Kept w.heap.size Ab nb A' n' := by
  intro k
  induction k with
  | zero =>
    intro b Ab nb cb b1 b2 bf A cA Ao no co o s1 s2 w hbest hlow hrows hord hnk hol hs1 hs2
    have HBE := Lib.hid hbest
    have HLO := Lib.hid hlow
    have HRO0 := Lib.hid hrows
    have HRO := Lib.hid hrows
    have HOR := Lib.hid hord
    have HOL := Lib.hid hol
    have HOR0 := Lib.hid hord
    have HL := Lib.hid hL
    have HM := Lib.hid hM
    have HS := Lib.hid hS
    clear hbest hlow hrows hord hol
    refine callsIn_of_wp Tryd.func102 rfl trivial ?_ rfl
    simp only [Tryd.ntmps102, List.size_toArray, List.length_cons, List.length_nil, Nat.reduceAdd, Nat.reduceSub, Array.replicate_succ, Array.replicate_zero, List.push_toArray, List.append_toArray, List.nil_append, List.cons_append]
    gi_upto_region 2 with fail
    have HLay := Lib.hid (Lay.three w 172 #[.slice Ab nb cb, .int .i64 b1, .int .i64 b2, .bool bf] 59 #[.int .i64 s1, .int .i64 s2] 172 #[.slice none 0 0, .int .i64 0, .int .i64 0, .bool false])
    generalize (((w.alloc (.cells #[.slice Ab nb cb, .int .i64 b1, .int .i64 b2, .bool bf] 172)).alloc (.cells #[.int .i64 s1, .int .i64 s2] 59)).alloc (.cells #[.slice none 0 0, .int .i64 0, .int .i64 0, .bool false] 172)) = w0 at *
    replace HRO := Lib.hid ((HRO.out.below HLay.out.1).more HLay.out.1.size)
    replace HOR := Lib.hid (ints_up HOR.out HLay.out.1)
    by_cases hno : no = 0
    · have e9 : lst o = 0 := by
        have h := HOR.out.len
        have h2 : o.length = 0 := by simp [ix] at h; omega
        rw [List.length_eq_zero_iff.1 h2]; rfl
      have HLB := Lib.hid (lst_le HOL.out)
      have hlb := HLB.out
      obtain ⟨bA, oA, rb, ro, rc, hAe, hbl, hrl, r0, r1, r2⟩ := rows_leg HRO.out HL.out HM.out (i := lst o) (j := 0) (by omega) (by omega)
      have hsm := HS.out (lst o) 0
      obtain ⟨x, hx⟩ : ∃ x, at2 L (lst o) 0 = x := ⟨_, rfl⟩
      rw [hx] at r1 r2 hsm
      have HX := Lib.hid hx
      clear hx
      obtain ⟨d1, d2⟩ := x
      simp only at r1 r2 hsm
      simp only [Nat.zero_mul, Nat.add_zero] at r1 r2
      rw [e9, Nat.add_zero] at r0
      subst hAe
      have x0 := (HLay.out.blk 0 rfl).cell 0
      have x1 := (HLay.out.blk 0 rfl).cell 1
      have x2 := (HLay.out.blk 0 rfl).cell 2
      have x3 := (HLay.out.blk 0 rfl).cell 3
      have y0 := (HLay.out.blk 1 rfl).cell 0
      have y1 := (HLay.out.blk 1 rfl).cell 1
      have q0 := (HLay.out.blk 1 rfl).frozen 0
      have q1 := (HLay.out.blk 1 rfl).frozen 1
      have v0 := (HLay.out.blk 2 rfl).cell 0
      have z0 := (HLay.out.blk 2 rfl).frozen 0
      have v1 := (HLay.out.blk 2 rfl).cell 1
      have z1 := (HLay.out.blk 2 rfl).frozen 1
      have v2 := (HLay.out.blk 2 rfl).cell 2
      have z2 := (HLay.out.blk 2 rfl).frozen 2
      have v3 := (HLay.out.blk 2 rfl).cell 3
      have z3 := (HLay.out.blk 2 rfl).frozen 3
      have l0 := HLay.out.lt 0 rfl
      have l1 := HLay.out.lt 1 rfl
      have l2 := HLay.out.lt 2 rfl
      obtain rfl : no = m := by omega
      by_cases hd2 : d2 < 0
      · gi_wp2
        have R1 := ret4' (HLay.out.blk 2 rfl) HLay.out.1 (by omega) (.slice Ab nb cb) (.int .i64 b1) (.int .i64 b2) (.bool bf)
        have u0 := R1.1.cell 0
        have u1 := R1.1.cell 1
        have u2 := R1.1.cell 2
        have u3 := R1.1.cell 3
        refine bodyPost_ret (v := .agg #[.slice Ab nb cb, .int .i64 b1, .int .i64 b2, .bool bf]) (by simp [results, Tryd.results102, go_sem, u0, u1, u2, u3]) rfl ⟨_, _, _, _, _, _, rfl, ?_, R1.2.1, fun h a ha => Nat.lt_of_lt_of_le (HLO.out h a ha) R1.2.1.size, .inl ⟨rfl, rfl⟩⟩
        have he : betterI L no 0 o (lst o) (s1, s2) b = b := by unfold betterI dfsI; rw [HX.out, if_pos hd2]; rfl
        rw [he]
        exact HBE.out.up R1.2.1
      · have HV : Hid (betterI L no 0 o (lst o) (s1, s2) b = stepI b (o, (s1 + d1, s2 + d2))) := Lib.hid (by unfold betterI dfsI; rw [HX.out, if_neg hd2]; rfl)
        gi_wp2
        refine Tr.wpIn_region_tree (G := Tr.Up) (V0 := w0) [([], [true, true, true, true, true, true, true, true, true, true, true, true, true, true, true, true, true, true, true, true, true], [])] 1 [false, false, false, false, false, false, false, false, false, false, false, false, false, false, false, false, false, false, false, false, false, true] (by kernel_rfl) (by kernel_rfl) (by kernel_rfl) (below_drewN (Below.refl _ _) 1) ?_
        refine Tr.wpTree_end (A := ?AFazero) rfl ?hqazero ?_
        case hqazero =>
          rintro σ hσ of hof hcl
          have HOF := Lib.hid hof
          have HCL := Lib.hid hcl
          clear hof hcl
          have g0 := fun z => ((HOF.out z).cell (p := ⟨w.heap.size + 1, 0, none⟩) l1).trans y0
          have g1 := fun z => ((HOF.out z).cell (p := ⟨w.heap.size + 1, 1, none⟩) l1).trans y1
          have g2 := fun z => ((HOF.out z).cell (p := ⟨bA, oA, none⟩) hbl).trans r0
          have g3 := fun z => ((HOF.out z).cell (p := ⟨rb, ro, none⟩) hrl).trans r1
          have g4 := fun z => ((HOF.out z).cell (p := ⟨rb, ro + 1, none⟩) hrl).trans r2
          have hfw : ∀ f, Fence.wide.fn f := fun _ => trivial
          simp only [pickB]
          repeat (gi_big_quiet_step (fail))
          refine wpQuietIn_nil ?_
          exact rfl
        intro W1 hW
        have HBW := Lib.hid (show Below w0.heap.size w0 W1 from hW)
        clear hW
        simp only [pickB]
        clear x0 x1 x2 x3 y0 y1 q0 q1 v0 v1 v2 v3 z0 z1 z2 z3 l0 l1 l2
        clear r0 r1 r2
        replace HLay := Lib.hid (HLay.out.below HBW.out)
        have x0 := (HLay.out.blk 0 rfl).cell 0
        have x1 := (HLay.out.blk 0 rfl).cell 1
        have x2 := (HLay.out.blk 0 rfl).cell 2
        have x3 := (HLay.out.blk 0 rfl).cell 3
        have y0 := (HLay.out.blk 1 rfl).cell 0
        have y1 := (HLay.out.blk 1 rfl).cell 1
        have q0 := (HLay.out.blk 1 rfl).frozen 0
        have q1 := (HLay.out.blk 1 rfl).frozen 1
        have v0 := (HLay.out.blk 2 rfl).cell 0
        have z0 := (HLay.out.blk 2 rfl).frozen 0
        have v1 := (HLay.out.blk 2 rfl).cell 1
        have z1 := (HLay.out.blk 2 rfl).frozen 1
        have v2 := (HLay.out.blk 2 rfl).cell 2
        have z2 := (HLay.out.blk 2 rfl).frozen 2
        have v3 := (HLay.out.blk 2 rfl).cell 3
        have z3 := (HLay.out.blk 2 rfl).frozen 3
        have l0 := HLay.out.lt 0 rfl
        have l1 := HLay.out.lt 1 rfl
        have l2 := HLay.out.lt 2 rfl
        refine wpT_cons ?_
        gi_wp2
        refine wpT_nil ?_
        clear x0 x1 x2 x3 y0 y1 q0 q1 v0 v1 v2 v3 z0 z1 z2 z3 l0 l1 l2
        replace HLay := Lib.hid (HLay.out.mid (by simp) (by simp) (.int .i64 (s1 + d1)) (.int .i64 (s2 + d2)))
        generalize ((W1.setCell ⟨w.heap.size + 1, 0, none⟩ (.int .i64 (s1 + d1))).setCell ⟨w.heap.size + 1, 1, none⟩ (.int .i64 (s2 + d2))) = W2 at *
        have x0 := (HLay.out.blk 0 rfl).cell 0
        have x1 := (HLay.out.blk 0 rfl).cell 1
        have x2 := (HLay.out.blk 0 rfl).cell 2
        have x3 := (HLay.out.blk 0 rfl).cell 3
        have y0 := (HLay.out.blk 1 rfl).cell 0
        have y1 := (HLay.out.blk 1 rfl).cell 1
        have q0 := (HLay.out.blk 1 rfl).frozen 0
        have q1 := (HLay.out.blk 1 rfl).frozen 1
        have v0 := (HLay.out.blk 2 rfl).cell 0
        have z0 := (HLay.out.blk 2 rfl).frozen 0
        have v1 := (HLay.out.blk 2 rfl).cell 1
        have z1 := (HLay.out.blk 2 rfl).frozen 1
        have v2 := (HLay.out.blk 2 rfl).cell 2
        have z2 := (HLay.out.blk 2 rfl).frozen 2
        have v3 := (HLay.out.blk 2 rfl).cell 3
        have z3 := (HLay.out.blk 2 rfl).frozen 3
        have l0 := HLay.out.lt 0 rfl
        have l1 := HLay.out.lt 1 rfl
        have l2 := HLay.out.lt 2 rfl
        cases b with
        | none =>
          have hbf : bf = false := HBE.out
          subst hbf
          gi_wp2
          refine ⟨trivial, ?_⟩
          gi_wp2
          refine Tr.wpIn_region_tree (G := UpB W2.heap.size) (V0 := W2) [([], [false, true, false, true], [0]), ([0], [], [2]), ([0, 2], [false, false, false, false, true], [])] 3 [false, false, false, false, false, true] (by kernel_rfl) (by kernel_rfl) (by kernel_rfl) (below_drewN (Below.refl _ _) 1) ?_
          refine Tr.wpTree_one (A := ?AGazero) rfl rfl ?hrazero ?_
          case hrazero =>
            rintro σ hσ of hof hcl
            have HOF := Lib.hid hof
            have HCL := Lib.hid hcl
            clear hof hcl
            have g0 : ∀ z, (of z).cell? ⟨w.heap.size + 1, 0, none⟩ = some (.int .i64 (s1 + d1)) := fun z => (((HOF.out z).2 (Nat.le_refl _)).cell (p := ⟨w.heap.size + 1, 0, none⟩) l1).trans y0
            have g1 : ∀ z, (of z).cell? ⟨w.heap.size + 1, 1, none⟩ = some (.int .i64 (s2 + d2)) := fun z => (((HOF.out z).2 (Nat.le_refl _)).cell (p := ⟨w.heap.size + 1, 1, none⟩) l1).trans y1
            have hfw : ∀ f, Fence.wide.fn f := fun _ => trivial
            simp only [pickB]
            repeat (gi_big_quiet_step (fail))
            refine wpQuietIn_nil ?_
            exact rfl
          intro W5 hW5
          have hs5 := hW5.size
          replace HLay := Lib.hid (HLay.out.below hW5)
          have hl5 := HLay.out.lt 2 rfl
          have HO5 := Lib.hid (own_empty W5)
          have HB5 := Lib.hid (show Below W5.heap.size W5 (W5.alloc (.cells #[] 3)) from (Below.refl _ _).alloc (Nat.le_refl _) _)
          have HUP := Lib.hid (show Below W2.heap.size W5 (W5.alloc (.cells #[] 3)) from (Below.refl _ _).alloc hs5 _)
          clear x0 x1 x2 x3 y0 y1 q0 q1 v0 v1 v2 v3 z0 z1 z2 z3 l0 l1 l2
          clear hW5
          gi_wp2
          refine ⟨trivial, UpB.of_below HUP.out, ?_⟩
          clear HUP
          generalize (W5.alloc (.cells #[] 3)) = W6 at *
          refine Tr.wpTree_one (m := []) rfl rfl Gr.Quietly.none ?_
          intro W7 hW7
          have HO7 := Lib.hid (HO5.out.below hW7 (Nat.le_refl _))
          have HB7 := Lib.hid (HB5.out.trans (hW7.mono HB5.out.size))
          have HRX := Lib.hid (show IntsAt W7 W7.heap.size Ao 0 (ix o) from by
            have h := ints_up HOR0.out (HLay.out.1.trans (HB7.out.mono HLay.out.1.size))
            first | exact h | (rw [hno] at h; exact h))
          have hs7 := HB7.out.size
          clear hW7
          gi_wp2_with (first | (gi_at_builtin; refine wpListIn_append_any rfl (.tmp 68) (.tmp 69) (by rfl) elem_int rfl HO7.out rfl HRX.out (ints_one _) (by unfold maxLen; omega) (by omega) hs7 ?_) | fail)
          rintro A8 q8 W8 hown hgr hA8
          have HO8 := Lib.hid (show Own W8 W5.heap.size 3 1 A8 0 q8 ((ix o).map (Value.int .i64)) from by simpa using hown)
          have HB8 := Lib.hid (HB7.out.grown hgr HB7.out.size (fun j hj => own_row HO7.out hj))
          have HUP := Lib.hid ((Below.refl W2.heap.size W7).grown hgr (Nat.le_trans hs5 hs7) (fun j hj => Nat.le_trans hs5 (own_row HO7.out hj)))
          clear hown hgr hA8
          try simp only [Nat.zero_add]
          gi_wp2
          refine ⟨trivial, UpB.of_below HUP.out, ?_⟩
          refine Tr.wpTree_end (A := ?AIazero) rfl ?hsazero ?_
          case hsazero =>
            rintro σ hσ of hof hcl
            have HOF := Lib.hid hof
            have HCL := Lib.hid hcl
            clear hof hcl
            have hfw : ∀ f, Fence.wide.fn f := fun _ => trivial
            simp only [pickB]
            repeat (gi_big_quiet_step (fail))
            refine wpQuietIn_nil ?_
            exact rfl
          intro W9 hW9
          simp only [pickB]
          replace HLay := Lib.hid (HLay.out.below (HB8.out.trans (hW9.mono HB8.out.size)))
          have HO9 := Lib.hid (HO8.out.below hW9 (Nat.le_refl _))
          clear hW9
          have x0 := (HLay.out.blk 0 rfl).cell 0
          have x1 := (HLay.out.blk 0 rfl).cell 1
          have x2 := (HLay.out.blk 0 rfl).cell 2
          have x3 := (HLay.out.blk 0 rfl).cell 3
          have y0 := (HLay.out.blk 1 rfl).cell 0
          have y1 := (HLay.out.blk 1 rfl).cell 1
          have q0 := (HLay.out.blk 1 rfl).frozen 0
          have q1 := (HLay.out.blk 1 rfl).frozen 1
          have v0 := (HLay.out.blk 2 rfl).cell 0
          have z0 := (HLay.out.blk 2 rfl).frozen 0
          have v1 := (HLay.out.blk 2 rfl).cell 1
          have z1 := (HLay.out.blk 2 rfl).frozen 1
          have v2 := (HLay.out.blk 2 rfl).cell 2
          have z2 := (HLay.out.blk 2 rfl).frozen 2
          have v3 := (HLay.out.blk 2 rfl).cell 3
          have z3 := (HLay.out.blk 2 rfl).frozen 3
          have l0 := HLay.out.lt 0 rfl
          have l1 := HLay.out.lt 1 rfl
          have l2 := HLay.out.lt 2 rfl
          refine wpT_cons ?_
          gi_wp2
          refine wpT_nil ?_
          gi_wp2
          clear x0 x1 x2 x3 y0 y1 q0 q1 v0 v1 v2 v3 z0 z1 z2 z3 l0 l1 l2
          have R1 := ret4' (HLay.out.blk 2 rfl) HLay.out.1 (by omega) (.slice A8 0 q8) (.int .i64 (s1 + d1)) (.int .i64 (s2 + d2)) (.bool true)
          have u0 := R1.1.cell 0
          have u1 := R1.1.cell 1
          have u2 := R1.1.cell 2
          have u3 := R1.1.cell 3
          refine bodyPost_ret (v := .agg #[.slice A8 0 q8, .int .i64 (s1 + d1), .int .i64 (s2 + d2), .bool true]) (by simp [results, Tryd.results102, go_sem, u0, u1, u2, u3]) rfl ⟨_, _, _, _, _, _, rfl, ?_, R1.2.1, fun _ a ha => Nat.lt_of_lt_of_le (HO9.out.lt ha).2 R1.2.2.size, .inr (fun a ha => by have := (HO9.out.lt ha).1; omega)⟩
          rw [HV.out]
          show BestIs _ (some (o, (s1 + d1, s2 + d2))) _ _ _ _ _
          exact ⟨rfl, ints_off (ints_of_own HO9.out (Nat.le_refl _)) (fun a ha => by have := (HO9.out.lt ha).1; omega) R1.2.2, rfl, rfl⟩
        | some y =>
          obtain ⟨hbf, hby, hb1, hb2⟩ := (show bf = true ∧ IntsAt w w.heap.size Ab nb (ix y.1) ∧ b1 = y.2.1 ∧ b2 = y.2.2 from HBE.out)
          subst hbf
          have HLS := Lib.hid (show lessG (s1 + d1, s2 + d2) y.2 = lessP (s1 + d1) (s2 + d2) b1 b2 from by rw [hb1, hb2]; rfl)
          clear hby hb1 hb2
          gi_wp2
          refine ⟨trivial, (callsIn_wide.2 (lessToil_any _ _ _ _ W2)).mono ?_⟩
          rintro e W3 ⟨rfl, hb3⟩
          replace HLay := Lib.hid (HLay.out.below hb3)
          clear x0 x1 x2 x3 y0 y1 q0 q1 v0 v1 v2 v3 z0 z1 z2 z3 l0 l1 l2
          clear hb3
          generalize lessP (s1 + d1) (s2 + d2) b1 b2 = lf at *
          have x0 := (HLay.out.blk 0 rfl).cell 0
          have x1 := (HLay.out.blk 0 rfl).cell 1
          have x2 := (HLay.out.blk 0 rfl).cell 2
          have x3 := (HLay.out.blk 0 rfl).cell 3
          have y0 := (HLay.out.blk 1 rfl).cell 0
          have y1 := (HLay.out.blk 1 rfl).cell 1
          have q0 := (HLay.out.blk 1 rfl).frozen 0
          have q1 := (HLay.out.blk 1 rfl).frozen 1
          have v0 := (HLay.out.blk 2 rfl).cell 0
          have z0 := (HLay.out.blk 2 rfl).frozen 0
          have v1 := (HLay.out.blk 2 rfl).cell 1
          have z1 := (HLay.out.blk 2 rfl).frozen 1
          have v2 := (HLay.out.blk 2 rfl).cell 2
          have z2 := (HLay.out.blk 2 rfl).frozen 2
          have v3 := (HLay.out.blk 2 rfl).cell 3
          have z3 := (HLay.out.blk 2 rfl).frozen 3
          have l0 := HLay.out.lt 0 rfl
          have l1 := HLay.out.lt 1 rfl
          have l2 := HLay.out.lt 2 rfl
          cases lf
          · gi_wp2
            have R1 := ret4' (HLay.out.blk 2 rfl) HLay.out.1 (by omega) (.slice Ab nb cb) (.int .i64 b1) (.int .i64 b2) (.bool true)
            have u0 := R1.1.cell 0
            have u1 := R1.1.cell 1
            have u2 := R1.1.cell 2
            have u3 := R1.1.cell 3
            refine bodyPost_ret (v := .agg #[.slice Ab nb cb, .int .i64 b1, .int .i64 b2, .bool true]) (by simp [results, Tryd.results102, go_sem, u0, u1, u2, u3]) rfl ⟨_, _, _, _, _, _, rfl, ?_, R1.2.1, fun h a ha => Nat.lt_of_lt_of_le (HLO.out h a ha) R1.2.1.size, .inl ⟨rfl, rfl⟩⟩
            rw [HV.out, show stepI (some y) (o, (s1 + d1, s2 + d2)) = some y from by unfold stepI; exact if_neg (by rw [HLS.out]; decide)]
            exact HBE.out.up R1.2.1
          · gi_wp2
            refine Tr.wpIn_region_tree (G := UpB W3.heap.size) (V0 := W3) [([], [false, true, false, true], [0]), ([0], [], [2]), ([0, 2], [false, false, false, false, true], [])] 3 [false, false, false, false, false, true] (by kernel_rfl) (by kernel_rfl) (by kernel_rfl) (below_drewN (Below.refl _ _) 1) ?_
            refine Tr.wpTree_one (A := ?AGazeros) rfl rfl ?hrazeros ?_
            case hrazeros =>
              rintro σ hσ of hof hcl
              have HOF := Lib.hid hof
              have HCL := Lib.hid hcl
              clear hof hcl
              have g0 : ∀ z, (of z).cell? ⟨w.heap.size + 1, 0, none⟩ = some (.int .i64 (s1 + d1)) := fun z => (((HOF.out z).2 (Nat.le_refl _)).cell (p := ⟨w.heap.size + 1, 0, none⟩) l1).trans y0
              have g1 : ∀ z, (of z).cell? ⟨w.heap.size + 1, 1, none⟩ = some (.int .i64 (s2 + d2)) := fun z => (((HOF.out z).2 (Nat.le_refl _)).cell (p := ⟨w.heap.size + 1, 1, none⟩) l1).trans y1
              have hfw : ∀ f, Fence.wide.fn f := fun _ => trivial
              simp only [pickB]
              repeat (gi_big_quiet_step (fail))
              refine wpQuietIn_nil ?_
              exact rfl
            intro W5 hW5
            have hs5 := hW5.size
            replace HLay := Lib.hid (HLay.out.below hW5)
            have hl5 := HLay.out.lt 2 rfl
            have HO5 := Lib.hid (own_empty W5)
            have HB5 := Lib.hid (show Below W5.heap.size W5 (W5.alloc (.cells #[] 3)) from (Below.refl _ _).alloc (Nat.le_refl _) _)
            have HUP := Lib.hid (show Below W3.heap.size W5 (W5.alloc (.cells #[] 3)) from (Below.refl _ _).alloc hs5 _)
            clear x0 x1 x2 x3 y0 y1 q0 q1 v0 v1 v2 v3 z0 z1 z2 z3 l0 l1 l2
            clear hW5
            gi_wp2
            refine ⟨trivial, UpB.of_below HUP.out, ?_⟩
            clear HUP
            generalize (W5.alloc (.cells #[] 3)) = W6 at *
            refine Tr.wpTree_one (m := []) rfl rfl Gr.Quietly.none ?_
            intro W7 hW7
            have HO7 := Lib.hid (HO5.out.below hW7 (Nat.le_refl _))
            have HB7 := Lib.hid (HB5.out.trans (hW7.mono HB5.out.size))
            have HRX := Lib.hid (show IntsAt W7 W7.heap.size Ao 0 (ix o) from by
            have h := ints_up HOR0.out (HLay.out.1.trans (HB7.out.mono HLay.out.1.size))
            first | exact h | (rw [hno] at h; exact h))
            have hs7 := HB7.out.size
            clear hW7
            gi_wp2_with (first | (gi_at_builtin; refine wpListIn_append_any rfl (.tmp 68) (.tmp 69) (by rfl) elem_int rfl HO7.out rfl HRX.out (ints_one _) (by unfold maxLen; omega) (by omega) hs7 ?_) | fail)
            rintro A8 q8 W8 hown hgr hA8
            have HO8 := Lib.hid (show Own W8 W5.heap.size 3 1 A8 0 q8 ((ix o).map (Value.int .i64)) from by simpa using hown)
            have HB8 := Lib.hid (HB7.out.grown hgr HB7.out.size (fun j hj => own_row HO7.out hj))
            have HUP := Lib.hid ((Below.refl W3.heap.size W7).grown hgr (Nat.le_trans hs5 hs7) (fun j hj => Nat.le_trans hs5 (own_row HO7.out hj)))
            clear hown hgr hA8
            try simp only [Nat.zero_add]
            gi_wp2
            refine ⟨trivial, UpB.of_below HUP.out, ?_⟩
            refine Tr.wpTree_end (A := ?AIazeros) rfl ?hsazeros ?_
            case hsazeros =>
              rintro σ hσ of hof hcl
              have HOF := Lib.hid hof
              have HCL := Lib.hid hcl
              clear hof hcl
              have hfw : ∀ f, Fence.wide.fn f := fun _ => trivial
              simp only [pickB]
              repeat (gi_big_quiet_step (fail))
              refine wpQuietIn_nil ?_
              exact rfl
            intro W9 hW9
            simp only [pickB]
            replace HLay := Lib.hid (HLay.out.below (HB8.out.trans (hW9.mono HB8.out.size)))
            have HO9 := Lib.hid (HO8.out.below hW9 (Nat.le_refl _))
            clear hW9
            have x0 := (HLay.out.blk 0 rfl).cell 0
            have x1 := (HLay.out.blk 0 rfl).cell 1
            have x2 := (HLay.out.blk 0 rfl).cell 2
            have x3 := (HLay.out.blk 0 rfl).cell 3
            have y0 := (HLay.out.blk 1 rfl).cell 0
            have y1 := (HLay.out.blk 1 rfl).cell 1
            have q0 := (HLay.out.blk 1 rfl).frozen 0
            have q1 := (HLay.out.blk 1 rfl).frozen 1
            have v0 := (HLay.out.blk 2 rfl).cell 0
            have z0 := (HLay.out.blk 2 rfl).frozen 0
            have v1 := (HLay.out.blk 2 rfl).cell 1
            have z1 := (HLay.out.blk 2 rfl).frozen 1
            have v2 := (HLay.out.blk 2 rfl).cell 2
            have z2 := (HLay.out.blk 2 rfl).frozen 2
            have v3 := (HLay.out.blk 2 rfl).cell 3
            have z3 := (HLay.out.blk 2 rfl).frozen 3
            have l0 := HLay.out.lt 0 rfl
            have l1 := HLay.out.lt 1 rfl
            have l2 := HLay.out.lt 2 rfl
            refine wpT_cons ?_
            gi_wp2
            refine wpT_nil ?_
            gi_wp2
            clear x0 x1 x2 x3 y0 y1 q0 q1 v0 v1 v2 v3 z0 z1 z2 z3 l0 l1 l2
            have R1 := ret4' (HLay.out.blk 2 rfl) HLay.out.1 (by omega) (.slice A8 0 q8) (.int .i64 (s1 + d1)) (.int .i64 (s2 + d2)) (.bool true)
            have u0 := R1.1.cell 0
            have u1 := R1.1.cell 1
            have u2 := R1.1.cell 2
            have u3 := R1.1.cell 3
            refine bodyPost_ret (v := .agg #[.slice A8 0 q8, .int .i64 (s1 + d1), .int .i64 (s2 + d2), .bool true]) (by simp [results, Tryd.results102, go_sem, u0, u1, u2, u3]) rfl ⟨_, _, _, _, _, _, rfl, ?_, R1.2.1, fun _ a ha => Nat.lt_of_lt_of_le (HO9.out.lt ha).2 R1.2.2.size, .inr (fun a ha => by have := (HO9.out.lt ha).1; omega)⟩
            rw [HV.out]
            rw [show stepI (some y) (o, (s1 + d1, s2 + d2)) = some (o, (s1 + d1, s2 + d2)) from by unfold stepI; exact if_pos HLS.out]
            exact ⟨rfl, ints_off (ints_of_own HO9.out (Nat.le_refl _)) (fun a ha => by have := (HO9.out.lt ha).1; omega) R1.2.2, rfl, rfl⟩
    · obtain ⟨oo, ol, ox, rfl, hob, hox, hoc⟩ := HOR.out.cell (k := no - 1) (by omega)
      have e9 : ox = (lst o : Int) := by
        have hl : o.length = no := by have := HOR.out.len; simpa [ix] using this
        unfold ix at hox
        rw [List.getElem?_map] at hox
        unfold lst
        rw [List.getLast?_eq_getElem?, hl]
        cases hz : o[no - 1]? with
        | none => rw [hz] at hox; cases hox
        | some y => rw [hz] at hox; simpa using hox.symm
      subst e9
      have e9' : ((no : Int) - 1).toNat = no - 1 := by omega
      have HLB := Lib.hid (lst_le HOL.out)
      clear hox
      have hlb := HLB.out
      obtain ⟨bA, oA, rb, ro, rc, hAe, hbl, hrl, r0, r1, r2⟩ := rows_leg HRO.out HL.out HM.out (i := lst o) (j := 0) (by omega) (by omega)
      have hsm := HS.out (lst o) 0
      obtain ⟨x, hx⟩ : ∃ x, at2 L (lst o) 0 = x := ⟨_, rfl⟩
      rw [hx] at r1 r2 hsm
      have HX := Lib.hid hx
      clear hx
      obtain ⟨d1, d2⟩ := x
      simp only at r1 r2 hsm
      simp only [Nat.zero_mul, Nat.add_zero] at r1 r2
      subst hAe
      have x0 := (HLay.out.blk 0 rfl).cell 0
      have x1 := (HLay.out.blk 0 rfl).cell 1
      have x2 := (HLay.out.blk 0 rfl).cell 2
      have x3 := (HLay.out.blk 0 rfl).cell 3
      have y0 := (HLay.out.blk 1 rfl).cell 0
      have y1 := (HLay.out.blk 1 rfl).cell 1
      have q0 := (HLay.out.blk 1 rfl).frozen 0
      have q1 := (HLay.out.blk 1 rfl).frozen 1
      have v0 := (HLay.out.blk 2 rfl).cell 0
      have z0 := (HLay.out.blk 2 rfl).frozen 0
      have v1 := (HLay.out.blk 2 rfl).cell 1
      have z1 := (HLay.out.blk 2 rfl).frozen 1
      have v2 := (HLay.out.blk 2 rfl).cell 2
      have z2 := (HLay.out.blk 2 rfl).frozen 2
      have v3 := (HLay.out.blk 2 rfl).cell 3
      have z3 := (HLay.out.blk 2 rfl).frozen 3
      have l0 := HLay.out.lt 0 rfl
      have l1 := HLay.out.lt 1 rfl
      have l2 := HLay.out.lt 2 rfl
      obtain rfl : no = m := by omega
      by_cases hd2 : d2 < 0
      · gi_wp2
        have R1 := ret4' (HLay.out.blk 2 rfl) HLay.out.1 (by omega) (.slice Ab nb cb) (.int .i64 b1) (.int .i64 b2) (.bool bf)
        have u0 := R1.1.cell 0
        have u1 := R1.1.cell 1
        have u2 := R1.1.cell 2
        have u3 := R1.1.cell 3
        refine bodyPost_ret (v := .agg #[.slice Ab nb cb, .int .i64 b1, .int .i64 b2, .bool bf]) (by simp [results, Tryd.results102, go_sem, u0, u1, u2, u3]) rfl ⟨_, _, _, _, _, _, rfl, ?_, R1.2.1, fun h a ha => Nat.lt_of_lt_of_le (HLO.out h a ha) R1.2.1.size, .inl ⟨rfl, rfl⟩⟩
        have he : betterI L no 0 o (lst o) (s1, s2) b = b := by unfold betterI dfsI; rw [HX.out, if_pos hd2]; rfl
        rw [he]
        exact HBE.out.up R1.2.1
      · have HV : Hid (betterI L no 0 o (lst o) (s1, s2) b = stepI b (o, (s1 + d1, s2 + d2))) := Lib.hid (by unfold betterI dfsI; rw [HX.out, if_neg hd2]; rfl)
        gi_wp2
        refine Tr.wpIn_region_tree (G := Tr.Up) (V0 := w0) [([], [true, true, true, true, true, true, true, true, true, true, true, true, true, true, true, true, true, true, true, true, true], [])] 1 [false, false, false, false, false, false, false, false, false, false, false, false, false, false, false, false, false, false, false, false, false, true] (by kernel_rfl) (by kernel_rfl) (by kernel_rfl) (below_drewN (Below.refl _ _) 1) ?_
        refine Tr.wpTree_end (A := ?AFbzero) rfl ?hqbzero ?_
        case hqbzero =>
          rintro σ hσ of hof hcl
          have HOF := Lib.hid hof
          have HCL := Lib.hid hcl
          clear hof hcl
          have g0 := fun z => ((HOF.out z).cell (p := ⟨w.heap.size + 1, 0, none⟩) l1).trans y0
          have g1 := fun z => ((HOF.out z).cell (p := ⟨w.heap.size + 1, 1, none⟩) l1).trans y1
          have g2 := fun z => ((HOF.out z).cell (p := ⟨bA, oA + lst o, none⟩) hbl).trans r0
          have g3 := fun z => ((HOF.out z).cell (p := ⟨rb, ro, none⟩) hrl).trans r1
          have g4 := fun z => ((HOF.out z).cell (p := ⟨rb, ro + 1, none⟩) hrl).trans r2
          have hfw : ∀ f, Fence.wide.fn f := fun _ => trivial
          simp only [pickB]
          repeat (gi_big_quiet_step (fail))
          refine wpQuietIn_nil ?_
          exact rfl
        intro W1 hW
        have HBW := Lib.hid (show Below w0.heap.size w0 W1 from hW)
        clear hW
        simp only [pickB]
        clear x0 x1 x2 x3 y0 y1 q0 q1 v0 v1 v2 v3 z0 z1 z2 z3 l0 l1 l2
        clear r0 r1 r2
        replace HLay := Lib.hid (HLay.out.below HBW.out)
        have x0 := (HLay.out.blk 0 rfl).cell 0
        have x1 := (HLay.out.blk 0 rfl).cell 1
        have x2 := (HLay.out.blk 0 rfl).cell 2
        have x3 := (HLay.out.blk 0 rfl).cell 3
        have y0 := (HLay.out.blk 1 rfl).cell 0
        have y1 := (HLay.out.blk 1 rfl).cell 1
        have q0 := (HLay.out.blk 1 rfl).frozen 0
        have q1 := (HLay.out.blk 1 rfl).frozen 1
        have v0 := (HLay.out.blk 2 rfl).cell 0
        have z0 := (HLay.out.blk 2 rfl).frozen 0
        have v1 := (HLay.out.blk 2 rfl).cell 1
        have z1 := (HLay.out.blk 2 rfl).frozen 1
        have v2 := (HLay.out.blk 2 rfl).cell 2
        have z2 := (HLay.out.blk 2 rfl).frozen 2
        have v3 := (HLay.out.blk 2 rfl).cell 3
        have z3 := (HLay.out.blk 2 rfl).frozen 3
        have l0 := HLay.out.lt 0 rfl
        have l1 := HLay.out.lt 1 rfl
        have l2 := HLay.out.lt 2 rfl
        refine wpT_cons ?_
        gi_wp2
        refine wpT_nil ?_
        clear x0 x1 x2 x3 y0 y1 q0 q1 v0 v1 v2 v3 z0 z1 z2 z3 l0 l1 l2
        replace HLay := Lib.hid (HLay.out.mid (by simp) (by simp) (.int .i64 (s1 + d1)) (.int .i64 (s2 + d2)))
        generalize ((W1.setCell ⟨w.heap.size + 1, 0, none⟩ (.int .i64 (s1 + d1))).setCell ⟨w.heap.size + 1, 1, none⟩ (.int .i64 (s2 + d2))) = W2 at *
        have x0 := (HLay.out.blk 0 rfl).cell 0
        have x1 := (HLay.out.blk 0 rfl).cell 1
        have x2 := (HLay.out.blk 0 rfl).cell 2
        have x3 := (HLay.out.blk 0 rfl).cell 3
        have y0 := (HLay.out.blk 1 rfl).cell 0
        have y1 := (HLay.out.blk 1 rfl).cell 1
        have q0 := (HLay.out.blk 1 rfl).frozen 0
        have q1 := (HLay.out.blk 1 rfl).frozen 1
        have v0 := (HLay.out.blk 2 rfl).cell 0
        have z0 := (HLay.out.blk 2 rfl).frozen 0
        have v1 := (HLay.out.blk 2 rfl).cell 1
        have z1 := (HLay.out.blk 2 rfl).frozen 1
        have v2 := (HLay.out.blk 2 rfl).cell 2
        have z2 := (HLay.out.blk 2 rfl).frozen 2
        have v3 := (HLay.out.blk 2 rfl).cell 3
        have z3 := (HLay.out.blk 2 rfl).frozen 3
        have l0 := HLay.out.lt 0 rfl
        have l1 := HLay.out.lt 1 rfl
        have l2 := HLay.out.lt 2 rfl
        cases b with
        | none =>
          have hbf : bf = false := HBE.out
          subst hbf
          gi_wp2
          refine ⟨trivial, ?_⟩
          gi_wp2
          refine Tr.wpIn_region_tree (G := UpB W2.heap.size) (V0 := W2) [([], [false, true, false, true], [0]), ([0], [], [2]), ([0, 2], [false, false, false, false, true], [])] 3 [false, false, false, false, false, true] (by kernel_rfl) (by kernel_rfl) (by kernel_rfl) (below_drewN (Below.refl _ _) 1) ?_
          refine Tr.wpTree_one (A := ?AGbzero) rfl rfl ?hrbzero ?_
          case hrbzero =>
            rintro σ hσ of hof hcl
            have HOF := Lib.hid hof
            have HCL := Lib.hid hcl
            clear hof hcl
            have g0 : ∀ z, (of z).cell? ⟨w.heap.size + 1, 0, none⟩ = some (.int .i64 (s1 + d1)) := fun z => (((HOF.out z).2 (Nat.le_refl _)).cell (p := ⟨w.heap.size + 1, 0, none⟩) l1).trans y0
            have g1 : ∀ z, (of z).cell? ⟨w.heap.size + 1, 1, none⟩ = some (.int .i64 (s2 + d2)) := fun z => (((HOF.out z).2 (Nat.le_refl _)).cell (p := ⟨w.heap.size + 1, 1, none⟩) l1).trans y1
            have hfw : ∀ f, Fence.wide.fn f := fun _ => trivial
            simp only [pickB]
            repeat (gi_big_quiet_step (fail))
            refine wpQuietIn_nil ?_
            exact rfl
          intro W5 hW5
          have hs5 := hW5.size
          replace HLay := Lib.hid (HLay.out.below hW5)
          have hl5 := HLay.out.lt 2 rfl
          have HO5 := Lib.hid (own_empty W5)
          have HB5 := Lib.hid (show Below W5.heap.size W5 (W5.alloc (.cells #[] 3)) from (Below.refl _ _).alloc (Nat.le_refl _) _)
          have HUP := Lib.hid (show Below W2.heap.size W5 (W5.alloc (.cells #[] 3)) from (Below.refl _ _).alloc hs5 _)
          clear x0 x1 x2 x3 y0 y1 q0 q1 v0 v1 v2 v3 z0 z1 z2 z3 l0 l1 l2
          clear hW5
          gi_wp2
          refine ⟨trivial, UpB.of_below HUP.out, ?_⟩
          clear HUP
          generalize (W5.alloc (.cells #[] 3)) = W6 at *
          refine Tr.wpTree_one (m := []) rfl rfl Gr.Quietly.none ?_
          intro W7 hW7
          have HO7 := Lib.hid (HO5.out.below hW7 (Nat.le_refl _))
          have HB7 := Lib.hid (HB5.out.trans (hW7.mono HB5.out.size))
          have HRX := Lib.hid (show IntsAt W7 W7.heap.size (some ⟨oo, ol, none⟩) no (ix o) from by
            have h := ints_up HOR0.out (HLay.out.1.trans (HB7.out.mono HLay.out.1.size))
            first | exact h | (rw [hno] at h; exact h))
          have hs7 := HB7.out.size
          clear hW7
          gi_wp2_with (first | (gi_at_builtin; refine wpListIn_append_any rfl (.tmp 68) (.tmp 69) (by rfl) elem_int rfl HO7.out rfl HRX.out (ints_one _) (by unfold maxLen; omega) (by omega) hs7 ?_) | fail)
          rintro A8 q8 W8 hown hgr hA8
          have HO8 := Lib.hid (show Own W8 W5.heap.size 3 1 A8 no q8 ((ix o).map (Value.int .i64)) from by simpa using hown)
          have HB8 := Lib.hid (HB7.out.grown hgr HB7.out.size (fun j hj => own_row HO7.out hj))
          have HUP := Lib.hid ((Below.refl W2.heap.size W7).grown hgr (Nat.le_trans hs5 hs7) (fun j hj => Nat.le_trans hs5 (own_row HO7.out hj)))
          clear hown hgr hA8
          try simp only [Nat.zero_add]
          gi_wp2
          refine ⟨trivial, UpB.of_below HUP.out, ?_⟩
          refine Tr.wpTree_end (A := ?AIbzero) rfl ?hsbzero ?_
          case hsbzero =>
            rintro σ hσ of hof hcl
            have HOF := Lib.hid hof
            have HCL := Lib.hid hcl
            clear hof hcl
            have hfw : ∀ f, Fence.wide.fn f := fun _ => trivial
            simp only [pickB]
            repeat (gi_big_quiet_step (fail))
            refine wpQuietIn_nil ?_
            exact rfl
          intro W9 hW9
          simp only [pickB]
          replace HLay := Lib.hid (HLay.out.below (HB8.out.trans (hW9.mono HB8.out.size)))
          have HO9 := Lib.hid (HO8.out.below hW9 (Nat.le_refl _))
          clear hW9
          have x0 := (HLay.out.blk 0 rfl).cell 0
          have x1 := (HLay.out.blk 0 rfl).cell 1
          have x2 := (HLay.out.blk 0 rfl).cell 2
          have x3 := (HLay.out.blk 0 rfl).cell 3
          have y0 := (HLay.out.blk 1 rfl).cell 0
          have y1 := (HLay.out.blk 1 rfl).cell 1
          have q0 := (HLay.out.blk 1 rfl).frozen 0
          have q1 := (HLay.out.blk 1 rfl).frozen 1
          have v0 := (HLay.out.blk 2 rfl).cell 0
          have z0 := (HLay.out.blk 2 rfl).frozen 0
          have v1 := (HLay.out.blk 2 rfl).cell 1
          have z1 := (HLay.out.blk 2 rfl).frozen 1
          have v2 := (HLay.out.blk 2 rfl).cell 2
          have z2 := (HLay.out.blk 2 rfl).frozen 2
          have v3 := (HLay.out.blk 2 rfl).cell 3
          have z3 := (HLay.out.blk 2 rfl).frozen 3
          have l0 := HLay.out.lt 0 rfl
          have l1 := HLay.out.lt 1 rfl
          have l2 := HLay.out.lt 2 rfl
          refine wpT_cons ?_
          gi_wp2
          refine wpT_nil ?_
          gi_wp2
          clear x0 x1 x2 x3 y0 y1 q0 q1 v0 v1 v2 v3 z0 z1 z2 z3 l0 l1 l2
          have R1 := ret4' (HLay.out.blk 2 rfl) HLay.out.1 (by omega) (.slice A8 no q8) (.int .i64 (s1 + d1)) (.int .i64 (s2 + d2)) (.bool true)
          have u0 := R1.1.cell 0
          have u1 := R1.1.cell 1
          have u2 := R1.1.cell 2
          have u3 := R1.1.cell 3
          refine bodyPost_ret (v := .agg #[.slice A8 no q8, .int .i64 (s1 + d1), .int .i64 (s2 + d2), .bool true]) (by simp [results, Tryd.results102, go_sem, u0, u1, u2, u3]) rfl ⟨_, _, _, _, _, _, rfl, ?_, R1.2.1, fun _ a ha => Nat.lt_of_lt_of_le (HO9.out.lt ha).2 R1.2.2.size, .inr (fun a ha => by have := (HO9.out.lt ha).1; omega)⟩
          rw [HV.out]
          show BestIs _ (some (o, (s1 + d1, s2 + d2))) _ _ _ _ _
          exact ⟨rfl, ints_off (ints_of_own HO9.out (Nat.le_refl _)) (fun a ha => by have := (HO9.out.lt ha).1; omega) R1.2.2, rfl, rfl⟩
        | some y =>
          obtain ⟨hbf, hby, hb1, hb2⟩ := (show bf = true ∧ IntsAt w w.heap.size Ab nb (ix y.1) ∧ b1 = y.2.1 ∧ b2 = y.2.2 from HBE.out)
          subst hbf
          have HLS := Lib.hid (show lessG (s1 + d1, s2 + d2) y.2 = lessP (s1 + d1) (s2 + d2) b1 b2 from by rw [hb1, hb2]; rfl)
          clear hby hb1 hb2
          gi_wp2
          refine ⟨trivial, (callsIn_wide.2 (lessToil_any _ _ _ _ W2)).mono ?_⟩
          rintro e W3 ⟨rfl, hb3⟩
          replace HLay := Lib.hid (HLay.out.below hb3)
          clear x0 x1 x2 x3 y0 y1 q0 q1 v0 v1 v2 v3 z0 z1 z2 z3 l0 l1 l2
          clear hb3
          generalize lessP (s1 + d1) (s2 + d2) b1 b2 = lf at *
          have x0 := (HLay.out.blk 0 rfl).cell 0
          have x1 := (HLay.out.blk 0 rfl).cell 1
          have x2 := (HLay.out.blk 0 rfl).cell 2
          have x3 := (HLay.out.blk 0 rfl).cell 3
          have y0 := (HLay.out.blk 1 rfl).cell 0
          have y1 := (HLay.out.blk 1 rfl).cell 1
          have q0 := (HLay.out.blk 1 rfl).frozen 0
          have q1 := (HLay.out.blk 1 rfl).frozen 1
          have v0 := (HLay.out.blk 2 rfl).cell 0
          have z0 := (HLay.out.blk 2 rfl).frozen 0
          have v1 := (HLay.out.blk 2 rfl).cell 1
          have z1 := (HLay.out.blk 2 rfl).frozen 1
          have v2 := (HLay.out.blk 2 rfl).cell 2
          have z2 := (HLay.out.blk 2 rfl).frozen 2
          have v3 := (HLay.out.blk 2 rfl).cell 3
          have z3 := (HLay.out.blk 2 rfl).frozen 3
          have l0 := HLay.out.lt 0 rfl
          have l1 := HLay.out.lt 1 rfl
          have l2 := HLay.out.lt 2 rfl
          cases lf
          · gi_wp2
            have R1 := ret4' (HLay.out.blk 2 rfl) HLay.out.1 (by omega) (.slice Ab nb cb) (.int .i64 b1) (.int .i64 b2) (.bool true)
            have u0 := R1.1.cell 0
            have u1 := R1.1.cell 1
            have u2 := R1.1.cell 2
            have u3 := R1.1.cell 3
            refine bodyPost_ret (v := .agg #[.slice Ab nb cb, .int .i64 b1, .int .i64 b2, .bool true]) (by simp [results, Tryd.results102, go_sem, u0, u1, u2, u3]) rfl ⟨_, _, _, _, _, _, rfl, ?_, R1.2.1, fun h a ha => Nat.lt_of_lt_of_le (HLO.out h a ha) R1.2.1.size, .inl ⟨rfl, rfl⟩⟩
            rw [HV.out, show stepI (some y) (o, (s1 + d1, s2 + d2)) = some y from by unfold stepI; exact if_neg (by rw [HLS.out]; decide)]
            exact HBE.out.up R1.2.1
          · gi_wp2
            refine Tr.wpIn_region_tree (G := UpB W3.heap.size) (V0 := W3) [([], [false, true, false, true], [0]), ([0], [], [2]), ([0, 2], [false, false, false, false, true], [])] 3 [false, false, false, false, false, true] (by kernel_rfl) (by kernel_rfl) (by kernel_rfl) (below_drewN (Below.refl _ _) 1) ?_
            refine Tr.wpTree_one (A := ?AGbzeros) rfl rfl ?hrbzeros ?_
            case hrbzeros =>
              rintro σ hσ of hof hcl
              have HOF := Lib.hid hof
              have HCL := Lib.hid hcl
              clear hof hcl
              have g0 : ∀ z, (of z).cell? ⟨w.heap.size + 1, 0, none⟩ = some (.int .i64 (s1 + d1)) := fun z => (((HOF.out z).2 (Nat.le_refl _)).cell (p := ⟨w.heap.size + 1, 0, none⟩) l1).trans y0
              have g1 : ∀ z, (of z).cell? ⟨w.heap.size + 1, 1, none⟩ = some (.int .i64 (s2 + d2)) := fun z => (((HOF.out z).2 (Nat.le_refl _)).cell (p := ⟨w.heap.size + 1, 1, none⟩) l1).trans y1
              have hfw : ∀ f, Fence.wide.fn f := fun _ => trivial
              simp only [pickB]
              repeat (gi_big_quiet_step (fail))
              refine wpQuietIn_nil ?_
              exact rfl
            intro W5 hW5
            have hs5 := hW5.size
            replace HLay := Lib.hid (HLay.out.below hW5)
            have hl5 := HLay.out.lt 2 rfl
            have HO5 := Lib.hid (own_empty W5)
            have HB5 := Lib.hid (show Below W5.heap.size W5 (W5.alloc (.cells #[] 3)) from (Below.refl _ _).alloc (Nat.le_refl _) _)
            have HUP := Lib.hid (show Below W3.heap.size W5 (W5.alloc (.cells #[] 3)) from (Below.refl _ _).alloc hs5 _)
            clear x0 x1 x2 x3 y0 y1 q0 q1 v0 v1 v2 v3 z0 z1 z2 z3 l0 l1 l2
            clear hW5
            gi_wp2
            refine ⟨trivial, UpB.of_below HUP.out, ?_⟩
            clear HUP
            generalize (W5.alloc (.cells #[] 3)) = W6 at *
            refine Tr.wpTree_one (m := []) rfl rfl Gr.Quietly.none ?_
            intro W7 hW7
            have HO7 := Lib.hid (HO5.out.below hW7 (Nat.le_refl _))
            have HB7 := Lib.hid (HB5.out.trans (hW7.mono HB5.out.size))
            have HRX := Lib.hid (show IntsAt W7 W7.heap.size (some ⟨oo, ol, none⟩) no (ix o) from by
            have h := ints_up HOR0.out (HLay.out.1.trans (HB7.out.mono HLay.out.1.size))
            first | exact h | (rw [hno] at h; exact h))
            have hs7 := HB7.out.size
            clear hW7
            gi_wp2_with (first | (gi_at_builtin; refine wpListIn_append_any rfl (.tmp 68) (.tmp 69) (by rfl) elem_int rfl HO7.out rfl HRX.out (ints_one _) (by unfold maxLen; omega) (by omega) hs7 ?_) | fail)
            rintro A8 q8 W8 hown hgr hA8
            have HO8 := Lib.hid (show Own W8 W5.heap.size 3 1 A8 no q8 ((ix o).map (Value.int .i64)) from by simpa using hown)
            have HB8 := Lib.hid (HB7.out.grown hgr HB7.out.size (fun j hj => own_row HO7.out hj))
            have HUP := Lib.hid ((Below.refl W3.heap.size W7).grown hgr (Nat.le_trans hs5 hs7) (fun j hj => Nat.le_trans hs5 (own_row HO7.out hj)))
            clear hown hgr hA8
            try simp only [Nat.zero_add]
            gi_wp2
            refine ⟨trivial, UpB.of_below HUP.out, ?_⟩
            refine Tr.wpTree_end (A := ?AIbzeros) rfl ?hsbzeros ?_
            case hsbzeros =>
              rintro σ hσ of hof hcl
              have HOF := Lib.hid hof
              have HCL := Lib.hid hcl
              clear hof hcl
              have hfw : ∀ f, Fence.wide.fn f := fun _ => trivial
              simp only [pickB]
              repeat (gi_big_quiet_step (fail))
              refine wpQuietIn_nil ?_
              exact rfl
            intro W9 hW9
            simp only [pickB]
            replace HLay := Lib.hid (HLay.out.below (HB8.out.trans (hW9.mono HB8.out.size)))
            have HO9 := Lib.hid (HO8.out.below hW9 (Nat.le_refl _))
            clear hW9
            have x0 := (HLay.out.blk 0 rfl).cell 0
            have x1 := (HLay.out.blk 0 rfl).cell 1
            have x2 := (HLay.out.blk 0 rfl).cell 2
            have x3 := (HLay.out.blk 0 rfl).cell 3
            have y0 := (HLay.out.blk 1 rfl).cell 0
            have y1 := (HLay.out.blk 1 rfl).cell 1
            have q0 := (HLay.out.blk 1 rfl).frozen 0
            have q1 := (HLay.out.blk 1 rfl).frozen 1
            have v0 := (HLay.out.blk 2 rfl).cell 0
            have z0 := (HLay.out.blk 2 rfl).frozen 0
            have v1 := (HLay.out.blk 2 rfl).cell 1
            have z1 := (HLay.out.blk 2 rfl).frozen 1
            have v2 := (HLay.out.blk 2 rfl).cell 2
            have z2 := (HLay.out.blk 2 rfl).frozen 2
            have v3 := (HLay.out.blk 2 rfl).cell 3
            have z3 := (HLay.out.blk 2 rfl).frozen 3
            have l0 := HLay.out.lt 0 rfl
            have l1 := HLay.out.lt 1 rfl
            have l2 := HLay.out.lt 2 rfl
            refine wpT_cons ?_
            gi_wp2
            refine wpT_nil ?_
            gi_wp2
            clear x0 x1 x2 x3 y0 y1 q0 q1 v0 v1 v2 v3 z0 z1 z2 z3 l0 l1 l2
            have R1 := ret4' (HLay.out.blk 2 rfl) HLay.out.1 (by omega) (.slice A8 no q8) (.int .i64 (s1 + d1)) (.int .i64 (s2 + d2)) (.bool true)
            have u0 := R1.1.cell 0
            have u1 := R1.1.cell 1
            have u2 := R1.1.cell 2
            have u3 := R1.1.cell 3
            refine bodyPost_ret (v := .agg #[.slice A8 no q8, .int .i64 (s1 + d1), .int .i64 (s2 + d2), .bool true]) (by simp [results, Tryd.results102, go_sem, u0, u1, u2, u3]) rfl ⟨_, _, _, _, _, _, rfl, ?_, R1.2.1, fun _ a ha => Nat.lt_of_lt_of_le (HO9.out.lt ha).2 R1.2.2.size, .inr (fun a ha => by have := (HO9.out.lt ha).1; omega)⟩
            rw [HV.out]
            rw [show stepI (some y) (o, (s1 + d1, s2 + d2)) = some (o, (s1 + d1, s2 + d2)) from by unfold stepI; exact if_pos HLS.out]
            exact ⟨rfl, ints_off (ints_of_own HO9.out (Nat.le_refl _)) (fun a ha => by have := (HO9.out.lt ha).1; omega) R1.2.2, rfl, rfl⟩
  | succ k ih =>
    intro b Ab nb cb b1 b2 bf A cA Ao no co o s1 s2 w hbest hlow hrows hord hnk hol hs1 hs2
    have HBE := Lib.hid hbest
    have HLO := Lib.hid hlow
    have HRO0 := Lib.hid hrows
    have HRO := Lib.hid hrows
    have HOR := Lib.hid hord
    have HOL := Lib.hid hol
    have HOR0 := Lib.hid hord
    have HL := Lib.hid hL
    have HM := Lib.hid hM
    have HS := Lib.hid hS
    clear hbest hlow hrows hord hol
    refine callsIn_of_wp Tryd.func102 rfl trivial ?_ rfl
    simp only [Tryd.ntmps102, List.size_toArray, List.length_cons, List.length_nil, Nat.reduceAdd, Nat.reduceSub, Array.replicate_succ, Array.replicate_zero, List.push_toArray, List.append_toArray, List.nil_append, List.cons_append]
    gi_upto_region 2 with fail
    have HLay := Lib.hid (Lay.three w 172 #[.slice Ab nb cb, .int .i64 b1, .int .i64 b2, .bool bf] 59 #[.int .i64 s1, .int .i64 s2] 172 #[.slice none 0 0, .int .i64 0, .int .i64 0, .bool false])
    generalize (((w.alloc (.cells #[.slice Ab nb cb, .int .i64 b1, .int .i64 b2, .bool bf] 172)).alloc (.cells #[.int .i64 s1, .int .i64 s2] 59)).alloc (.cells #[.slice none 0 0, .int .i64 0, .int .i64 0, .bool false] 172)) = w0 at *
    replace HRO := Lib.hid ((HRO.out.below HLay.out.1).more HLay.out.1.size)
    replace HOR := Lib.hid (ints_up HOR.out HLay.out.1)
    have HIH := Lib.hid ih
    clear ih
    by_cases hno : no = 0
    · have e9 : lst o = 0 := by
        have h := HOR.out.len
        have h2 : o.length = 0 := by simp [ix] at h; omega
        rw [List.length_eq_zero_iff.1 h2]; rfl
      have HLB := Lib.hid (lst_le HOL.out)
      subst hno
      have hnm : ¬ 0 = m := by omega
      have hlb := HLB.out
      have x0 := (HLay.out.blk 0 rfl).cell 0
      have p0 := (HLay.out.blk 0 rfl).frozen 0
      have x1 := (HLay.out.blk 0 rfl).cell 1
      have p1 := (HLay.out.blk 0 rfl).frozen 1
      have x2 := (HLay.out.blk 0 rfl).cell 2
      have p2 := (HLay.out.blk 0 rfl).frozen 2
      have x3 := (HLay.out.blk 0 rfl).cell 3
      have p3 := (HLay.out.blk 0 rfl).frozen 3
      have y0 := (HLay.out.blk 1 rfl).cell 0
      have y1 := (HLay.out.blk 1 rfl).cell 1
      have v0 := (HLay.out.blk 2 rfl).cell 0
      have z0 := (HLay.out.blk 2 rfl).frozen 0
      have v1 := (HLay.out.blk 2 rfl).cell 1
      have z1 := (HLay.out.blk 2 rfl).frozen 1
      have v2 := (HLay.out.blk 2 rfl).cell 2
      have z2 := (HLay.out.blk 2 rfl).frozen 2
      have v3 := (HLay.out.blk 2 rfl).cell 3
      have z3 := (HLay.out.blk 2 rfl).frozen 3
      have l0 := HLay.out.lt 0 rfl
      have l1 := HLay.out.lt 1 rfl
      have l2 := HLay.out.lt 2 rfl
      gi_wp2
      clear x0 x1 x2 x3 p0 p1 p2 p3 y0 y1 v0 v1 v2 v3 z0 z1 z2 z3 l0 l1 l2
      try simp only [show ((0 : Int) == (m : Int)) = false from beq_eq_false_iff_ne.2 (by omega)]
      try simp only [show decide (0 < 0) = true from decide_eq_true (by omega)]
      gi_loopw [10] (fun v10 wr => ∃ (i : Nat) (A1 : Option Addr) (n1 c1 : Nat) (e1 e2 : Int) (f : Bool), v10 = .int .i64 i ∧ 1 ≤ i ∧ i ≤ m + 1 ∧ Hid (Lay w wr [(w.heap.size, 172, #[.slice A1 n1 c1, .int .i64 e1, .int .i64 e2, .bool f]), (w.heap.size + 1, 59, #[.int .i64 s1, .int .i64 s2]), (w.heap.size + 1 + 1, 172, #[.slice none 0 0, .int .i64 0, .int .i64 0, .bool false])] ∧ BestIs wr (foldN L m k o (lst o) (s1, s2) b i) A1 n1 e1 e2 f ∧ Low wr A1 n1 ∧ Kept w.heap.size Ab nb A1 n1)) (fun v10 _ => m + 1 - (intOf v10).toNat)
      case atStart => exact ⟨1, Ab, nb, cb, b1, b2, bf, rfl, Nat.le_refl _, by omega, Lib.hid ⟨HLay.out, by rw [foldN_one]; exact HBE.out.up HLay.out.1, fun h a ha => Nat.lt_of_lt_of_le (HLO.out h a ha) HLay.out.1.size, .inl ⟨rfl, rfl⟩⟩⟩
      case round =>
        obtain ⟨i, A1, n1, c1, e1, e2, f, rfl, hi1, hi2, HSS⟩ := hrel
        by_cases him : i ≤ m
        · have him' : i < m + 1 := by omega
          gi_wp2
          gi_loopw [11, 82] (fun v11 v82 wr2 => ∃ j : Nat, v82 = .int .i64 j ∧ j ≤ 0 ∧ wr2 = wr ∧ v11 = .bool (decide (i ∈ o.take j))) (fun _ v82 _ => 0 - (intOf v82).toNat)
          case atStart => exact ⟨0, rfl, Nat.zero_le _, rfl, by simp⟩
          case round =>
            obtain ⟨j, rfl, hj, rfl, rfl⟩ := hrel
            by_cases hjn : j < 0
            · exact absurd hjn (Nat.not_lt_zero _)
            · obtain rfl : 0 = j := by omega
              have hol : o.length ≤ 0 := by
                have h1 := HOR0.out.len
                have h2 : (ix o).length = o.length := by simp [ix]
                omega
              rw [List.take_of_length_le hol]
              have HLay := Lib.hid HSS.out.1
              have hww := HLay.out.1.size
              have HBS := Lib.hid HSS.out.2.1
              have HLW := Lib.hid HSS.out.2.2.1
              have HKE := Lib.hid HSS.out.2.2.2
              clear HSS
              have HRW := Lib.hid ((HRO0.out.below HLay.out.1).more HLay.out.1.size)
              by_cases hio : i ∈ o
              · have hd : decide (i ∈ o) = true := by simpa using hio
                rw [hd]
                gi_wp2
                go_roundw
                case rel => exact ⟨i + 1, A1, n1, c1, e1, e2, f, by go_num, by omega, by omega, Lib.hid ⟨HLay.out, by rw [foldN_skip _ _ _ _ _ _ _ hi1 (.inl hio)]; exact HBS.out, HLW.out, HKE.out⟩⟩
                case measure => simp [intOf] <;> omega
              · have hd : decide (i ∈ o) = false := by simpa using hio
                rw [hd]
                have HIO := Lib.hid hio
                clear hio hd
                obtain ⟨bA, oA, rb, ro, rc, hAe, hbl, hrl, r0, r1, r2⟩ := rows_leg HRW.out HL.out HM.out (i := lst o) (j := i) (by omega) (by omega)
                have hsm := HS.out (lst o) i
                obtain ⟨x, hx⟩ : ∃ x, at2 L (lst o) i = x := ⟨_, rfl⟩
                rw [hx] at r1 r2 hsm
                have HX := Lib.hid hx
                clear hx
                obtain ⟨d1, d2⟩ := x
                simp only at r1 r2 hsm
                rw [e9, Nat.add_zero] at r0
                subst hAe
                have x0 := (HLay.out.blk 0 rfl).cell 0
                have p0 := (HLay.out.blk 0 rfl).frozen 0
                have x1 := (HLay.out.blk 0 rfl).cell 1
                have p1 := (HLay.out.blk 0 rfl).frozen 1
                have x2 := (HLay.out.blk 0 rfl).cell 2
                have p2 := (HLay.out.blk 0 rfl).frozen 2
                have x3 := (HLay.out.blk 0 rfl).cell 3
                have p3 := (HLay.out.blk 0 rfl).frozen 3
                have y0 := (HLay.out.blk 1 rfl).cell 0
                have y1 := (HLay.out.blk 1 rfl).cell 1
                have v0 := (HLay.out.blk 2 rfl).cell 0
                have z0 := (HLay.out.blk 2 rfl).frozen 0
                have v1 := (HLay.out.blk 2 rfl).cell 1
                have z1 := (HLay.out.blk 2 rfl).frozen 1
                have v2 := (HLay.out.blk 2 rfl).cell 2
                have z2 := (HLay.out.blk 2 rfl).frozen 2
                have v3 := (HLay.out.blk 2 rfl).cell 3
                have z3 := (HLay.out.blk 2 rfl).frozen 3
                have l0 := HLay.out.lt 0 rfl
                have l1 := HLay.out.lt 1 rfl
                have l2 := HLay.out.lt 2 rfl
                by_cases hd2 : d2 < 0
                · gi_wp2
                  go_roundw
                  case rel => exact ⟨i + 1, A1, n1, c1, e1, e2, f, by go_num, by omega, by omega, Lib.hid ⟨HLay.out, by rw [foldN_skip _ _ _ _ _ _ _ hi1 (.inr (by rw [HX.out]; exact hd2))]; exact HBS.out, HLW.out, HKE.out⟩⟩
                  case measure => simp [intOf] <;> omega
                · gi_wp2
                  refine Tr.wpIn_region_tree (G := UpB wr.heap.size) (V0 := wr) [([], [true, true, false, true, false, true, false, false, true, true, true, true, true, true, true, true, true, true, true, true, true, true, true, true, true, true, true, true, true, true, true], [2, 6]), ([2], [], [4, 6]), ([6], [], [2]), ([2, 4], [], [6]), ([2, 6], [], [4]), ([2, 4, 6], [], [7]), ([2, 4, 6, 7], [], [31]), ([2, 4, 6, 7, 31], [], [])] 6 [false, false, false, false, false, false, false, false, false, false, false, false, false, false, false, false, false, false, false, false, false, false, false, false, false, false, false, false, false, false, false, false, true] (by kernel_rfl) (by kernel_rfl) (by kernel_rfl) (below_drewN (Below.refl _ _) 1) ?_
                  refine Tr.wpTree_two (A := ?AJasucc) rfl rfl rfl ?hjasucc ?_ ?_
                  case hjasucc =>
                    rintro σ hσ of hof hcl
                    have HOF := Lib.hid hof
                    have HCL := Lib.hid hcl
                    clear hof hcl
                    have g0 := fun z => (((HOF.out z).2 (Nat.le_refl _)).cell (p := ⟨w.heap.size, 0, none⟩) l0).trans x0
                    have g1 := fun z => (((HOF.out z).2 (Nat.le_refl _)).cell (p := ⟨w.heap.size, 1, none⟩) l0).trans x1
                    have g2 := fun z => (((HOF.out z).2 (Nat.le_refl _)).cell (p := ⟨w.heap.size, 2, none⟩) l0).trans x2
                    have g3 := fun z => (((HOF.out z).2 (Nat.le_refl _)).cell (p := ⟨w.heap.size, 3, none⟩) l0).trans x3
                    have g4 := fun z => (((HOF.out z).2 (Nat.le_refl _)).cell (p := ⟨w.heap.size + 1, 0, none⟩) l1).trans y0
                    have g5 := fun z => (((HOF.out z).2 (Nat.le_refl _)).cell (p := ⟨w.heap.size + 1, 1, none⟩) l1).trans y1
                    have g6 := fun z => (((HOF.out z).2 (Nat.le_refl _)).cell (p := ⟨bA, oA, none⟩) hbl).trans r0
                    have g7 := fun z => (((HOF.out z).2 (Nat.le_refl _)).cell (p := ⟨rb, ro + i * 2, none⟩) hrl).trans r1
                    have g8 := fun z => (((HOF.out z).2 (Nat.le_refl _)).cell (p := ⟨rb, ro + i * 2 + 1, none⟩) hrl).trans r2
                    have hfw : ∀ f, Fence.wide.fn f := fun _ => trivial
                    simp only [pickB]
                    repeat (gi_big_quiet_step (fail))
                    refine wpQuietIn_nil ?_
                    exact rfl
                  clear x0 x1 x2 x3 p0 p1 p2 p3 y0 y1 v0 v1 v2 v3 z0 z1 z2 z3 l0 l1 l2
                  clear r0 r1 r2 hbl hrl
                  · intro W1 h1
                    have T1 := Lib.hid h1
                    clear h1
                    have HO2 := Lib.hid (own_empty W1)
                    have hb5 := T1.out.size
                    have T2 := Lib.hid (T1.out.alloc T1.out.size (.cells #[] 3))
                    have Z2 : W1.heap.size < (W1.alloc (.cells #[] 3)).heap.size := by simp
                    have HUP := Lib.hid ((Below.refl wr.heap.size W1).alloc T1.out.size (.cells #[] 3))
                    gi_wp2
                    first | refine ⟨trivial, UpB.of_below HUP.out, ?_⟩ | refine ⟨UpB.of_below HUP.out, ?_⟩
                    clear HUP
                    generalize (W1.alloc (.cells #[] 3)) = W2 at *
                    generalize W1.heap.size = b5 at *
                    refine Tr.wpTree_two (m := []) rfl rfl rfl Gr.Quietly.none ?_ ?_
                    · intro W3 h3
                      have T3 := Lib.hid (T2.out.trans (h3.mono T2.out.size))
                      have Z3 := h3.size
                      have HO3 := Lib.hid (HO2.out.below h3 (Nat.le_refl _))
                      clear h3
                      have HRX := Lib.hid (show IntsAt W3 W3.heap.size Ao 0 (ix o) from ints_up HOR0.out (HLay.out.1.trans (T3.out.mono HLay.out.1.size)))
                      gi_wp2_with (first | (gi_at_builtin; refine wpListIn_append_any rfl (.tmp 107) (.tmp 108) (by rfl) elem_int rfl HO3.out rfl HRX.out (ints_one _) (by unfold maxLen; omega) (by omega) (by omega) ?_) | fail)
                      rintro A8 q8 W4 hown hgr hA8
                      have HO4 := Lib.hid (show Own W4 b5 3 1 A8 0 q8 ((ix o).map (Value.int .i64)) from by simpa using hown)
                      have T4 := Lib.hid (T3.out.grown hgr T3.out.size (fun j hj => Nat.le_trans hb5 (own_row HO3.out hj)))
                      have Z4 := hgr.size
                      have HUP := Lib.hid ((Below.refl wr.heap.size W3).grown hgr T3.out.size (fun j hj => Nat.le_trans hb5 (own_row HO3.out hj)))
                      clear hown hgr hA8
                      try simp only [Nat.zero_add]
                      gi_wp2
                      first | refine ⟨trivial, UpB.of_below HUP.out, ?_⟩ | refine ⟨UpB.of_below HUP.out, ?_⟩
                      clear HUP
                      refine Tr.wpTree_one (m := []) rfl rfl Gr.Quietly.none ?_
                      intro W5 h5
                      have T5 := Lib.hid (T4.out.trans (h5.mono T4.out.size))
                      have Z5 := h5.size
                      have HO5 := Lib.hid (HO4.out.below h5 (Nat.le_refl _))
                      clear h5
                      have HN6 := Lib.hid (Blk.new W5 3 #[.int .i64 (i : Int)])
                      have HO6 := Lib.hid (HO5.out.alloc (.cells #[.int .i64 (i : Int)] 3))
                      have T6 := Lib.hid (T5.out.alloc T5.out.size (.cells #[.int .i64 (i : Int)] 3))
                      have Z6 : W5.heap.size < (W5.alloc (.cells #[.int .i64 (i : Int)] 3)).heap.size := by simp
                      have HUP := Lib.hid ((Below.refl wr.heap.size W5).alloc T5.out.size (.cells #[.int .i64 (i : Int)] 3))
                      gi_wp2
                      first | refine ⟨trivial, UpB.of_below HUP.out, ?_⟩ | refine ⟨UpB.of_below HUP.out, ?_⟩
                      clear HUP
                      generalize (W5.alloc (.cells #[.int .i64 (i : Int)] 3)) = W6 at *
                      generalize W5.heap.size = g6 at *
                      refine Tr.wpTree_one (m := []) rfl rfl Gr.Quietly.none ?_
                      intro W7 h7
                      have T7 := Lib.hid (T6.out.trans (h7.mono T6.out.size))
                      have Z7 := h7.size
                      have HO7 := Lib.hid (HO6.out.below h7 (Nat.le_refl _))
                      have HN7 := Lib.hid (HN6.out.below h7 HN6.out.lt)
                      clear h7
                      gi_wp2_with (first | (gi_at_builtin; refine wpListIn_append_any rfl (.tmp 109) (.tmp 111) (by rfl) elem_int rfl HO7.out rfl (one_int HN7.out.lt (HN7.out.cell 0)) (ints_one _) (by unfold maxLen; omega) (by omega) (by omega) ?_) | fail)
                      rintro A9 q9 W8 hown hgr hA8
                      have HO8 := Lib.hid (show Own W8 b5 3 1 A9 (0 + 1) q9 ((ix (o ++ [i])).map (Value.int .i64)) from by rw [ix_snoc, List.map_append]; simpa using hown)
                      have T8 := Lib.hid (T7.out.grown hgr T7.out.size (fun j hj => Nat.le_trans hb5 (own_row HO7.out hj)))
                      have Z8 := hgr.size
                      have HUP := Lib.hid ((Below.refl wr.heap.size W7).grown hgr T7.out.size (fun j hj => Nat.le_trans hb5 (own_row HO7.out hj)))
                      clear hown hgr hA8
                      try simp only [Nat.zero_add]
                      gi_wp2
                      first | refine ⟨trivial, UpB.of_below HUP.out, ?_⟩ | refine ⟨UpB.of_below HUP.out, ?_⟩
                      clear HUP
                      refine Tr.wpTree_one (m := []) rfl rfl Gr.Quietly.none ?_
                      intro W9 h9
                      have T9 := Lib.hid (T8.out.trans (h9.mono T8.out.size))
                      have Z9 := h9.size
                      have HO9 := Lib.hid (HO8.out.below h9 (Nat.le_refl _))
                      clear h9
                      have HC := Lib.hid (HIH.out _ A1 n1 c1 e1 e2 f _ cA A9 (0 + 1) q9 (o ++ [i]) (s1 + d1) (s2 + d2) W9 (HBS.out.up T9.out) (fun h a ha => Nat.lt_of_lt_of_le (HLW.out h a ha) T9.out.size) ((HRW.out.below T9.out).more T9.out.size) (ints_of_own HO9.out (Nat.le_refl _)) (by omega) (fun v hv => by
                        rcases List.mem_append.1 hv with hv | hv
                        · exact HOL.out v hv
                        · rw [List.mem_singleton.1 hv]; exact him) ⟨by omega, by have := hs1.2; push_cast at this; omega⟩ ⟨by omega, by have := hs2.2; push_cast at this; omega⟩)
                      have hw3 := T9.out.size
                      gi_wp2
                      refine ⟨trivial, (callsIn_wide.2 (callsIn_wide.1 HC.out)).mono ?_⟩
                      clear HC
                      rintro e W10 ⟨A', n', c', t1, t2, f', rfl, hbest, hb11, hlow', hkept'⟩
                      have HBN := Lib.hid hbest
                      have HLN := Lib.hid hlow'
                      have HKN := Lib.hid hkept'
                      have T10 := Lib.hid (T9.out.trans (hb11.mono T9.out.size))
                      have HUP := Lib.hid (hb11.mono T9.out.size)
                      clear hbest hb11 hlow' hkept'
                      gi_wp2
                      first | refine ⟨trivial, UpB.of_below HUP.out, ?_⟩ | refine ⟨UpB.of_below HUP.out, ?_⟩
                      clear HUP
                      refine Tr.wpTree_end (m := []) rfl Gr.Quietly.none ?_
                      intro W11 h11
                      simp only [pickB]
                      replace HLay := Lib.hid (HLay.out.below (T10.out.trans (h11.mono T10.out.size)))
                      replace HBN := Lib.hid (HBN.out.up h11)
                      replace HLN := Lib.hid (show Low W11 A' n' from fun h a ha => Nat.lt_of_lt_of_le (HLN.out h a ha) h11.size)
                      clear h11
                      have x0 := (HLay.out.blk 0 rfl).cell 0
                      have p0 := (HLay.out.blk 0 rfl).frozen 0
                      have x1 := (HLay.out.blk 0 rfl).cell 1
                      have p1 := (HLay.out.blk 0 rfl).frozen 1
                      have x2 := (HLay.out.blk 0 rfl).cell 2
                      have p2 := (HLay.out.blk 0 rfl).frozen 2
                      have x3 := (HLay.out.blk 0 rfl).cell 3
                      have p3 := (HLay.out.blk 0 rfl).frozen 3
                      have y0 := (HLay.out.blk 1 rfl).cell 0
                      have y1 := (HLay.out.blk 1 rfl).cell 1
                      have v0 := (HLay.out.blk 2 rfl).cell 0
                      have z0 := (HLay.out.blk 2 rfl).frozen 0
                      have v1 := (HLay.out.blk 2 rfl).cell 1
                      have z1 := (HLay.out.blk 2 rfl).frozen 1
                      have v2 := (HLay.out.blk 2 rfl).cell 2
                      have z2 := (HLay.out.blk 2 rfl).frozen 2
                      have v3 := (HLay.out.blk 2 rfl).cell 3
                      have z3 := (HLay.out.blk 2 rfl).frozen 3
                      have l0 := HLay.out.lt 0 rfl
                      have l1 := HLay.out.lt 1 rfl
                      have l2 := HLay.out.lt 2 rfl
                      refine wpT_cons ?_
                      gi_wp2
                      refine wpT_nil ?_
                      gi_wp2
                      clear x0 x1 x2 x3 p0 p1 p2 p3 y0 y1 v0 v1 v2 v3 z0 z1 z2 z3 l0 l1 l2
                      have HR4 := Lib.hid (ret4' (HLay.out.blk 0 rfl) HLay.out.1 (Nat.le_refl _) (.slice A' n' c') (.int .i64 t1) (.int .i64 t2) (.bool f'))
                      have HK2 := Lib.hid (show Kept w.heap.size Ab nb A' n' from by
                        rcases HKN.out with ⟨ka, kn⟩ | kk
                        · rw [ka, kn]; exact HKE.out
                        · exact .inr fun a ha => by have := kk a ha; omega)
                      go_roundw
                      case rel =>
                        refine ⟨i + 1, A', n', c', t1, t2, f', by go_num, by omega, by omega, Lib.hid ⟨HLay.out.head4 (by simp) (by simp only; omega) _ _ _ _, ?_, (fun h a ha => Nat.lt_of_lt_of_le (HLN.out h a ha) HR4.out.2.2.size), HK2.out⟩⟩
                        rw [foldN_go _ _ _ _ _ _ _ hi1 (fun hc => by rcases hc with hc | hc; exact HIO.out hc; rw [HX.out] at hc; simp only at hc; omega), HX.out]
                        refine HBN.out.off (fun h a ha e => ?_) HR4.out.2.2
                        rcases HK2.out with ⟨ka, kn⟩ | kk
                        · have := HLO.out (by rw [← kn]; exact h) a (by rw [← ka]; exact ha); omega
                        · have := kk a ha; omega
                      case measure => simp [intOf] <;> omega
                    · intro W3 h3
                      have T3 := Lib.hid (T2.out.trans (h3.mono T2.out.size))
                      have Z3 := h3.size
                      have HO3 := Lib.hid (HO2.out.below h3 (Nat.le_refl _))
                      clear h3
                      have HN4 := Lib.hid (Blk.new W3 3 #[.int .i64 (i : Int)])
                      have hgb := (HO3.out.lt rfl).2
                      have HO4 := Lib.hid (HO3.out.alloc (.cells #[.int .i64 (i : Int)] 3))
                      have T4 := Lib.hid (T3.out.alloc T3.out.size (.cells #[.int .i64 (i : Int)] 3))
                      have Z4 : W3.heap.size < (W3.alloc (.cells #[.int .i64 (i : Int)] 3)).heap.size := by simp
                      have HUP := Lib.hid ((Below.refl wr.heap.size W3).alloc T3.out.size (.cells #[.int .i64 (i : Int)] 3))
                      gi_wp2
                      first | refine ⟨trivial, UpB.of_below HUP.out, ?_⟩ | refine ⟨UpB.of_below HUP.out, ?_⟩
                      clear HUP
                      generalize (W3.alloc (.cells #[.int .i64 (i : Int)] 3)) = W4 at *
                      generalize W3.heap.size = g6 at *
                      refine Tr.wpTree_one (m := []) rfl rfl Gr.Quietly.none ?_
                      intro W5 h5
                      have T5 := Lib.hid (T4.out.trans (h5.mono T4.out.size))
                      have Z5 := h5.size
                      have HO5 := Lib.hid (HO4.out.below h5 (Nat.le_refl _))
                      have HN5 := Lib.hid (HN4.out.below h5 HN4.out.lt)
                      clear h5
                      have HRX := Lib.hid (show IntsAt W5 W5.heap.size Ao 0 (ix o) from ints_up HOR0.out (HLay.out.1.trans (T5.out.mono HLay.out.1.size)))
                      gi_wp2_with (first | (gi_at_builtin; refine wpListIn_append_any rfl (.tmp 107) (.tmp 108) (by rfl) elem_int rfl HO5.out rfl HRX.out (ints_one _) (by unfold maxLen; omega) (by omega) (by omega) ?_) | fail)
                      rintro A8 q8 W6 hown hgr hA8
                      have HO6 := Lib.hid (show Own W6 b5 3 1 A8 0 q8 ((ix o).map (Value.int .i64)) from by simpa using hown)
                      have HN6 := Lib.hid (HN5.out.grown hgr (by intro e; have := Option.some.inj e; omega))
                      have T6 := Lib.hid (T5.out.grown hgr T5.out.size (fun j hj => Nat.le_trans hb5 (own_row HO5.out hj)))
                      have Z6 := hgr.size
                      have HUP := Lib.hid ((Below.refl wr.heap.size W5).grown hgr T5.out.size (fun j hj => Nat.le_trans hb5 (own_row HO5.out hj)))
                      clear hown hgr hA8
                      try simp only [Nat.zero_add]
                      gi_wp2
                      first | refine ⟨trivial, UpB.of_below HUP.out, ?_⟩ | refine ⟨UpB.of_below HUP.out, ?_⟩
                      clear HUP
                      refine Tr.wpTree_one (m := []) rfl rfl Gr.Quietly.none ?_
                      intro W7 h7
                      have T7 := Lib.hid (T6.out.trans (h7.mono T6.out.size))
                      have Z7 := h7.size
                      have HO7 := Lib.hid (HO6.out.below h7 (Nat.le_refl _))
                      have HN7 := Lib.hid (HN6.out.below h7 HN6.out.lt)
                      clear h7
                      gi_wp2_with (first | (gi_at_builtin; refine wpListIn_append_any rfl (.tmp 109) (.tmp 111) (by rfl) elem_int rfl HO7.out rfl (one_int HN7.out.lt (HN7.out.cell 0)) (ints_one _) (by unfold maxLen; omega) (by omega) (by omega) ?_) | fail)
                      rintro A9 q9 W8 hown hgr hA8
                      have HO8 := Lib.hid (show Own W8 b5 3 1 A9 (0 + 1) q9 ((ix (o ++ [i])).map (Value.int .i64)) from by rw [ix_snoc, List.map_append]; simpa using hown)
                      have T8 := Lib.hid (T7.out.grown hgr T7.out.size (fun j hj => Nat.le_trans hb5 (own_row HO7.out hj)))
                      have Z8 := hgr.size
                      have HUP := Lib.hid ((Below.refl wr.heap.size W7).grown hgr T7.out.size (fun j hj => Nat.le_trans hb5 (own_row HO7.out hj)))
                      clear hown hgr hA8
                      try simp only [Nat.zero_add]
                      gi_wp2
                      first | refine ⟨trivial, UpB.of_below HUP.out, ?_⟩ | refine ⟨UpB.of_below HUP.out, ?_⟩
                      clear HUP
                      refine Tr.wpTree_one (m := []) rfl rfl Gr.Quietly.none ?_
                      intro W9 h9
                      have T9 := Lib.hid (T8.out.trans (h9.mono T8.out.size))
                      have Z9 := h9.size
                      have HO9 := Lib.hid (HO8.out.below h9 (Nat.le_refl _))
                      clear h9
                      have HC := Lib.hid (HIH.out _ A1 n1 c1 e1 e2 f _ cA A9 (0 + 1) q9 (o ++ [i]) (s1 + d1) (s2 + d2) W9 (HBS.out.up T9.out) (fun h a ha => Nat.lt_of_lt_of_le (HLW.out h a ha) T9.out.size) ((HRW.out.below T9.out).more T9.out.size) (ints_of_own HO9.out (Nat.le_refl _)) (by omega) (fun v hv => by
                        rcases List.mem_append.1 hv with hv | hv
                        · exact HOL.out v hv
                        · rw [List.mem_singleton.1 hv]; exact him) ⟨by omega, by have := hs1.2; push_cast at this; omega⟩ ⟨by omega, by have := hs2.2; push_cast at this; omega⟩)
                      have hw3 := T9.out.size
                      gi_wp2
                      refine ⟨trivial, (callsIn_wide.2 (callsIn_wide.1 HC.out)).mono ?_⟩
                      clear HC
                      rintro e W10 ⟨A', n', c', t1, t2, f', rfl, hbest, hb11, hlow', hkept'⟩
                      have HBN := Lib.hid hbest
                      have HLN := Lib.hid hlow'
                      have HKN := Lib.hid hkept'
                      have T10 := Lib.hid (T9.out.trans (hb11.mono T9.out.size))
                      have HUP := Lib.hid (hb11.mono T9.out.size)
                      clear hbest hb11 hlow' hkept'
                      gi_wp2
                      first | refine ⟨trivial, UpB.of_below HUP.out, ?_⟩ | refine ⟨UpB.of_below HUP.out, ?_⟩
                      clear HUP
                      refine Tr.wpTree_end (m := []) rfl Gr.Quietly.none ?_
                      intro W11 h11
                      simp only [pickB]
                      replace HLay := Lib.hid (HLay.out.below (T10.out.trans (h11.mono T10.out.size)))
                      replace HBN := Lib.hid (HBN.out.up h11)
                      replace HLN := Lib.hid (show Low W11 A' n' from fun h a ha => Nat.lt_of_lt_of_le (HLN.out h a ha) h11.size)
                      clear h11
                      have x0 := (HLay.out.blk 0 rfl).cell 0
                      have p0 := (HLay.out.blk 0 rfl).frozen 0
                      have x1 := (HLay.out.blk 0 rfl).cell 1
                      have p1 := (HLay.out.blk 0 rfl).frozen 1
                      have x2 := (HLay.out.blk 0 rfl).cell 2
                      have p2 := (HLay.out.blk 0 rfl).frozen 2
                      have x3 := (HLay.out.blk 0 rfl).cell 3
                      have p3 := (HLay.out.blk 0 rfl).frozen 3
                      have y0 := (HLay.out.blk 1 rfl).cell 0
                      have y1 := (HLay.out.blk 1 rfl).cell 1
                      have v0 := (HLay.out.blk 2 rfl).cell 0
                      have z0 := (HLay.out.blk 2 rfl).frozen 0
                      have v1 := (HLay.out.blk 2 rfl).cell 1
                      have z1 := (HLay.out.blk 2 rfl).frozen 1
                      have v2 := (HLay.out.blk 2 rfl).cell 2
                      have z2 := (HLay.out.blk 2 rfl).frozen 2
                      have v3 := (HLay.out.blk 2 rfl).cell 3
                      have z3 := (HLay.out.blk 2 rfl).frozen 3
                      have l0 := HLay.out.lt 0 rfl
                      have l1 := HLay.out.lt 1 rfl
                      have l2 := HLay.out.lt 2 rfl
                      refine wpT_cons ?_
                      gi_wp2
                      refine wpT_nil ?_
                      gi_wp2
                      clear x0 x1 x2 x3 p0 p1 p2 p3 y0 y1 v0 v1 v2 v3 z0 z1 z2 z3 l0 l1 l2
                      have HR4 := Lib.hid (ret4' (HLay.out.blk 0 rfl) HLay.out.1 (Nat.le_refl _) (.slice A' n' c') (.int .i64 t1) (.int .i64 t2) (.bool f'))
                      have HK2 := Lib.hid (show Kept w.heap.size Ab nb A' n' from by
                        rcases HKN.out with ⟨ka, kn⟩ | kk
                        · rw [ka, kn]; exact HKE.out
                        · exact .inr fun a ha => by have := kk a ha; omega)
                      go_roundw
                      case rel =>
                        refine ⟨i + 1, A', n', c', t1, t2, f', by go_num, by omega, by omega, Lib.hid ⟨HLay.out.head4 (by simp) (by simp only; omega) _ _ _ _, ?_, (fun h a ha => Nat.lt_of_lt_of_le (HLN.out h a ha) HR4.out.2.2.size), HK2.out⟩⟩
                        rw [foldN_go _ _ _ _ _ _ _ hi1 (fun hc => by rcases hc with hc | hc; exact HIO.out hc; rw [HX.out] at hc; simp only at hc; omega), HX.out]
                        refine HBN.out.off (fun h a ha e => ?_) HR4.out.2.2
                        rcases HK2.out with ⟨ka, kn⟩ | kk
                        · have := HLO.out (by rw [← kn]; exact h) a (by rw [← ka]; exact ha); omega
                        · have := kk a ha; omega
                      case measure => simp [intOf] <;> omega
                  · intro W1 h1
                    have T1 := Lib.hid h1
                    clear h1
                    have HN2 := Lib.hid (Blk.new W1 3 #[.int .i64 (i : Int)])
                    have T2 := Lib.hid (T1.out.alloc T1.out.size (.cells #[.int .i64 (i : Int)] 3))
                    have Z2 : W1.heap.size < (W1.alloc (.cells #[.int .i64 (i : Int)] 3)).heap.size := by simp
                    have HUP := Lib.hid ((Below.refl wr.heap.size W1).alloc T1.out.size (.cells #[.int .i64 (i : Int)] 3))
                    gi_wp2
                    first | refine ⟨trivial, UpB.of_below HUP.out, ?_⟩ | refine ⟨UpB.of_below HUP.out, ?_⟩
                    clear HUP
                    generalize (W1.alloc (.cells #[.int .i64 (i : Int)] 3)) = W2 at *
                    generalize W1.heap.size = g6 at *
                    refine Tr.wpTree_one (m := []) rfl rfl Gr.Quietly.none ?_
                    intro W3 h3
                    have T3 := Lib.hid (T2.out.trans (h3.mono T2.out.size))
                    have Z3 := h3.size
                    have HN3 := Lib.hid (HN2.out.below h3 HN2.out.lt)
                    clear h3
                    have HO4 := Lib.hid (own_empty W3)
                    have hb5 := T3.out.size
                    have hgb := HN3.out.lt
                    have HN4 := Lib.hid (HN3.out.alloc (.cells #[] 3))
                    have T4 := Lib.hid (T3.out.alloc T3.out.size (.cells #[] 3))
                    have Z4 : W3.heap.size < (W3.alloc (.cells #[] 3)).heap.size := by simp
                    have HUP := Lib.hid ((Below.refl wr.heap.size W3).alloc T3.out.size (.cells #[] 3))
                    gi_wp2
                    first | refine ⟨trivial, UpB.of_below HUP.out, ?_⟩ | refine ⟨UpB.of_below HUP.out, ?_⟩
                    clear HUP
                    generalize (W3.alloc (.cells #[] 3)) = W4 at *
                    generalize W3.heap.size = b5 at *
                    refine Tr.wpTree_one (m := []) rfl rfl Gr.Quietly.none ?_
                    intro W5 h5
                    have T5 := Lib.hid (T4.out.trans (h5.mono T4.out.size))
                    have Z5 := h5.size
                    have HO5 := Lib.hid (HO4.out.below h5 (Nat.le_refl _))
                    have HN5 := Lib.hid (HN4.out.below h5 HN4.out.lt)
                    clear h5
                    have HRX := Lib.hid (show IntsAt W5 W5.heap.size Ao 0 (ix o) from ints_up HOR0.out (HLay.out.1.trans (T5.out.mono HLay.out.1.size)))
                    gi_wp2_with (first | (gi_at_builtin; refine wpListIn_append_any rfl (.tmp 107) (.tmp 108) (by rfl) elem_int rfl HO5.out rfl HRX.out (ints_one _) (by unfold maxLen; omega) (by omega) (by omega) ?_) | fail)
                    rintro A8 q8 W6 hown hgr hA8
                    have HO6 := Lib.hid (show Own W6 b5 3 1 A8 0 q8 ((ix o).map (Value.int .i64)) from by simpa using hown)
                    have HN6 := Lib.hid (HN5.out.grown hgr (by intro e; have := Option.some.inj e; omega))
                    have T6 := Lib.hid (T5.out.grown hgr T5.out.size (fun j hj => Nat.le_trans hb5 (own_row HO5.out hj)))
                    have Z6 := hgr.size
                    have HUP := Lib.hid ((Below.refl wr.heap.size W5).grown hgr T5.out.size (fun j hj => Nat.le_trans hb5 (own_row HO5.out hj)))
                    clear hown hgr hA8
                    try simp only [Nat.zero_add]
                    gi_wp2
                    first | refine ⟨trivial, UpB.of_below HUP.out, ?_⟩ | refine ⟨UpB.of_below HUP.out, ?_⟩
                    clear HUP
                    refine Tr.wpTree_one (m := []) rfl rfl Gr.Quietly.none ?_
                    intro W7 h7
                    have T7 := Lib.hid (T6.out.trans (h7.mono T6.out.size))
                    have Z7 := h7.size
                    have HO7 := Lib.hid (HO6.out.below h7 (Nat.le_refl _))
                    have HN7 := Lib.hid (HN6.out.below h7 HN6.out.lt)
                    clear h7
                    gi_wp2_with (first | (gi_at_builtin; refine wpListIn_append_any rfl (.tmp 109) (.tmp 111) (by rfl) elem_int rfl HO7.out rfl (one_int HN7.out.lt (HN7.out.cell 0)) (ints_one _) (by unfold maxLen; omega) (by omega) (by omega) ?_) | fail)
                    rintro A9 q9 W8 hown hgr hA8
                    have HO8 := Lib.hid (show Own W8 b5 3 1 A9 (0 + 1) q9 ((ix (o ++ [i])).map (Value.int .i64)) from by rw [ix_snoc, List.map_append]; simpa using hown)
                    have T8 := Lib.hid (T7.out.grown hgr T7.out.size (fun j hj => Nat.le_trans hb5 (own_row HO7.out hj)))
                    have Z8 := hgr.size
                    have HUP := Lib.hid ((Below.refl wr.heap.size W7).grown hgr T7.out.size (fun j hj => Nat.le_trans hb5 (own_row HO7.out hj)))
                    clear hown hgr hA8
                    try simp only [Nat.zero_add]
                    gi_wp2
                    first | refine ⟨trivial, UpB.of_below HUP.out, ?_⟩ | refine ⟨UpB.of_below HUP.out, ?_⟩
                    clear HUP
                    refine Tr.wpTree_one (m := []) rfl rfl Gr.Quietly.none ?_
                    intro W9 h9
                    have T9 := Lib.hid (T8.out.trans (h9.mono T8.out.size))
                    have Z9 := h9.size
                    have HO9 := Lib.hid (HO8.out.below h9 (Nat.le_refl _))
                    clear h9
                    have HC := Lib.hid (HIH.out _ A1 n1 c1 e1 e2 f _ cA A9 (0 + 1) q9 (o ++ [i]) (s1 + d1) (s2 + d2) W9 (HBS.out.up T9.out) (fun h a ha => Nat.lt_of_lt_of_le (HLW.out h a ha) T9.out.size) ((HRW.out.below T9.out).more T9.out.size) (ints_of_own HO9.out (Nat.le_refl _)) (by omega) (fun v hv => by
                      rcases List.mem_append.1 hv with hv | hv
                      · exact HOL.out v hv
                      · rw [List.mem_singleton.1 hv]; exact him) ⟨by omega, by have := hs1.2; push_cast at this; omega⟩ ⟨by omega, by have := hs2.2; push_cast at this; omega⟩)
                    have hw3 := T9.out.size
                    gi_wp2
                    refine ⟨trivial, (callsIn_wide.2 (callsIn_wide.1 HC.out)).mono ?_⟩
                    clear HC
                    rintro e W10 ⟨A', n', c', t1, t2, f', rfl, hbest, hb11, hlow', hkept'⟩
                    have HBN := Lib.hid hbest
                    have HLN := Lib.hid hlow'
                    have HKN := Lib.hid hkept'
                    have T10 := Lib.hid (T9.out.trans (hb11.mono T9.out.size))
                    have HUP := Lib.hid (hb11.mono T9.out.size)
                    clear hbest hb11 hlow' hkept'
                    gi_wp2
                    first | refine ⟨trivial, UpB.of_below HUP.out, ?_⟩ | refine ⟨UpB.of_below HUP.out, ?_⟩
                    clear HUP
                    refine Tr.wpTree_end (m := []) rfl Gr.Quietly.none ?_
                    intro W11 h11
                    simp only [pickB]
                    replace HLay := Lib.hid (HLay.out.below (T10.out.trans (h11.mono T10.out.size)))
                    replace HBN := Lib.hid (HBN.out.up h11)
                    replace HLN := Lib.hid (show Low W11 A' n' from fun h a ha => Nat.lt_of_lt_of_le (HLN.out h a ha) h11.size)
                    clear h11
                    have x0 := (HLay.out.blk 0 rfl).cell 0
                    have p0 := (HLay.out.blk 0 rfl).frozen 0
                    have x1 := (HLay.out.blk 0 rfl).cell 1
                    have p1 := (HLay.out.blk 0 rfl).frozen 1
                    have x2 := (HLay.out.blk 0 rfl).cell 2
                    have p2 := (HLay.out.blk 0 rfl).frozen 2
                    have x3 := (HLay.out.blk 0 rfl).cell 3
                    have p3 := (HLay.out.blk 0 rfl).frozen 3
                    have y0 := (HLay.out.blk 1 rfl).cell 0
                    have y1 := (HLay.out.blk 1 rfl).cell 1
                    have v0 := (HLay.out.blk 2 rfl).cell 0
                    have z0 := (HLay.out.blk 2 rfl).frozen 0
                    have v1 := (HLay.out.blk 2 rfl).cell 1
                    have z1 := (HLay.out.blk 2 rfl).frozen 1
                    have v2 := (HLay.out.blk 2 rfl).cell 2
                    have z2 := (HLay.out.blk 2 rfl).frozen 2
                    have v3 := (HLay.out.blk 2 rfl).cell 3
                    have z3 := (HLay.out.blk 2 rfl).frozen 3
                    have l0 := HLay.out.lt 0 rfl
                    have l1 := HLay.out.lt 1 rfl
                    have l2 := HLay.out.lt 2 rfl
                    refine wpT_cons ?_
                    gi_wp2
                    refine wpT_nil ?_
                    gi_wp2
                    clear x0 x1 x2 x3 p0 p1 p2 p3 y0 y1 v0 v1 v2 v3 z0 z1 z2 z3 l0 l1 l2
                    have HR4 := Lib.hid (ret4' (HLay.out.blk 0 rfl) HLay.out.1 (Nat.le_refl _) (.slice A' n' c') (.int .i64 t1) (.int .i64 t2) (.bool f'))
                    have HK2 := Lib.hid (show Kept w.heap.size Ab nb A' n' from by
                      rcases HKN.out with ⟨ka, kn⟩ | kk
                      · rw [ka, kn]; exact HKE.out
                      · exact .inr fun a ha => by have := kk a ha; omega)
                    go_roundw
                    case rel =>
                      refine ⟨i + 1, A', n', c', t1, t2, f', by go_num, by omega, by omega, Lib.hid ⟨HLay.out.head4 (by simp) (by simp only; omega) _ _ _ _, ?_, (fun h a ha => Nat.lt_of_lt_of_le (HLN.out h a ha) HR4.out.2.2.size), HK2.out⟩⟩
                      rw [foldN_go _ _ _ _ _ _ _ hi1 (fun hc => by rcases hc with hc | hc; exact HIO.out hc; rw [HX.out] at hc; simp only at hc; omega), HX.out]
                      refine HBN.out.off (fun h a ha e => ?_) HR4.out.2.2
                      rcases HK2.out with ⟨ka, kn⟩ | kk
                      · have := HLO.out (by rw [← kn]; exact h) a (by rw [← ka]; exact ha); omega
                      · have := kk a ha; omega
                    case measure => simp [intOf] <;> omega
        · obtain rfl : i = m + 1 := by omega
          have HLay := Lib.hid HSS.out.1
          have HBS := Lib.hid HSS.out.2
          clear HSS
          have x0 := (HLay.out.blk 0 rfl).cell 0
          have p0 := (HLay.out.blk 0 rfl).frozen 0
          have x1 := (HLay.out.blk 0 rfl).cell 1
          have p1 := (HLay.out.blk 0 rfl).frozen 1
          have x2 := (HLay.out.blk 0 rfl).cell 2
          have p2 := (HLay.out.blk 0 rfl).frozen 2
          have x3 := (HLay.out.blk 0 rfl).cell 3
          have p3 := (HLay.out.blk 0 rfl).frozen 3
          have y0 := (HLay.out.blk 1 rfl).cell 0
          have y1 := (HLay.out.blk 1 rfl).cell 1
          have v0 := (HLay.out.blk 2 rfl).cell 0
          have z0 := (HLay.out.blk 2 rfl).frozen 0
          have v1 := (HLay.out.blk 2 rfl).cell 1
          have z1 := (HLay.out.blk 2 rfl).frozen 1
          have v2 := (HLay.out.blk 2 rfl).cell 2
          have z2 := (HLay.out.blk 2 rfl).frozen 2
          have v3 := (HLay.out.blk 2 rfl).cell 3
          have z3 := (HLay.out.blk 2 rfl).frozen 3
          have l0 := HLay.out.lt 0 rfl
          have l1 := HLay.out.lt 1 rfl
          have l2 := HLay.out.lt 2 rfl
          gi_wp2
          clear x0 x1 x2 x3 p0 p1 p2 p3 y0 y1 v0 v1 v2 v3 z0 z1 z2 z3 l0 l1 l2
          have R1 := ret4' (HLay.out.blk 2 rfl) HLay.out.1 (by omega) (.slice A1 n1 c1) (.int .i64 e1) (.int .i64 e2) (.bool f)
          have u0 := R1.1.cell 0
          have u1 := R1.1.cell 1
          have u2 := R1.1.cell 2
          have u3 := R1.1.cell 3
          refine bodyPost_ret (v := .agg #[.slice A1 n1 c1, .int .i64 e1, .int .i64 e2, .bool f]) (by simp [results, Tryd.results102, go_sem, u0, u1, u2, u3]) rfl ⟨_, _, _, _, _, _, rfl, ?_, R1.2.1, (fun h a ha => Nat.lt_of_lt_of_le (HBS.out.2.1 h a ha) R1.2.2.size), HBS.out.2.2⟩
          rw [← foldN_all]
          refine HBS.out.1.off (fun h a ha e => ?_) R1.2.2
          rcases HBS.out.2.2 with ⟨ka, kn⟩ | kk
          · have := HLO.out (by rw [← kn]; exact h) a (by rw [← ka]; exact ha); omega
          · have := kk a ha; omega
    · obtain ⟨oo, ol, ox, rfl, hob, hox, hoc⟩ := HOR.out.cell (k := no - 1) (by omega)
      have e9 : ox = (lst o : Int) := by
        have hl : o.length = no := by have := HOR.out.len; simpa [ix] using this
        unfold ix at hox
        rw [List.getElem?_map] at hox
        unfold lst
        rw [List.getLast?_eq_getElem?, hl]
        cases hz : o[no - 1]? with
        | none => rw [hz] at hox; cases hox
        | some y => rw [hz] at hox; simpa using hox.symm
      subst e9
      have e9' : ((no : Int) - 1).toNat = no - 1 := by omega
      have HLB := Lib.hid (lst_le HOL.out)
      clear hox
      have hnm : ¬ no = m := by omega
      have hlb := HLB.out
      have x0 := (HLay.out.blk 0 rfl).cell 0
      have p0 := (HLay.out.blk 0 rfl).frozen 0
      have x1 := (HLay.out.blk 0 rfl).cell 1
      have p1 := (HLay.out.blk 0 rfl).frozen 1
      have x2 := (HLay.out.blk 0 rfl).cell 2
      have p2 := (HLay.out.blk 0 rfl).frozen 2
      have x3 := (HLay.out.blk 0 rfl).cell 3
      have p3 := (HLay.out.blk 0 rfl).frozen 3
      have y0 := (HLay.out.blk 1 rfl).cell 0
      have y1 := (HLay.out.blk 1 rfl).cell 1
      have v0 := (HLay.out.blk 2 rfl).cell 0
      have z0 := (HLay.out.blk 2 rfl).frozen 0
      have v1 := (HLay.out.blk 2 rfl).cell 1
      have z1 := (HLay.out.blk 2 rfl).frozen 1
      have v2 := (HLay.out.blk 2 rfl).cell 2
      have z2 := (HLay.out.blk 2 rfl).frozen 2
      have v3 := (HLay.out.blk 2 rfl).cell 3
      have z3 := (HLay.out.blk 2 rfl).frozen 3
      have l0 := HLay.out.lt 0 rfl
      have l1 := HLay.out.lt 1 rfl
      have l2 := HLay.out.lt 2 rfl
      gi_wp2
      clear x0 x1 x2 x3 p0 p1 p2 p3 y0 y1 v0 v1 v2 v3 z0 z1 z2 z3 l0 l1 l2
      try simp only [show (((no : Int) : Int) == (m : Int)) = false from beq_eq_false_iff_ne.2 (by omega)]
      try simp only [show decide (0 < no) = true from decide_eq_true (by omega)]
      gi_loopw [10] (fun v10 wr => ∃ (i : Nat) (A1 : Option Addr) (n1 c1 : Nat) (e1 e2 : Int) (f : Bool), v10 = .int .i64 i ∧ 1 ≤ i ∧ i ≤ m + 1 ∧ Hid (Lay w wr [(w.heap.size, 172, #[.slice A1 n1 c1, .int .i64 e1, .int .i64 e2, .bool f]), (w.heap.size + 1, 59, #[.int .i64 s1, .int .i64 s2]), (w.heap.size + 1 + 1, 172, #[.slice none 0 0, .int .i64 0, .int .i64 0, .bool false])] ∧ BestIs wr (foldN L m k o (lst o) (s1, s2) b i) A1 n1 e1 e2 f ∧ Low wr A1 n1 ∧ Kept w.heap.size Ab nb A1 n1)) (fun v10 _ => m + 1 - (intOf v10).toNat)
      case atStart => exact ⟨1, Ab, nb, cb, b1, b2, bf, rfl, Nat.le_refl _, by omega, Lib.hid ⟨HLay.out, by rw [foldN_one]; exact HBE.out.up HLay.out.1, fun h a ha => Nat.lt_of_lt_of_le (HLO.out h a ha) HLay.out.1.size, .inl ⟨rfl, rfl⟩⟩⟩
      case round =>
        obtain ⟨i, A1, n1, c1, e1, e2, f, rfl, hi1, hi2, HSS⟩ := hrel
        by_cases him : i ≤ m
        · have him' : i < m + 1 := by omega
          gi_wp2
          gi_loopw [11, 82] (fun v11 v82 wr2 => ∃ j : Nat, v82 = .int .i64 j ∧ j ≤ no ∧ wr2 = wr ∧ v11 = .bool (decide (i ∈ o.take j))) (fun _ v82 _ => no - (intOf v82).toNat)
          case atStart => exact ⟨0, rfl, Nat.zero_le _, rfl, by simp⟩
          case round =>
            obtain ⟨j, rfl, hj, rfl, rfl⟩ := hrel
            by_cases hjn : j < no
            · obtain ⟨b3, off3, y3, hA3, hb3, hy3, hc3⟩ := (ints_up HOR0.out HSS.out.1.1).cell hjn
              cases hA3
              obtain ⟨yn, hyn, rfl⟩ := ix_get hy3
              have HUS := Lib.hid (used_step (i := i) hyn)
              clear hy3 hyn
              obtain ⟨uj, huj⟩ : ∃ uj, decide (i ∈ o.take j) = uj := ⟨_, rfl⟩
              rw [huj] at HUS ⊢
              clear huj
              cases uj
              · gi_wp2
                go_roundw
                case rel => exact ⟨j + 1, by go_num, by omega, by first | rfl | trivial, by rw [HUS.out]; rfl⟩
                case measure => simp [intOf] <;> omega
              · gi_wp2
                go_roundw
                case rel => exact ⟨j + 1, by go_num, by omega, by first | rfl | trivial, by rw [HUS.out]; rfl⟩
                case measure => simp [intOf] <;> omega
            · obtain rfl : no = j := by omega
              have hol : o.length ≤ no := by
                have h1 := HOR0.out.len
                have h2 : (ix o).length = o.length := by simp [ix]
                omega
              rw [List.take_of_length_le hol]
              have HLay := Lib.hid HSS.out.1
              have hww := HLay.out.1.size
              have HBS := Lib.hid HSS.out.2.1
              have HLW := Lib.hid HSS.out.2.2.1
              have HKE := Lib.hid HSS.out.2.2.2
              clear HSS
              have HRW := Lib.hid ((HRO0.out.below HLay.out.1).more HLay.out.1.size)
              by_cases hio : i ∈ o
              · have hd : decide (i ∈ o) = true := by simpa using hio
                rw [hd]
                gi_wp2
                go_roundw
                case rel => exact ⟨i + 1, A1, n1, c1, e1, e2, f, by go_num, by omega, by omega, Lib.hid ⟨HLay.out, by rw [foldN_skip _ _ _ _ _ _ _ hi1 (.inl hio)]; exact HBS.out, HLW.out, HKE.out⟩⟩
                case measure => simp [intOf] <;> omega
              · have hd : decide (i ∈ o) = false := by simpa using hio
                rw [hd]
                have HIO := Lib.hid hio
                clear hio hd
                obtain ⟨bA, oA, rb, ro, rc, hAe, hbl, hrl, r0, r1, r2⟩ := rows_leg HRW.out HL.out HM.out (i := lst o) (j := i) (by omega) (by omega)
                have hsm := HS.out (lst o) i
                obtain ⟨x, hx⟩ : ∃ x, at2 L (lst o) i = x := ⟨_, rfl⟩
                rw [hx] at r1 r2 hsm
                have HX := Lib.hid hx
                clear hx
                obtain ⟨d1, d2⟩ := x
                simp only at r1 r2 hsm
                subst hAe
                have x0 := (HLay.out.blk 0 rfl).cell 0
                have p0 := (HLay.out.blk 0 rfl).frozen 0
                have x1 := (HLay.out.blk 0 rfl).cell 1
                have p1 := (HLay.out.blk 0 rfl).frozen 1
                have x2 := (HLay.out.blk 0 rfl).cell 2
                have p2 := (HLay.out.blk 0 rfl).frozen 2
                have x3 := (HLay.out.blk 0 rfl).cell 3
                have p3 := (HLay.out.blk 0 rfl).frozen 3
                have y0 := (HLay.out.blk 1 rfl).cell 0
                have y1 := (HLay.out.blk 1 rfl).cell 1
                have v0 := (HLay.out.blk 2 rfl).cell 0
                have z0 := (HLay.out.blk 2 rfl).frozen 0
                have v1 := (HLay.out.blk 2 rfl).cell 1
                have z1 := (HLay.out.blk 2 rfl).frozen 1
                have v2 := (HLay.out.blk 2 rfl).cell 2
                have z2 := (HLay.out.blk 2 rfl).frozen 2
                have v3 := (HLay.out.blk 2 rfl).cell 3
                have z3 := (HLay.out.blk 2 rfl).frozen 3
                have l0 := HLay.out.lt 0 rfl
                have l1 := HLay.out.lt 1 rfl
                have l2 := HLay.out.lt 2 rfl
                by_cases hd2 : d2 < 0
                · gi_wp2
                  go_roundw
                  case rel => exact ⟨i + 1, A1, n1, c1, e1, e2, f, by go_num, by omega, by omega, Lib.hid ⟨HLay.out, by rw [foldN_skip _ _ _ _ _ _ _ hi1 (.inr (by rw [HX.out]; exact hd2))]; exact HBS.out, HLW.out, HKE.out⟩⟩
                  case measure => simp [intOf] <;> omega
                · gi_wp2
                  refine Tr.wpIn_region_tree (G := UpB wr.heap.size) (V0 := wr) [([], [true, true, false, true, false, true, false, false, true, true, true, true, true, true, true, true, true, true, true, true, true, true, true, true, true, true, true, true, true, true, true], [2, 6]), ([2], [], [4, 6]), ([6], [], [2]), ([2, 4], [], [6]), ([2, 6], [], [4]), ([2, 4, 6], [], [7]), ([2, 4, 6, 7], [], [31]), ([2, 4, 6, 7, 31], [], [])] 6 [false, false, false, false, false, false, false, false, false, false, false, false, false, false, false, false, false, false, false, false, false, false, false, false, false, false, false, false, false, false, false, false, true] (by kernel_rfl) (by kernel_rfl) (by kernel_rfl) (below_drewN (Below.refl _ _) 1) ?_
                  refine Tr.wpTree_two (A := ?AJbsucc) rfl rfl rfl ?hjbsucc ?_ ?_
                  case hjbsucc =>
                    rintro σ hσ of hof hcl
                    have HOF := Lib.hid hof
                    have HCL := Lib.hid hcl
                    clear hof hcl
                    have g0 := fun z => (((HOF.out z).2 (Nat.le_refl _)).cell (p := ⟨w.heap.size, 0, none⟩) l0).trans x0
                    have g1 := fun z => (((HOF.out z).2 (Nat.le_refl _)).cell (p := ⟨w.heap.size, 1, none⟩) l0).trans x1
                    have g2 := fun z => (((HOF.out z).2 (Nat.le_refl _)).cell (p := ⟨w.heap.size, 2, none⟩) l0).trans x2
                    have g3 := fun z => (((HOF.out z).2 (Nat.le_refl _)).cell (p := ⟨w.heap.size, 3, none⟩) l0).trans x3
                    have g4 := fun z => (((HOF.out z).2 (Nat.le_refl _)).cell (p := ⟨w.heap.size + 1, 0, none⟩) l1).trans y0
                    have g5 := fun z => (((HOF.out z).2 (Nat.le_refl _)).cell (p := ⟨w.heap.size + 1, 1, none⟩) l1).trans y1
                    have g6 := fun z => (((HOF.out z).2 (Nat.le_refl _)).cell (p := ⟨bA, oA + lst o, none⟩) hbl).trans r0
                    have g7 := fun z => (((HOF.out z).2 (Nat.le_refl _)).cell (p := ⟨rb, ro + i * 2, none⟩) hrl).trans r1
                    have g8 := fun z => (((HOF.out z).2 (Nat.le_refl _)).cell (p := ⟨rb, ro + i * 2 + 1, none⟩) hrl).trans r2
                    have hfw : ∀ f, Fence.wide.fn f := fun _ => trivial
                    simp only [pickB]
                    repeat (gi_big_quiet_step (fail))
                    refine wpQuietIn_nil ?_
                    exact rfl
                  clear x0 x1 x2 x3 p0 p1 p2 p3 y0 y1 v0 v1 v2 v3 z0 z1 z2 z3 l0 l1 l2
                  clear r0 r1 r2 hbl hrl
                  · intro W1 h1
                    have T1 := Lib.hid h1
                    clear h1
                    have HO2 := Lib.hid (own_empty W1)
                    have hb5 := T1.out.size
                    have T2 := Lib.hid (T1.out.alloc T1.out.size (.cells #[] 3))
                    have Z2 : W1.heap.size < (W1.alloc (.cells #[] 3)).heap.size := by simp
                    have HUP := Lib.hid ((Below.refl wr.heap.size W1).alloc T1.out.size (.cells #[] 3))
                    gi_wp2
                    first | refine ⟨trivial, UpB.of_below HUP.out, ?_⟩ | refine ⟨UpB.of_below HUP.out, ?_⟩
                    clear HUP
                    generalize (W1.alloc (.cells #[] 3)) = W2 at *
                    generalize W1.heap.size = b5 at *
                    refine Tr.wpTree_two (m := []) rfl rfl rfl Gr.Quietly.none ?_ ?_
                    · intro W3 h3
                      have T3 := Lib.hid (T2.out.trans (h3.mono T2.out.size))
                      have Z3 := h3.size
                      have HO3 := Lib.hid (HO2.out.below h3 (Nat.le_refl _))
                      clear h3
                      have HRX := Lib.hid (show IntsAt W3 W3.heap.size (some ⟨oo, ol, none⟩) no (ix o) from ints_up HOR0.out (HLay.out.1.trans (T3.out.mono HLay.out.1.size)))
                      gi_wp2_with (first | (gi_at_builtin; refine wpListIn_append_any rfl (.tmp 107) (.tmp 108) (by rfl) elem_int rfl HO3.out rfl HRX.out (ints_one _) (by unfold maxLen; omega) (by omega) (by omega) ?_) | fail)
                      rintro A8 q8 W4 hown hgr hA8
                      have HO4 := Lib.hid (show Own W4 b5 3 1 A8 no q8 ((ix o).map (Value.int .i64)) from by simpa using hown)
                      have T4 := Lib.hid (T3.out.grown hgr T3.out.size (fun j hj => Nat.le_trans hb5 (own_row HO3.out hj)))
                      have Z4 := hgr.size
                      have HUP := Lib.hid ((Below.refl wr.heap.size W3).grown hgr T3.out.size (fun j hj => Nat.le_trans hb5 (own_row HO3.out hj)))
                      clear hown hgr hA8
                      try simp only [Nat.zero_add]
                      gi_wp2
                      first | refine ⟨trivial, UpB.of_below HUP.out, ?_⟩ | refine ⟨UpB.of_below HUP.out, ?_⟩
                      clear HUP
                      refine Tr.wpTree_one (m := []) rfl rfl Gr.Quietly.none ?_
                      intro W5 h5
                      have T5 := Lib.hid (T4.out.trans (h5.mono T4.out.size))
                      have Z5 := h5.size
                      have HO5 := Lib.hid (HO4.out.below h5 (Nat.le_refl _))
                      clear h5
                      have HN6 := Lib.hid (Blk.new W5 3 #[.int .i64 (i : Int)])
                      have HO6 := Lib.hid (HO5.out.alloc (.cells #[.int .i64 (i : Int)] 3))
                      have T6 := Lib.hid (T5.out.alloc T5.out.size (.cells #[.int .i64 (i : Int)] 3))
                      have Z6 : W5.heap.size < (W5.alloc (.cells #[.int .i64 (i : Int)] 3)).heap.size := by simp
                      have HUP := Lib.hid ((Below.refl wr.heap.size W5).alloc T5.out.size (.cells #[.int .i64 (i : Int)] 3))
                      gi_wp2
                      first | refine ⟨trivial, UpB.of_below HUP.out, ?_⟩ | refine ⟨UpB.of_below HUP.out, ?_⟩
                      clear HUP
                      generalize (W5.alloc (.cells #[.int .i64 (i : Int)] 3)) = W6 at *
                      generalize W5.heap.size = g6 at *
                      refine Tr.wpTree_one (m := []) rfl rfl Gr.Quietly.none ?_
                      intro W7 h7
                      have T7 := Lib.hid (T6.out.trans (h7.mono T6.out.size))
                      have Z7 := h7.size
                      have HO7 := Lib.hid (HO6.out.below h7 (Nat.le_refl _))
                      have HN7 := Lib.hid (HN6.out.below h7 HN6.out.lt)
                      clear h7
                      gi_wp2_with (first | (gi_at_builtin; refine wpListIn_append_any rfl (.tmp 109) (.tmp 111) (by rfl) elem_int rfl HO7.out rfl (one_int HN7.out.lt (HN7.out.cell 0)) (ints_one _) (by unfold maxLen; omega) (by omega) (by omega) ?_) | fail)
                      rintro A9 q9 W8 hown hgr hA8
                      have HO8 := Lib.hid (show Own W8 b5 3 1 A9 (no + 1) q9 ((ix (o ++ [i])).map (Value.int .i64)) from by rw [ix_snoc, List.map_append]; simpa using hown)
                      have T8 := Lib.hid (T7.out.grown hgr T7.out.size (fun j hj => Nat.le_trans hb5 (own_row HO7.out hj)))
                      have Z8 := hgr.size
                      have HUP := Lib.hid ((Below.refl wr.heap.size W7).grown hgr T7.out.size (fun j hj => Nat.le_trans hb5 (own_row HO7.out hj)))
                      clear hown hgr hA8
                      try simp only [Nat.zero_add]
                      gi_wp2
                      first | refine ⟨trivial, UpB.of_below HUP.out, ?_⟩ | refine ⟨UpB.of_below HUP.out, ?_⟩
                      clear HUP
                      refine Tr.wpTree_one (m := []) rfl rfl Gr.Quietly.none ?_
                      intro W9 h9
                      have T9 := Lib.hid (T8.out.trans (h9.mono T8.out.size))
                      have Z9 := h9.size
                      have HO9 := Lib.hid (HO8.out.below h9 (Nat.le_refl _))
                      clear h9
                      have HC := Lib.hid (HIH.out _ A1 n1 c1 e1 e2 f _ cA A9 (no + 1) q9 (o ++ [i]) (s1 + d1) (s2 + d2) W9 (HBS.out.up T9.out) (fun h a ha => Nat.lt_of_lt_of_le (HLW.out h a ha) T9.out.size) ((HRW.out.below T9.out).more T9.out.size) (ints_of_own HO9.out (Nat.le_refl _)) (by omega) (fun v hv => by
                        rcases List.mem_append.1 hv with hv | hv
                        · exact HOL.out v hv
                        · rw [List.mem_singleton.1 hv]; exact him) ⟨by omega, by have := hs1.2; push_cast at this; omega⟩ ⟨by omega, by have := hs2.2; push_cast at this; omega⟩)
                      have hw3 := T9.out.size
                      gi_wp2
                      refine ⟨trivial, (callsIn_wide.2 (callsIn_wide.1 HC.out)).mono ?_⟩
                      clear HC
                      rintro e W10 ⟨A', n', c', t1, t2, f', rfl, hbest, hb11, hlow', hkept'⟩
                      have HBN := Lib.hid hbest
                      have HLN := Lib.hid hlow'
                      have HKN := Lib.hid hkept'
                      have T10 := Lib.hid (T9.out.trans (hb11.mono T9.out.size))
                      have HUP := Lib.hid (hb11.mono T9.out.size)
                      clear hbest hb11 hlow' hkept'
                      gi_wp2
                      first | refine ⟨trivial, UpB.of_below HUP.out, ?_⟩ | refine ⟨UpB.of_below HUP.out, ?_⟩
                      clear HUP
                      refine Tr.wpTree_end (m := []) rfl Gr.Quietly.none ?_
                      intro W11 h11
                      simp only [pickB]
                      replace HLay := Lib.hid (HLay.out.below (T10.out.trans (h11.mono T10.out.size)))
                      replace HBN := Lib.hid (HBN.out.up h11)
                      replace HLN := Lib.hid (show Low W11 A' n' from fun h a ha => Nat.lt_of_lt_of_le (HLN.out h a ha) h11.size)
                      clear h11
                      have x0 := (HLay.out.blk 0 rfl).cell 0
                      have p0 := (HLay.out.blk 0 rfl).frozen 0
                      have x1 := (HLay.out.blk 0 rfl).cell 1
                      have p1 := (HLay.out.blk 0 rfl).frozen 1
                      have x2 := (HLay.out.blk 0 rfl).cell 2
                      have p2 := (HLay.out.blk 0 rfl).frozen 2
                      have x3 := (HLay.out.blk 0 rfl).cell 3
                      have p3 := (HLay.out.blk 0 rfl).frozen 3
                      have y0 := (HLay.out.blk 1 rfl).cell 0
                      have y1 := (HLay.out.blk 1 rfl).cell 1
                      have v0 := (HLay.out.blk 2 rfl).cell 0
                      have z0 := (HLay.out.blk 2 rfl).frozen 0
                      have v1 := (HLay.out.blk 2 rfl).cell 1
                      have z1 := (HLay.out.blk 2 rfl).frozen 1
                      have v2 := (HLay.out.blk 2 rfl).cell 2
                      have z2 := (HLay.out.blk 2 rfl).frozen 2
                      have v3 := (HLay.out.blk 2 rfl).cell 3
                      have z3 := (HLay.out.blk 2 rfl).frozen 3
                      have l0 := HLay.out.lt 0 rfl
                      have l1 := HLay.out.lt 1 rfl
                      have l2 := HLay.out.lt 2 rfl
                      refine wpT_cons ?_
                      gi_wp2
                      refine wpT_nil ?_
                      gi_wp2
                      clear x0 x1 x2 x3 p0 p1 p2 p3 y0 y1 v0 v1 v2 v3 z0 z1 z2 z3 l0 l1 l2
                      have HR4 := Lib.hid (ret4' (HLay.out.blk 0 rfl) HLay.out.1 (Nat.le_refl _) (.slice A' n' c') (.int .i64 t1) (.int .i64 t2) (.bool f'))
                      have HK2 := Lib.hid (show Kept w.heap.size Ab nb A' n' from by
                        rcases HKN.out with ⟨ka, kn⟩ | kk
                        · rw [ka, kn]; exact HKE.out
                        · exact .inr fun a ha => by have := kk a ha; omega)
                      go_roundw
                      case rel =>
                        refine ⟨i + 1, A', n', c', t1, t2, f', by go_num, by omega, by omega, Lib.hid ⟨HLay.out.head4 (by simp) (by simp only; omega) _ _ _ _, ?_, (fun h a ha => Nat.lt_of_lt_of_le (HLN.out h a ha) HR4.out.2.2.size), HK2.out⟩⟩
                        rw [foldN_go _ _ _ _ _ _ _ hi1 (fun hc => by rcases hc with hc | hc; exact HIO.out hc; rw [HX.out] at hc; simp only at hc; omega), HX.out]
                        refine HBN.out.off (fun h a ha e => ?_) HR4.out.2.2
                        rcases HK2.out with ⟨ka, kn⟩ | kk
                        · have := HLO.out (by rw [← kn]; exact h) a (by rw [← ka]; exact ha); omega
                        · have := kk a ha; omega
                      case measure => simp [intOf] <;> omega
                    · intro W3 h3
                      have T3 := Lib.hid (T2.out.trans (h3.mono T2.out.size))
                      have Z3 := h3.size
                      have HO3 := Lib.hid (HO2.out.below h3 (Nat.le_refl _))
                      clear h3
                      have HN4 := Lib.hid (Blk.new W3 3 #[.int .i64 (i : Int)])
                      have hgb := (HO3.out.lt rfl).2
                      have HO4 := Lib.hid (HO3.out.alloc (.cells #[.int .i64 (i : Int)] 3))
                      have T4 := Lib.hid (T3.out.alloc T3.out.size (.cells #[.int .i64 (i : Int)] 3))
                      have Z4 : W3.heap.size < (W3.alloc (.cells #[.int .i64 (i : Int)] 3)).heap.size := by simp
                      have HUP := Lib.hid ((Below.refl wr.heap.size W3).alloc T3.out.size (.cells #[.int .i64 (i : Int)] 3))
                      gi_wp2
                      first | refine ⟨trivial, UpB.of_below HUP.out, ?_⟩ | refine ⟨UpB.of_below HUP.out, ?_⟩
                      clear HUP
                      generalize (W3.alloc (.cells #[.int .i64 (i : Int)] 3)) = W4 at *
                      generalize W3.heap.size = g6 at *
                      refine Tr.wpTree_one (m := []) rfl rfl Gr.Quietly.none ?_
                      intro W5 h5
                      have T5 := Lib.hid (T4.out.trans (h5.mono T4.out.size))
                      have Z5 := h5.size
                      have HO5 := Lib.hid (HO4.out.below h5 (Nat.le_refl _))
                      have HN5 := Lib.hid (HN4.out.below h5 HN4.out.lt)
                      clear h5
                      have HRX := Lib.hid (show IntsAt W5 W5.heap.size (some ⟨oo, ol, none⟩) no (ix o) from ints_up HOR0.out (HLay.out.1.trans (T5.out.mono HLay.out.1.size)))
                      gi_wp2_with (first | (gi_at_builtin; refine wpListIn_append_any rfl (.tmp 107) (.tmp 108) (by rfl) elem_int rfl HO5.out rfl HRX.out (ints_one _) (by unfold maxLen; omega) (by omega) (by omega) ?_) | fail)
                      rintro A8 q8 W6 hown hgr hA8
                      have HO6 := Lib.hid (show Own W6 b5 3 1 A8 no q8 ((ix o).map (Value.int .i64)) from by simpa using hown)
                      have HN6 := Lib.hid (HN5.out.grown hgr (by intro e; have := Option.some.inj e; omega))
                      have T6 := Lib.hid (T5.out.grown hgr T5.out.size (fun j hj => Nat.le_trans hb5 (own_row HO5.out hj)))
                      have Z6 := hgr.size
                      have HUP := Lib.hid ((Below.refl wr.heap.size W5).grown hgr T5.out.size (fun j hj => Nat.le_trans hb5 (own_row HO5.out hj)))
                      clear hown hgr hA8
                      try simp only [Nat.zero_add]
                      gi_wp2
                      first | refine ⟨trivial, UpB.of_below HUP.out, ?_⟩ | refine ⟨UpB.of_below HUP.out, ?_⟩
                      clear HUP
                      refine Tr.wpTree_one (m := []) rfl rfl Gr.Quietly.none ?_
                      intro W7 h7
                      have T7 := Lib.hid (T6.out.trans (h7.mono T6.out.size))
                      have Z7 := h7.size
                      have HO7 := Lib.hid (HO6.out.below h7 (Nat.le_refl _))
                      have HN7 := Lib.hid (HN6.out.below h7 HN6.out.lt)
                      clear h7
                      gi_wp2_with (first | (gi_at_builtin; refine wpListIn_append_any rfl (.tmp 109) (.tmp 111) (by rfl) elem_int rfl HO7.out rfl (one_int HN7.out.lt (HN7.out.cell 0)) (ints_one _) (by unfold maxLen; omega) (by omega) (by omega) ?_) | fail)
                      rintro A9 q9 W8 hown hgr hA8
                      have HO8 := Lib.hid (show Own W8 b5 3 1 A9 (no + 1) q9 ((ix (o ++ [i])).map (Value.int .i64)) from by rw [ix_snoc, List.map_append]; simpa using hown)
                      have T8 := Lib.hid (T7.out.grown hgr T7.out.size (fun j hj => Nat.le_trans hb5 (own_row HO7.out hj)))
                      have Z8 := hgr.size
                      have HUP := Lib.hid ((Below.refl wr.heap.size W7).grown hgr T7.out.size (fun j hj => Nat.le_trans hb5 (own_row HO7.out hj)))
                      clear hown hgr hA8
                      try simp only [Nat.zero_add]
                      gi_wp2
                      first | refine ⟨trivial, UpB.of_below HUP.out, ?_⟩ | refine ⟨UpB.of_below HUP.out, ?_⟩
                      clear HUP
                      refine Tr.wpTree_one (m := []) rfl rfl Gr.Quietly.none ?_
                      intro W9 h9
                      have T9 := Lib.hid (T8.out.trans (h9.mono T8.out.size))
                      have Z9 := h9.size
                      have HO9 := Lib.hid (HO8.out.below h9 (Nat.le_refl _))
                      clear h9
                      have HC := Lib.hid (HIH.out _ A1 n1 c1 e1 e2 f _ cA A9 (no + 1) q9 (o ++ [i]) (s1 + d1) (s2 + d2) W9 (HBS.out.up T9.out) (fun h a ha => Nat.lt_of_lt_of_le (HLW.out h a ha) T9.out.size) ((HRW.out.below T9.out).more T9.out.size) (ints_of_own HO9.out (Nat.le_refl _)) (by omega) (fun v hv => by
                        rcases List.mem_append.1 hv with hv | hv
                        · exact HOL.out v hv
                        · rw [List.mem_singleton.1 hv]; exact him) ⟨by omega, by have := hs1.2; push_cast at this; omega⟩ ⟨by omega, by have := hs2.2; push_cast at this; omega⟩)
                      have hw3 := T9.out.size
                      gi_wp2
                      refine ⟨trivial, (callsIn_wide.2 (callsIn_wide.1 HC.out)).mono ?_⟩
                      clear HC
                      rintro e W10 ⟨A', n', c', t1, t2, f', rfl, hbest, hb11, hlow', hkept'⟩
                      have HBN := Lib.hid hbest
                      have HLN := Lib.hid hlow'
                      have HKN := Lib.hid hkept'
                      have T10 := Lib.hid (T9.out.trans (hb11.mono T9.out.size))
                      have HUP := Lib.hid (hb11.mono T9.out.size)
                      clear hbest hb11 hlow' hkept'
                      gi_wp2
                      first | refine ⟨trivial, UpB.of_below HUP.out, ?_⟩ | refine ⟨UpB.of_below HUP.out, ?_⟩
                      clear HUP
                      refine Tr.wpTree_end (m := []) rfl Gr.Quietly.none ?_
                      intro W11 h11
                      simp only [pickB]
                      replace HLay := Lib.hid (HLay.out.below (T10.out.trans (h11.mono T10.out.size)))
                      replace HBN := Lib.hid (HBN.out.up h11)
                      replace HLN := Lib.hid (show Low W11 A' n' from fun h a ha => Nat.lt_of_lt_of_le (HLN.out h a ha) h11.size)
                      clear h11
                      have x0 := (HLay.out.blk 0 rfl).cell 0
                      have p0 := (HLay.out.blk 0 rfl).frozen 0
                      have x1 := (HLay.out.blk 0 rfl).cell 1
                      have p1 := (HLay.out.blk 0 rfl).frozen 1
                      have x2 := (HLay.out.blk 0 rfl).cell 2
                      have p2 := (HLay.out.blk 0 rfl).frozen 2
                      have x3 := (HLay.out.blk 0 rfl).cell 3
                      have p3 := (HLay.out.blk 0 rfl).frozen 3
                      have y0 := (HLay.out.blk 1 rfl).cell 0
                      have y1 := (HLay.out.blk 1 rfl).cell 1
                      have v0 := (HLay.out.blk 2 rfl).cell 0
                      have z0 := (HLay.out.blk 2 rfl).frozen 0
                      have v1 := (HLay.out.blk 2 rfl).cell 1
                      have z1 := (HLay.out.blk 2 rfl).frozen 1
                      have v2 := (HLay.out.blk 2 rfl).cell 2
                      have z2 := (HLay.out.blk 2 rfl).frozen 2
                      have v3 := (HLay.out.blk 2 rfl).cell 3
                      have z3 := (HLay.out.blk 2 rfl).frozen 3
                      have l0 := HLay.out.lt 0 rfl
                      have l1 := HLay.out.lt 1 rfl
                      have l2 := HLay.out.lt 2 rfl
                      refine wpT_cons ?_
                      gi_wp2
                      refine wpT_nil ?_
                      gi_wp2
                      clear x0 x1 x2 x3 p0 p1 p2 p3 y0 y1 v0 v1 v2 v3 z0 z1 z2 z3 l0 l1 l2
                      have HR4 := Lib.hid (ret4' (HLay.out.blk 0 rfl) HLay.out.1 (Nat.le_refl _) (.slice A' n' c') (.int .i64 t1) (.int .i64 t2) (.bool f'))
                      have HK2 := Lib.hid (show Kept w.heap.size Ab nb A' n' from by
                        rcases HKN.out with ⟨ka, kn⟩ | kk
                        · rw [ka, kn]; exact HKE.out
                        · exact .inr fun a ha => by have := kk a ha; omega)
                      go_roundw
                      case rel =>
                        refine ⟨i + 1, A', n', c', t1, t2, f', by go_num, by omega, by omega, Lib.hid ⟨HLay.out.head4 (by simp) (by simp only; omega) _ _ _ _, ?_, (fun h a ha => Nat.lt_of_lt_of_le (HLN.out h a ha) HR4.out.2.2.size), HK2.out⟩⟩
                        rw [foldN_go _ _ _ _ _ _ _ hi1 (fun hc => by rcases hc with hc | hc; exact HIO.out hc; rw [HX.out] at hc; simp only at hc; omega), HX.out]
                        refine HBN.out.off (fun h a ha e => ?_) HR4.out.2.2
                        rcases HK2.out with ⟨ka, kn⟩ | kk
                        · have := HLO.out (by rw [← kn]; exact h) a (by rw [← ka]; exact ha); omega
                        · have := kk a ha; omega
                      case measure => simp [intOf] <;> omega
                  · intro W1 h1
                    have T1 := Lib.hid h1
                    clear h1
                    have HN2 := Lib.hid (Blk.new W1 3 #[.int .i64 (i : Int)])
                    have T2 := Lib.hid (T1.out.alloc T1.out.size (.cells #[.int .i64 (i : Int)] 3))
                    have Z2 : W1.heap.size < (W1.alloc (.cells #[.int .i64 (i : Int)] 3)).heap.size := by simp
                    have HUP := Lib.hid ((Below.refl wr.heap.size W1).alloc T1.out.size (.cells #[.int .i64 (i : Int)] 3))
                    gi_wp2
                    first | refine ⟨trivial, UpB.of_below HUP.out, ?_⟩ | refine ⟨UpB.of_below HUP.out, ?_⟩
                    clear HUP
                    generalize (W1.alloc (.cells #[.int .i64 (i : Int)] 3)) = W2 at *
                    generalize W1.heap.size = g6 at *
                    refine Tr.wpTree_one (m := []) rfl rfl Gr.Quietly.none ?_
                    intro W3 h3
                    have T3 := Lib.hid (T2.out.trans (h3.mono T2.out.size))
                    have Z3 := h3.size
                    have HN3 := Lib.hid (HN2.out.below h3 HN2.out.lt)
                    clear h3
                    have HO4 := Lib.hid (own_empty W3)
                    have hb5 := T3.out.size
                    have hgb := HN3.out.lt
                    have HN4 := Lib.hid (HN3.out.alloc (.cells #[] 3))
                    have T4 := Lib.hid (T3.out.alloc T3.out.size (.cells #[] 3))
                    have Z4 : W3.heap.size < (W3.alloc (.cells #[] 3)).heap.size := by simp
                    have HUP := Lib.hid ((Below.refl wr.heap.size W3).alloc T3.out.size (.cells #[] 3))
                    gi_wp2
                    first | refine ⟨trivial, UpB.of_below HUP.out, ?_⟩ | refine ⟨UpB.of_below HUP.out, ?_⟩
                    clear HUP
                    generalize (W3.alloc (.cells #[] 3)) = W4 at *
                    generalize W3.heap.size = b5 at *
                    refine Tr.wpTree_one (m := []) rfl rfl Gr.Quietly.none ?_
                    intro W5 h5
                    have T5 := Lib.hid (T4.out.trans (h5.mono T4.out.size))
                    have Z5 := h5.size
                    have HO5 := Lib.hid (HO4.out.below h5 (Nat.le_refl _))
                    have HN5 := Lib.hid (HN4.out.below h5 HN4.out.lt)
                    clear h5
                    have HRX := Lib.hid (show IntsAt W5 W5.heap.size (some ⟨oo, ol, none⟩) no (ix o) from ints_up HOR0.out (HLay.out.1.trans (T5.out.mono HLay.out.1.size)))
                    gi_wp2_with (first | (gi_at_builtin; refine wpListIn_append_any rfl (.tmp 107) (.tmp 108) (by rfl) elem_int rfl HO5.out rfl HRX.out (ints_one _) (by unfold maxLen; omega) (by omega) (by omega) ?_) | fail)
                    rintro A8 q8 W6 hown hgr hA8
                    have HO6 := Lib.hid (show Own W6 b5 3 1 A8 no q8 ((ix o).map (Value.int .i64)) from by simpa using hown)
                    have HN6 := Lib.hid (HN5.out.grown hgr (by intro e; have := Option.some.inj e; omega))
                    have T6 := Lib.hid (T5.out.grown hgr T5.out.size (fun j hj => Nat.le_trans hb5 (own_row HO5.out hj)))
                    have Z6 := hgr.size
                    have HUP := Lib.hid ((Below.refl wr.heap.size W5).grown hgr T5.out.size (fun j hj => Nat.le_trans hb5 (own_row HO5.out hj)))
                    clear hown hgr hA8
                    try simp only [Nat.zero_add]
                    gi_wp2
                    first | refine ⟨trivial, UpB.of_below HUP.out, ?_⟩ | refine ⟨UpB.of_below HUP.out, ?_⟩
                    clear HUP
                    refine Tr.wpTree_one (m := []) rfl rfl Gr.Quietly.none ?_
                    intro W7 h7
                    have T7 := Lib.hid (T6.out.trans (h7.mono T6.out.size))
                    have Z7 := h7.size
                    have HO7 := Lib.hid (HO6.out.below h7 (Nat.le_refl _))
                    have HN7 := Lib.hid (HN6.out.below h7 HN6.out.lt)
                    clear h7
                    gi_wp2_with (first | (gi_at_builtin; refine wpListIn_append_any rfl (.tmp 109) (.tmp 111) (by rfl) elem_int rfl HO7.out rfl (one_int HN7.out.lt (HN7.out.cell 0)) (ints_one _) (by unfold maxLen; omega) (by omega) (by omega) ?_) | fail)
                    rintro A9 q9 W8 hown hgr hA8
                    have HO8 := Lib.hid (show Own W8 b5 3 1 A9 (no + 1) q9 ((ix (o ++ [i])).map (Value.int .i64)) from by rw [ix_snoc, List.map_append]; simpa using hown)
                    have T8 := Lib.hid (T7.out.grown hgr T7.out.size (fun j hj => Nat.le_trans hb5 (own_row HO7.out hj)))
                    have Z8 := hgr.size
                    have HUP := Lib.hid ((Below.refl wr.heap.size W7).grown hgr T7.out.size (fun j hj => Nat.le_trans hb5 (own_row HO7.out hj)))
                    clear hown hgr hA8
                    try simp only [Nat.zero_add]
                    gi_wp2
                    first | refine ⟨trivial, UpB.of_below HUP.out, ?_⟩ | refine ⟨UpB.of_below HUP.out, ?_⟩
                    clear HUP
                    refine Tr.wpTree_one (m := []) rfl rfl Gr.Quietly.none ?_
                    intro W9 h9
                    have T9 := Lib.hid (T8.out.trans (h9.mono T8.out.size))
                    have Z9 := h9.size
                    have HO9 := Lib.hid (HO8.out.below h9 (Nat.le_refl _))
                    clear h9
                    have HC := Lib.hid (HIH.out _ A1 n1 c1 e1 e2 f _ cA A9 (no + 1) q9 (o ++ [i]) (s1 + d1) (s2 + d2) W9 (HBS.out.up T9.out) (fun h a ha => Nat.lt_of_lt_of_le (HLW.out h a ha) T9.out.size) ((HRW.out.below T9.out).more T9.out.size) (ints_of_own HO9.out (Nat.le_refl _)) (by omega) (fun v hv => by
                      rcases List.mem_append.1 hv with hv | hv
                      · exact HOL.out v hv
                      · rw [List.mem_singleton.1 hv]; exact him) ⟨by omega, by have := hs1.2; push_cast at this; omega⟩ ⟨by omega, by have := hs2.2; push_cast at this; omega⟩)
                    have hw3 := T9.out.size
                    gi_wp2
                    refine ⟨trivial, (callsIn_wide.2 (callsIn_wide.1 HC.out)).mono ?_⟩
                    clear HC
                    rintro e W10 ⟨A', n', c', t1, t2, f', rfl, hbest, hb11, hlow', hkept'⟩
                    have HBN := Lib.hid hbest
                    have HLN := Lib.hid hlow'
                    have HKN := Lib.hid hkept'
                    have T10 := Lib.hid (T9.out.trans (hb11.mono T9.out.size))
                    have HUP := Lib.hid (hb11.mono T9.out.size)
                    clear hbest hb11 hlow' hkept'
                    gi_wp2
                    first | refine ⟨trivial, UpB.of_below HUP.out, ?_⟩ | refine ⟨UpB.of_below HUP.out, ?_⟩
                    clear HUP
                    refine Tr.wpTree_end (m := []) rfl Gr.Quietly.none ?_
                    intro W11 h11
                    simp only [pickB]
                    replace HLay := Lib.hid (HLay.out.below (T10.out.trans (h11.mono T10.out.size)))
                    replace HBN := Lib.hid (HBN.out.up h11)
                    replace HLN := Lib.hid (show Low W11 A' n' from fun h a ha => Nat.lt_of_lt_of_le (HLN.out h a ha) h11.size)
                    clear h11
                    have x0 := (HLay.out.blk 0 rfl).cell 0
                    have p0 := (HLay.out.blk 0 rfl).frozen 0
                    have x1 := (HLay.out.blk 0 rfl).cell 1
                    have p1 := (HLay.out.blk 0 rfl).frozen 1
                    have x2 := (HLay.out.blk 0 rfl).cell 2
                    have p2 := (HLay.out.blk 0 rfl).frozen 2
                    have x3 := (HLay.out.blk 0 rfl).cell 3
                    have p3 := (HLay.out.blk 0 rfl).frozen 3
                    have y0 := (HLay.out.blk 1 rfl).cell 0
                    have y1 := (HLay.out.blk 1 rfl).cell 1
                    have v0 := (HLay.out.blk 2 rfl).cell 0
                    have z0 := (HLay.out.blk 2 rfl).frozen 0
                    have v1 := (HLay.out.blk 2 rfl).cell 1
                    have z1 := (HLay.out.blk 2 rfl).frozen 1
                    have v2 := (HLay.out.blk 2 rfl).cell 2
                    have z2 := (HLay.out.blk 2 rfl).frozen 2
                    have v3 := (HLay.out.blk 2 rfl).cell 3
                    have z3 := (HLay.out.blk 2 rfl).frozen 3
                    have l0 := HLay.out.lt 0 rfl
                    have l1 := HLay.out.lt 1 rfl
                    have l2 := HLay.out.lt 2 rfl
                    refine wpT_cons ?_
                    gi_wp2
                    refine wpT_nil ?_
                    gi_wp2
                    clear x0 x1 x2 x3 p0 p1 p2 p3 y0 y1 v0 v1 v2 v3 z0 z1 z2 z3 l0 l1 l2
                    have HR4 := Lib.hid (ret4' (HLay.out.blk 0 rfl) HLay.out.1 (Nat.le_refl _) (.slice A' n' c') (.int .i64 t1) (.int .i64 t2) (.bool f'))
                    have HK2 := Lib.hid (show Kept w.heap.size Ab nb A' n' from by
                      rcases HKN.out with ⟨ka, kn⟩ | kk
                      · rw [ka, kn]; exact HKE.out
                      · exact .inr fun a ha => by have := kk a ha; omega)
                    go_roundw
                    case rel =>
                      refine ⟨i + 1, A', n', c', t1, t2, f', by go_num, by omega, by omega, Lib.hid ⟨HLay.out.head4 (by simp) (by simp only; omega) _ _ _ _, ?_, (fun h a ha => Nat.lt_of_lt_of_le (HLN.out h a ha) HR4.out.2.2.size), HK2.out⟩⟩
                      rw [foldN_go _ _ _ _ _ _ _ hi1 (fun hc => by rcases hc with hc | hc; exact HIO.out hc; rw [HX.out] at hc; simp only at hc; omega), HX.out]
                      refine HBN.out.off (fun h a ha e => ?_) HR4.out.2.2
                      rcases HK2.out with ⟨ka, kn⟩ | kk
                      · have := HLO.out (by rw [← kn]; exact h) a (by rw [← ka]; exact ha); omega
                      · have := kk a ha; omega
                    case measure => simp [intOf] <;> omega
        · obtain rfl : i = m + 1 := by omega
          have HLay := Lib.hid HSS.out.1
          have HBS := Lib.hid HSS.out.2
          clear HSS
          have x0 := (HLay.out.blk 0 rfl).cell 0
          have p0 := (HLay.out.blk 0 rfl).frozen 0
          have x1 := (HLay.out.blk 0 rfl).cell 1
          have p1 := (HLay.out.blk 0 rfl).frozen 1
          have x2 := (HLay.out.blk 0 rfl).cell 2
          have p2 := (HLay.out.blk 0 rfl).frozen 2
          have x3 := (HLay.out.blk 0 rfl).cell 3
          have p3 := (HLay.out.blk 0 rfl).frozen 3
          have y0 := (HLay.out.blk 1 rfl).cell 0
          have y1 := (HLay.out.blk 1 rfl).cell 1
          have v0 := (HLay.out.blk 2 rfl).cell 0
          have z0 := (HLay.out.blk 2 rfl).frozen 0
          have v1 := (HLay.out.blk 2 rfl).cell 1
          have z1 := (HLay.out.blk 2 rfl).frozen 1
          have v2 := (HLay.out.blk 2 rfl).cell 2
          have z2 := (HLay.out.blk 2 rfl).frozen 2
          have v3 := (HLay.out.blk 2 rfl).cell 3
          have z3 := (HLay.out.blk 2 rfl).frozen 3
          have l0 := HLay.out.lt 0 rfl
          have l1 := HLay.out.lt 1 rfl
          have l2 := HLay.out.lt 2 rfl
          gi_wp2
          clear x0 x1 x2 x3 p0 p1 p2 p3 y0 y1 v0 v1 v2 v3 z0 z1 z2 z3 l0 l1 l2
          have R1 := ret4' (HLay.out.blk 2 rfl) HLay.out.1 (by omega) (.slice A1 n1 c1) (.int .i64 e1) (.int .i64 e2) (.bool f)
          have u0 := R1.1.cell 0
          have u1 := R1.1.cell 1
          have u2 := R1.1.cell 2
          have u3 := R1.1.cell 3
          refine bodyPost_ret (v := .agg #[.slice A1 n1 c1, .int .i64 e1, .int .i64 e2, .bool f]) (by simp [results, Tryd.results102, go_sem, u0, u1, u2, u3]) rfl ⟨_, _, _, _, _, _, rfl, ?_, R1.2.1, (fun h a ha => Nat.lt_of_lt_of_le (HBS.out.2.1 h a ha) R1.2.2.size), HBS.out.2.2⟩
          rw [← foldN_all]
          refine HBS.out.1.off (fun h a ha e => ?_) R1.2.2
          rcases HBS.out.2.2 with ⟨ka, kn⟩ | kk
          · have := HLO.out (by rw [← kn]; exact h) a (by rw [← ka]; exact ha); omega
          · have := kk a ha; omega
end Go.Proofs.YtahkjagjcogeiaaDoor
/- The answer's Round in plain Lean: indices told as places. -/
namespace Go.Proofs.YtahkjagjcogeiaaDoor
set_option linter.unusedVariables false

def plOf (u : Int) (st : List Int) (i : Nat) : Int := ((u :: upI st)[i]?).getD 0
theorem upI_len (st : List Int) : (upI st).length = st.length := (upI_perm st).length_eq
theorem all_nodup {t : Town} {u : Int} {st : List Int} (h0 : roundE t u st = 0) : (u :: upI st).Nodup := by
  obtain ⟨_, _, _, hu, hn⟩ := roundE_zero h0
  rw [List.nodup_cons]
  exact ⟨fun h => hu ((upI_perm st).mem_iff.1 h), (upI_perm st).nodup_iff.2 hn⟩
theorem legX_small {t : Town} (hg : GoodT t) (dk : Bool) (a b : Int) : (0 ≤ (legX t dk a b).1 ∧ (legX t dk a b).1 ≤ 16000) ∧ -1 ≤ (legX t dk a b).2 ∧ (legX t dk a b).2 ≤ 16000 := by
  unfold legX
  cases h : legF t dk a b with
  | none => simp
  | some s =>
    have := legF_small hg h
    simp only [Option.getD_some]
    omega
theorem at2_legs {t : Town} {dk : Bool} {al : List Int} {i j : Nat} (hi : i < al.length) (hj : j < al.length) : at2 (legsM t dk al) i j = legX t dk al[i] al[j] := by
  unfold at2 legsM
  rw [List.getElem?_map, List.getElem?_eq_getElem hi, Option.map_some, Option.getD_some, List.getElem?_map, List.getElem?_eq_getElem hj, Option.map_some, Option.getD_some]
theorem at2_small {t : Town} (hg : GoodT t) (dk : Bool) (al : List Int) (i j : Nat) : (0 ≤ (at2 (legsM t dk al) i j).1 ∧ (at2 (legsM t dk al) i j).1 ≤ 16000) ∧ -1 ≤ (at2 (legsM t dk al) i j).2 ∧ (at2 (legsM t dk al) i j).2 ≤ 16000 := by
  by_cases hi : i < al.length
  · by_cases hj : j < al.length
    · rw [at2_legs hi hj]; exact legX_small hg dk _ _
    · have : at2 (legsM t dk al) i j = (0, -1) := by
        unfold at2 legsM
        rw [List.getElem?_map, List.getElem?_eq_getElem hi, Option.map_some, Option.getD_some, List.getElem?_eq_none (by simp; omega)]
        rfl
      rw [this]; simp
  · have : at2 (legsM t dk al) i j = (0, -1) := by
      unfold at2 legsM
      rw [List.getElem?_map, List.getElem?_eq_none (show al.length ≤ i by omega)]
      rfl
    rw [this]; simp
theorem legsM_rows (t : Town) (dk : Bool) (al : List Int) : (legsM t dk al).length = al.length ∧ ∀ row ∈ legsM t dk al, row.length = al.length := by
  unfold legsM
  refine ⟨by simp, fun row h => ?_⟩
  obtain ⟨x, _, rfl⟩ := List.mem_map.1 h
  simp
theorem range_pl (u : Int) (l : List Int) : l = (List.range' 1 l.length).map fun i => ((u :: l)[i]?).getD 0 := by
  apply List.ext_getElem
  · simp
  · intro i h1 h2
    simp only [List.getElem_map, List.getElem_range']
    rw [show 1 + 1 * i = i + 1 by omega, List.getElem?_cons_succ, List.getElem?_eq_getElem h1, Option.getD_some]
theorem same_round {t : Town} {u : Int} {st : List Int} (dk : Bool) (h0 : roundE t u st = 0) : Same (legF t dk) (legsM t dk (u :: upI st)) u (upI st) st.length (plOf u st) := by
  have hg := (roundE_zero h0).1
  have hl := upI_len st
  have hN := all_nodup h0
  have hlt : ∀ i, i ≤ st.length → i < (u :: upI st).length := fun i hi => by simp only [List.length_cons]; omega
  have hpl : ∀ i (hi : i ≤ st.length), plOf u st i = (u :: upI st)[i]'(hlt i hi) := fun i hi => by unfold plOf; rw [List.getElem?_eq_getElem (hlt i hi), Option.getD_some]
  refine ⟨hl, rfl, ?_, fun i j hi hj e => ?_, fun i j hi hj => ?_, fun a b d hd => (legF_small hg hd).2.1⟩
  · have := range_pl u (upI st)
    rw [hl] at this
    exact this
  · rw [hpl i hi, hpl j hj] at e
    have hP := List.pairwise_iff_getElem.1 hN
    rcases Nat.lt_trichotomy i j with h | h | h
    · exact absurd e (hP i j _ _ h)
    · exact h
    · exact absurd e.symm (hP j i _ _ h)
  · rw [at2_legs (hlt i hi) (hlt j hj), hpl i hi, hpl j hj]
    rfl
theorem dfsI_le {L : List (List Leg)} {m : Nat} : ∀ (k : Nat) (o : List Nat) (p : Nat) (s : Leg), (∀ i ∈ o, i ≤ m) → ∀ r ∈ dfsI L m k o p s, (∀ i ∈ r.1, i ≤ m) ∧ r.1.length = o.length + k
  | 0, o, p, s, ho, r, hr => by
    unfold dfsI at hr
    split at hr
    · cases hr
    · rw [List.mem_singleton.1 hr]
      exact ⟨ho, rfl⟩
  | k + 1, o, p, s, ho, r, hr => by
    unfold dfsI at hr
    obtain ⟨i, hi, h2⟩ := List.mem_flatMap.1 hr
    split at h2
    · cases h2
    · have him : i ≤ m := by
        obtain ⟨q, h3, h4⟩ := List.mem_range'.1 hi
        omega
      have := dfsI_le k (o ++ [i]) i _ (fun v hv => by
        rcases List.mem_append.1 hv with hv | hv
        · exact ho v hv
        · rw [List.mem_singleton.1 hv]; exact him) r h2
      refine ⟨this.1, ?_⟩
      rw [this.2, List.length_append, List.length_singleton]
      omega
theorem foldI_mem : ∀ {l : List RndI} {b : Option RndI} {x : RndI}, l.foldl stepI b = some x → x ∈ l ∨ b = some x
  | [], b, x, h => .inr h
  | y :: l, b, x, h => by
    rw [List.foldl_cons] at h
    rcases foldI_mem h with h | h
    · exact .inl (List.mem_cons_of_mem _ h)
    · cases b with
      | none =>
        have : y = x := Option.some.inj h
        exact .inl (by rw [this]; simp)
      | some z =>
        unfold stepI at h
        simp only at h
        split at h
        · have : y = x := Option.some.inj h
          exact .inl (by rw [this]; simp)
        · exact .inr h
theorem betterI_le {L : List (List Leg)} {m : Nat} {r : RndI} (h : betterI L m m [] 0 (0, 0) none = some r) : (∀ i ∈ r.1, i ≤ m) ∧ r.1.length = m := by
  unfold betterI at h
  rcases foldI_mem h with h | h
  · have := dfsI_le m [] 0 (0, 0) (fun i hi => by cases hi) r h
    simpa using this
  · cases h
end Go.Proofs.YtahkjagjcogeiaaDoor
