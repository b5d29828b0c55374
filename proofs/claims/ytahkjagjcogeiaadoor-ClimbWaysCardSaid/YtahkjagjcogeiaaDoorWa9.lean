/- Part 9 of the texts of this claim, joined. -/
import Derived.Sort.WalkA
import Derived.Sort.OwnSortedInts
import Derived.Test.YtahkjagjcogeiaaDoorWa8
/- climb.between: what is asked first of a walk, by two prices. -/
namespace Go.Proofs.YtahkjagjcogeiaaDoor
open Go.RowKit
set_option linter.unusedVariables false

theorem leads_fst (dk : Bool) (p p' : Price) (x : Link) (u : Int) : (leads dk p x u).map Prod.fst = (leads dk p' x u).map Prod.fst := by
  unfold leads
  split
  · rfl
  · split
    · rfl
    · split <;> rfl
theorem stepF_fst (t : Town) (p p' : Price) (u i : Int) : (stepF t p u i).map Prod.fst = (stepF t p' u i).map Prod.fst := by
  unfold stepF
  induction t.links with
  | nil => rfl
  | cons x xs ih =>
    rw [List.findSome?_cons, List.findSome?_cons]
    by_cases e : x.id = i
    · rw [if_pos e, if_pos e]
      have h := leads_fst false p p' x u
      cases h1 : leads false p x u <;> cases h2 : leads false p' x u <;> rw [h1, h2] at h <;> simp at h
      · exact ih
      · simp [h]
    · rw [if_neg e, if_neg e]
      exact ih
theorem walkS_fst (t : Town) (p p' : Price) : ∀ (l : List Int) (s s' : Int × Cost), s.1 = s'.1 → (walkS t p s l).map Prod.fst = (walkS t p' s' l).map Prod.fst
  | [], s, s', h => by simp [walkS, h]
  | i :: r, s, s', h => by
    have h1 := stepF_fst t p p' s.1 i
    unfold walkS
    rw [h] at h1 ⊢
    cases h2 : stepF t p s'.1 i <;> cases h3 : stepF t p' s'.1 i <;> rw [h2, h3] at h1 <;> simp at h1
    · exact walkS_fst t p p' r _ _ h1
theorem walkedF_fst (t : Town) (p p' : Price) (u : Int) (l : List Int) : (walkedF t p u l).map Prod.fst = (walkedF t p' u l).map Prod.fst := by
  unfold walkedF
  split
  · rfl
  · exact walkS_fst t p p' l _ _ rfl
theorem walkedF_isSome (t : Town) (p p' : Price) (u : Int) (l : List Int) : (walkedF t p u l).isSome = (walkedF t p' u l).isSome := by
  have h := walkedF_fst t p p' u l
  cases h1 : walkedF t p u l <;> cases h2 : walkedF t p' u l <;> rw [h1, h2] at h <;> simp at h ⊢

theorem walkS_walk {t : Town} {p : Price} : ∀ (l : List Int) (u v : Int) (c c' : Cost), walkS t p (u, c) l = some (v, c') → ∃ d, Walk t false p u v d l ∧ c' = addC c d
  | [], u, v, c, c', h => by
    simp only [walkS, Option.some.injEq, Prod.mk.injEq] at h
    obtain ⟨rfl, rfl⟩ := h
    exact ⟨zeroC, .nil u, (addC_zero c).symm⟩
  | i :: r, u, v, c, c', h => by
    unfold walkS at h
    cases hs : stepF t p u i with
    | none => simp only [hs] at h; cases h
    | some q =>
      obtain ⟨m, cx⟩ := q
      simp only [hs] at h
      obtain ⟨x, hx, rfl, hl⟩ := stepF_some hs
      obtain ⟨d, hw, he⟩ := walkS_walk r m v _ _ h
      exact ⟨addC cx d, .cons hx hl hw, by rw [he, addC_assoc]⟩
theorem walkedF_walk {t : Town} {p : Price} {u v : Int} {l : List Int} {c : Cost} (h : walkedF t p u l = some (v, c)) : Walk t false p u v c l ∧ l.length ≤ 40 := by
  unfold walkedF at h
  split at h
  · cases h
  · obtain ⟨d, hw, he⟩ := walkS_walk l u v _ _ h
    rw [zero_addC] at he
    subst he
    exact ⟨hw, by omega⟩

/-- What is asked first of a walk: 0 if it is none. -/
def firstA (t : Town) (p : Price) (u : Int) (l : List Int) : Int := match walkedF t p u l with
  | some q => q.2.a
  | none => 0
def betE (t : Town) (u : Int) (l : List Int) : Int := if (walkedF t ⟨0, 0, 0⟩ u l).isSome then 0 else 32
theorem firstA_none {t : Town} {p : Price} {u : Int} {l : List Int} (h : (walkedF t p u l).isSome = false) : firstA t p u l = 0 := by
  unfold firstA
  cases h1 : walkedF t p u l
  · rfl
  · rw [h1] at h; cases h

theorem firstA_bound {t : Town} {p : Price} (hf : Fine t) (hp : Fair p) (u : Int) (l : List Int) : 0 ≤ firstA t p u l ∧ firstA t p u l ≤ 5000000 := by
  unfold firstA
  cases h : walkedF t p u l with
  | none => simp
  | some q =>
    obtain ⟨v, c⟩ := q
    obtain ⟨hw, hl⟩ := walkedF_walk h
    have := hw.bound hf hp
    simp only
    omega

theorem walked_all (A : Option Addr) (nn c : Nat) (A' : Option Addr) (m d : Nat) (F : FuncId) (C : Array Value) (p : Price) (t : Town) (place : Int) (A2 : Option Addr) (k2 c2 : Nat) (l : List Int) (w : World)
    (hm : m ≤ 20) (hk2 : k2 ≤ 1000) (ht : LinksAt w w.heap.size A' m t.links) (hp : PriceAt w p F C) (hfine : Fine t) (hfair : Fair p) (hr : IntsAt w w.heap.size A2 k2 l) :
    Calls Tryd.prog 89 #[.agg #[.slice A nn c, .slice A' m d, .bool false, .func (.func F) #[] C], .int .i64 place, .slice A2 k2 c2] w (WalkedOut w (walkedF t p place l)) := by
  rcases Nat.lt_or_ge 40 k2 with h | h
  · exact walked_long A nn c A' m d F C p t place A2 k2 c2 l w h hk2 hr
  · exact walked_any A nn c A' m d F C p t place A2 k2 c2 l w hm h ht hp hfine hfair hr

set_option maxRecDepth 100000 in
set_option maxHeartbeats 2000000 in
theorem between_any (A : Option Addr) (n c : Nat) (A' : Option Addr) (m d : Nat) (F1 : FuncId) (C1 : Array Value) (F2 : FuncId) (C2 : Array Value) (p1 p2 : Price) (t : Town) (place : Int) (A2 : Option Addr) (k2 c2 : Nat) (l : List Int) (w : World)
    (hm : m ≤ 20) (hk2 : k2 ≤ 1000) (ht : LinksAt w w.heap.size A' m t.links) (hp1 : PriceAt w p1 F1 C1) (hp2 : PriceAt w p2 F2 C2) (hfine : Fine t) (hf1 : Fair p1) (hf2 : Fair p2) (hr : IntsAt w w.heap.size A2 k2 l) :
    Calls Tryd.prog 50 #[.agg #[.slice A n c, .slice A' m d], .int .i64 place, .slice A2 k2 c2, .func (.func F1) #[] C1, .func (.func F2) #[] C2] w fun e w' => e = .returned (.tuple #[.agg #[.int .i64 (firstA t p1 place l), .int .i64 (firstA t p2 place l)], .int .i64 (betE t place l)]) ∧ Below w.heap.size w w' := by
  have HT := Lib.hid ht
  have HP1 := Lib.hid hp1
  have HP2 := Lib.hid hp2
  have HFI := Lib.hid hfine
  have HF1 := Lib.hid hf1
  have HF2 := Lib.hid hf2
  have HR := Lib.hid hr
  have HS1 := Lib.hid (walkedF_isSome t p1 ⟨0, 0, 0⟩ place l)
  have HS2 := Lib.hid (walkedF_isSome t p2 ⟨0, 0, 0⟩ place l)
  clear ht hp1 hp2 hfine hf1 hf2 hr
  go_enter Tryd.func50, Tryd.ntmps50
  go_wp2_with fail
  have X0 := (Blk.new w 25 #[.slice A n c, .slice A' m d]).alloc (.cells #[.int .i64 0, .int .i64 0] 27)
  have Y0 := Blk.new (w.alloc (.cells #[.slice A n c, .slice A' m d] 25)) 27 #[.int .i64 0, .int .i64 0]
  have B0 : Below w.heap.size w ((w.alloc (.cells #[.slice A n c, .slice A' m d] 25)).alloc (.cells #[.int .i64 0, .int .i64 0] 27)) := ((Below.refl _ _).alloc (Nat.le_refl _) _).alloc (by simp) _
  rw [World.size_alloc] at Y0
  generalize ((w.alloc (.cells #[.slice A n c, .slice A' m d] 25)).alloc (.cells #[.int .i64 0, .int .i64 0] 27)) = w0 at *
  refine (walked_all A n c A' m d F1 C1 p1 t place A2 k2 c2 l w0 hm hk2 ((HT.out.below B0).more B0.size) (HP1.out.below B0) HFI.out HF1.out ((HR.out.below B0).more B0.size)).mono ?_
  rintro e w1 ⟨x1, co1, rfl, hq1, hb1⟩
  have HQ1 := Lib.hid hq1
  have X1 := X0.below hb1 X0.lt
  have Y1 := Y0.below hb1 Y0.lt
  have B1 := B0.trans (hb1.mono B0.size)
  have x0 := X1.cell 0
  have xx := X1.cell 1
  have y0 := Y1.cell 0
  have y1 := Y1.cell 1
  have z0 := Y1.frozen 0
  have z1 := Y1.frozen 1
  have hl1 := X1.lt
  have hl2 := Y1.lt
  have HX1 := Lib.hid X1
  have HY1 := Lib.hid Y1
  clear hq1 hb1 X0 Y0 X1 Y1
  cases h1 : (walkedF t p1 place l).isSome with
  | false =>
    have H1 := Lib.hid h1
    clear h1
    go_wp2_with fail
    have R1 := ret2 HY1.out B1 (by omega) (.int .i64 0) (.int .i64 0)
    have R2 := R1.1.alloc (.cells #[.int .i64 x1, .int .i64 co1.a, .int .i64 co1.b, .int .i64 co1.c, .int .i64 co1.d, .slice none 0 0] 111)
    have r0 := R2.cell 0
    have r1 := R2.cell 1
    refine bodyPost_ret (v := .tuple #[.agg #[.int .i64 0, .int .i64 0], .int .i64 32]) (by simp [results, Tryd.results50, go_sem, r0, r1]) rfl ⟨?_, R1.2.alloc R1.2.size _⟩
    rw [firstA_none H1.out, firstA_none (HS2.out.trans (HS1.out.symm.trans H1.out))]
    unfold betE
    rw [← HS1.out, H1.out]
    rfl
  | true =>
    obtain ⟨q1, e1⟩ := Option.isSome_iff_exists.1 h1
    have hco1 : firstA t p1 place l = co1.a := by
      unfold firstA
      rw [e1, HQ1.out q1 e1]
    have H1 := Lib.hid h1
    have HC1 := Lib.hid hco1
    clear h1 e1 hco1
    go_wp2_with fail
    have BB := (Below.refl w1.heap.size w1).alloc (Nat.le_refl _) (.cells #[.int .i64 x1, .int .i64 co1.a, .int .i64 co1.b, .int .i64 co1.c, .int .i64 co1.d, .slice none 0 0] 111)
    have HX2 := Lib.hid (HX1.out.below BB HX1.out.lt)
    have HY2 := Lib.hid (HY1.out.below BB HY1.out.lt)
    have B2 := B1.trans (BB.mono B1.size)
    have Z2 := Blk.new w1 111 #[.int .i64 x1, .int .i64 co1.a, .int .i64 co1.b, .int .i64 co1.c, .int .i64 co1.d, .slice none 0 0]
    obtain ⟨Z, hZ⟩ : ∃ Z, w1.heap.size = Z := ⟨_, rfl⟩
    rw [hZ] at Z2 hl1 hl2 ⊢
    have HZ2 := Lib.hid Z2
    clear Z2 BB x0 xx y0 y1 z0 z1
    generalize (w1.alloc (.cells #[.int .i64 x1, .int .i64 co1.a, .int .i64 co1.b, .int .i64 co1.c, .int .i64 co1.d, .slice none 0 0] 111)) = w2 at *
    clear hZ
    refine (walked_all A n c A' m d F2 C2 p2 t place A2 k2 c2 l w2 hm hk2 ((HT.out.below B2).more B2.size) (HP2.out.below B2) HFI.out HF2.out ((HR.out.below B2).more B2.size)).mono ?_
    rintro e w3 ⟨x2, co2, rfl, hq2, hb3⟩
    have h2 : (walkedF t p2 place l).isSome = true := HS2.out.trans (HS1.out.symm.trans H1.out)
    obtain ⟨q2, e2⟩ := Option.isSome_iff_exists.1 h2
    have hco2 : firstA t p2 place l = co2.a := by
      unfold firstA
      rw [e2, hq2 q2 e2]
    have HC2 := Lib.hid hco2
    rw [h2]
    have HY3 := Lib.hid (HY2.out.below hb3 HY2.out.lt)
    have HZ3 := Lib.hid (HZ2.out.below hb3 HZ2.out.lt)
    have B3 := B2.trans (hb3.mono B2.size)
    clear hq2 e2 hco2 h2 hb3
    have y0 := HY3.out.cell 0
    have y1 := HY3.out.cell 1
    have z0 := HY3.out.frozen 0
    have z1 := HY3.out.frozen 1
    have v1 := HZ3.out.cell 1
    have hl3 := HY3.out.lt
    have hl4 := HZ3.out.lt
    go_wp2_with fail
    have R1 := ret2 HY3.out B3 (by omega) (.int .i64 co1.a) (.int .i64 co2.a)
    have R2 := R1.1.alloc (.cells #[.int .i64 x2, .int .i64 co2.a, .int .i64 co2.b, .int .i64 co2.c, .int .i64 co2.d, .slice none 0 0] 111)
    have r0 := R2.cell 0
    have r1 := R2.cell 1
    refine bodyPost_ret (v := .tuple #[.agg #[.int .i64 co1.a, .int .i64 co2.a], .int .i64 0]) (by simp [results, Tryd.results50, go_sem, r0, r1]) rfl ⟨?_, R1.2.alloc R1.2.size _⟩
    rw [HC1.out, HC2.out]
    unfold betE
    rw [← HS1.out, H1.out]
    rfl
end Go.Proofs.YtahkjagjcogeiaaDoor
/- Spans: climb.spanned, dry, slow. -/
namespace Go.Proofs.YtahkjagjcogeiaaDoor
open Go.RowKit
set_option linter.unusedVariables false

structure Span where
  lo : Int
  hi : Int
  deriving DecidableEq
def Span.vals (x : Span) : List Value := [.int .i64 x.lo, .int .i64 x.hi]
def SpansAt (w : World) (B : Nat) (A : Option Addr) (n : Nat) (l : List Span) : Prop := Reads w B 2 A n (l.flatMap Span.vals)
section
variable {w w' : World} {B B' n : Nat} {A : Option Addr} {l : List Span}
theorem SpansAt.len (h : SpansAt w B A n l) : l.length = n := by have := h.1; rw [flat_len' (size := 2) (fun _ => rfl)] at this; omega
theorem SpansAt.below (h : SpansAt w B A n l) (hb : Below B w w') : SpansAt w' B A n l := Reads.below h hb
theorem SpansAt.more (h : SpansAt w B A n l) (hB : B ≤ B') : SpansAt w B' A n l := Reads.more h hB
theorem SpansAt.cell (h : SpansAt w B A n l) {k : Nat} (hk : k < n) : ∃ b off x, A = some ⟨b, off, none⟩ ∧ b < B ∧ l[k]? = some x ∧
    w.cell? ⟨b, off + k * 2, none⟩ = some (.int .i64 x.lo) ∧ w.cell? ⟨b, off + k * 2 + 1, none⟩ = some (.int .i64 x.hi) := by
  have hl := h.len
  obtain ⟨b, off, e, hb, hc⟩ := Reads.plain h (by rw [flat_len' (size := 2) (fun _ => rfl)]; omega)
  have hx : l[k]? = some l[k] := List.getElem?_eq_getElem (by omega)
  refine ⟨b, off, _, e, hb, hx, ?_, ?_⟩
  · have := hc (k * 2 + 0) (.int .i64 l[k].lo) (by rw [flat_at' (size := 2) (fun _ => rfl) hx (by omega)]; rfl); exact this
  · have := hc (k * 2 + 1) (.int .i64 l[k].hi) (by rw [flat_at' (size := 2) (fun _ => rfl) hx (by omega)]; rfl); exact this
end

set_option maxRecDepth 100000 in
set_option maxHeartbeats 2000000 in
theorem indexFunc_span (F : FuncId) (C : Array Value) (p : Span → Bool) (A : Option Addr) (n c : Nat) (l : List Span) (w : World) (hr : SpansAt w w.heap.size A n l) (hn : n ≤ maxLen)
    (hE : ∀ args W, (callFunc F args).run Tryd.prog W = .ok (.enter F args) W)
    (hF : ∀ x, ∀ W, Below w.heap.size w W → Calls Tryd.prog F (#[.agg #[.int .i64 x.lo, .int .i64 x.hi]] ++ C) W fun e w' => e = .returned (.bool (p x)) ∧ Below W.heap.size W w') :
    Calls Tryd.prog 157 #[.slice A n c, .func (.func F) #[] C] w fun e w' => e = .returned (.int .i64 (idxL p l)) ∧ Below w.heap.size w w' := by
  unfold maxLen at hn
  have HF := Lib.hid hF
  clear hF
  go_enter Tryd.func157, Tryd.ntmps157
  go_wp2_with fail
  go_loopw [8, 5] (fun i j wr => ∃ k : Nat, k ≤ n ∧ i = .int .i64 k ∧ (∀ y ∈ l.take k, p y = false) ∧ Below w.heap.size w wr)
    (fun i _ _ => n - (intOf i).toNat)
  case atStart => exact ⟨0, by omega, rfl, by simp, Below.refl _ _⟩
  case round =>
    obtain ⟨k, hk, rfl, hno, hb⟩ := hrel
    have HN := Lib.hid hno
    clear hno
    by_cases hlt : k < n
    · obtain ⟨b, off, x, rfl, hbB, hx, hc0, hc1⟩ := (hr.below hb).cell hlt
      have HX := Lib.hid hx
      clear hx
      go_wp2_with fail
      refine (HF.out x _ hb).mono ?_
      rintro e w' ⟨rfl, hb'⟩
      cases hp : p x with
      | true =>
        have HP := Lib.hid hp
        clear hp
        go_wp2_with fail
        go_ret
        exact ⟨ret_int (idxL_some HX.out HP.out HN.out).symm, hb.trans (hb'.mono hb.size)⟩
      | false =>
        have HP := Lib.hid hp
        clear hp
        go_wp2_with fail
        go_roundw
        case rel => exact ⟨k + 1, by omega, by go_num, take_snoc_all HX.out HP.out HN.out, hb.trans (hb'.mono hb.size)⟩
        case measure => simp [intOf]; omega
    · go_wp2_with fail
      go_ret
      exact ⟨ret_int (idxL_none (by
        have := HN.out
        rwa [List.take_of_length_le (by have := hr.len; omega)] at this)).symm, hb⟩

theorem idxL_ge {α : Type} {p : α → Bool} {l : List α} : decide (0 ≤ idxL p l) = l.any p := by
  unfold idxL
  cases h : l.any p <;> simp

set_option maxHeartbeats 1000000 in
theorem containsFunc_span (F : FuncId) (C : Array Value) (p : Span → Bool) (A : Option Addr) (n c : Nat) (l : List Span) (w : World) (hr : SpansAt w w.heap.size A n l) (hn : n ≤ maxLen)
    (hE : ∀ args W, (callFunc F args).run Tryd.prog W = .ok (.enter F args) W)
    (hF : ∀ x, ∀ W, Below w.heap.size w W → Calls Tryd.prog F (#[.agg #[.int .i64 x.lo, .int .i64 x.hi]] ++ C) W fun e w' => e = .returned (.bool (p x)) ∧ Below W.heap.size W w') :
    Calls Tryd.prog 138 #[.slice A n c, .func (.func F) #[] C] w fun e w' => e = .returned (.bool (l.any p)) ∧ Below w.heap.size w w' := by
  have H := Lib.hid (indexFunc_span F C p A n c l w hr hn hE hF)
  clear hE hF
  go_enter Tryd.func138, Tryd.ntmps138
  go_wp2_with fail
  refine H.out.mono ?_
  rintro e w' ⟨rfl, hb⟩
  go_wp2_with fail
  go_ret
  exact ⟨ret_bool idxL_ge, hb⟩

/-- A span within a limit. -/
def spanB (most : Int) (x : Span) : Bool := inB 0 most [x.lo, x.hi] && decide (x.lo ≤ x.hi)

theorem two_ints {W : World} {g : Nat} {t : TypeId} {x y : Int} (h : Blk W g t #[.int .i64 x, .int .i64 y]) : IntsAt W W.heap.size (some ⟨g, 0, none⟩) 2 [x, y] :=
  ⟨rfl, fun _ => ⟨_, rfl, h.lt, fun j u hu => by
    match j, hu with
    | 0, hu => simp at hu; rw [← hu]; simpa [Addr.add] using h.cell 0
    | 1, hu => simp at hu; rw [← hu]; simpa [Addr.add] using h.cell 1⟩⟩

set_option maxRecDepth 100000 in
set_option maxHeartbeats 2000000 in
theorem spanned1_any (x : Span) (most : Int) (g : Nat) (w : World) (hg : g < w.heap.size) (hc : w.cell? ⟨g, 0, none⟩ = some (.int .i64 most)) :
    Calls Tryd.prog 139 (#[.agg #[.int .i64 x.lo, .int .i64 x.hi]] ++ #[.pointer (some ⟨g, 0, none⟩)]) w fun e w' => e = .returned (.bool (!spanB most x)) ∧ Below w.heap.size w w' := by
  go_enter Tryd.func139, Tryd.ntmps139
  go_wp2_with fail
  have X0 := (Blk.new w 27 #[.int .i64 x.lo, .int .i64 x.hi]).alloc (.cells #[.int .i64 x.lo, .int .i64 x.hi] 3)
  have Y0 := Blk.new (w.alloc (.cells #[.int .i64 x.lo, .int .i64 x.hi] 27)) 3 #[.int .i64 x.lo, .int .i64 x.hi]
  have B0 : Below w.heap.size w ((w.alloc (.cells #[.int .i64 x.lo, .int .i64 x.hi] 27)).alloc (.cells #[.int .i64 x.lo, .int .i64 x.hi] 3)) := ((Below.refl _ _).alloc (Nat.le_refl _) _).alloc (by simp) _
  rw [World.size_alloc] at Y0
  generalize ((w.alloc (.cells #[.int .i64 x.lo, .int .i64 x.hi] 27)).alloc (.cells #[.int .i64 x.lo, .int .i64 x.hi] 3)) = w0 at *
  refine (in_any 0 most _ 2 2 [x.lo, x.hi] w0 (two_ints Y0) (by decide)).mono ?_
  rintro e w1 ⟨rfl, hb1⟩
  have X1 := X0.below hb1 X0.lt
  have B1 := B0.trans (hb1.mono B0.size)
  have x0 := X1.cell 0
  have x1 := X1.cell 1
  clear X0 Y0 hb1 X1
  cases hi : inB 0 most [x.lo, x.hi] with
  | false =>
    have HI := Lib.hid hi
    clear hi
    go_wp2_with fail
    go_ret
    exact ⟨ret_bool (by unfold spanB; rw [HI.out]; rfl), B1⟩
  | true =>
    have HI := Lib.hid hi
    clear hi
    go_wp2_with fail
    go_ret
    refine ⟨ret_bool ?_, B1⟩
    unfold spanB
    rw [HI.out]
    by_cases h : x.lo ≤ x.hi
    · simp [h]
    · simp [h]; omega

def spansB (most : Int) (l : List Span) : Bool := !l.any fun x => !spanB most x
theorem enters_sp1 (args : Array Value) (W : World) : (callFunc 139 args).run Tryd.prog W = .ok (.enter 139 args) W := by
  simp [go_sem]

set_option maxRecDepth 100000 in
set_option maxHeartbeats 2000000 in
theorem spanned_any (most : Int) (A : Option Addr) (n c : Nat) (l : List Span) (w : World) (hr : SpansAt w w.heap.size A n l) (hn : n ≤ maxLen) :
    Calls Tryd.prog 107 #[.int .i64 most, .slice A n c] w fun e w' => e = .returned (.bool (spansB most l)) ∧ Below w.heap.size w w' := by
  have hmf : ∀ (fn : Fn) (first cap : Array Value) (w : World), (Instr.makeFunc fn first cap).run Tryd.prog w = .ok (.func fn first cap) w := fun _ _ _ _ => rfl
  go_enter Tryd.func107, Tryd.ntmps107
  go_wp2_with fail
  have hb : Below w.heap.size w (w.alloc (.cells #[.int .i64 most] 3)) := (Below.refl _ _).alloc (Nat.le_refl _) _
  refine (containsFunc_span 139 _ (fun x => !spanB most x) A n c l _ ((hr.below hb).more (by simp)) hn enters_sp1 ?_).mono ?_
  · intro x W hW
    exact spanned1_any x most _ W (Nat.lt_of_lt_of_le (by simp) hW.size) ((hW.cell (p := ⟨w.heap.size, 0, none⟩) (by simp)).trans (by simp [go_sem]))
  · rintro e w' ⟨rfl, hb'⟩
    go_wp2_with fail
    go_ret
    exact ⟨rfl, hb.trans (hb'.mono (by simp))⟩

structure Skin where
  drops : Int
  pace : Span
  step : Span
structure Gait where
  pace : Span
  step : Span
def skinB (s : Skin) : Bool := inB 0 100000 [s.drops] && spansB 50 [s.pace, s.step]
def gaitB (g : Gait) : Bool := spansB 20 [g.pace, g.step]
def slowE (g : Gait) : Int := if gaitB g then 0 else 35
def dryE (s : Skin) : Int := if skinB s then 0 else 36
theorem two_spans {W : World} {g : Nat} {t : TypeId} {x y : Span} (h : Blk W g t #[.int .i64 x.lo, .int .i64 x.hi, .int .i64 y.lo, .int .i64 y.hi]) : SpansAt W W.heap.size (some ⟨g, 0, none⟩) 2 [x, y] :=
  ⟨rfl, fun _ => ⟨_, rfl, h.lt, fun j u hu => by
    match j, hu with
    | 0, hu => simp [Span.vals] at hu; rw [← hu]; simpa [Addr.add] using h.cell 0
    | 1, hu => simp [Span.vals] at hu; rw [← hu]; simpa [Addr.add] using h.cell 1
    | 2, hu => simp [Span.vals] at hu; rw [← hu]; simpa [Addr.add] using h.cell 2
    | 3, hu => simp [Span.vals] at hu; rw [← hu]; simpa [Addr.add] using h.cell 3⟩⟩

set_option maxRecDepth 100000 in
set_option maxHeartbeats 2000000 in
theorem slow_any (s : Gait) (w : World) :
    Calls Tryd.prog 83 #[.agg #[.int .i64 s.pace.lo, .int .i64 s.pace.hi, .int .i64 s.step.lo, .int .i64 s.step.hi]] w fun e w' => e = .returned (.int .i64 (slowE s)) ∧ Below w.heap.size w w' := by
  go_enter Tryd.func83, Tryd.ntmps83
  go_wp2_with fail
  have Y0 := Blk.new (w.alloc (.cells #[.int .i64 s.pace.lo, .int .i64 s.pace.hi, .int .i64 s.step.lo, .int .i64 s.step.hi] 66)) 27 #[.int .i64 s.pace.lo, .int .i64 s.pace.hi, .int .i64 s.step.lo, .int .i64 s.step.hi]
  have B0 : Below w.heap.size w ((w.alloc (.cells #[.int .i64 s.pace.lo, .int .i64 s.pace.hi, .int .i64 s.step.lo, .int .i64 s.step.hi] 66)).alloc (.cells #[.int .i64 s.pace.lo, .int .i64 s.pace.hi, .int .i64 s.step.lo, .int .i64 s.step.hi] 27)) := ((Below.refl _ _).alloc (Nat.le_refl _) _).alloc (by simp) _
  rw [World.size_alloc] at Y0
  refine (spanned_any 20 _ 2 2 [s.pace, s.step] _ (two_spans Y0) (by decide)).mono ?_
  rintro e w1 ⟨rfl, hb1⟩
  have B1 := B0.trans (hb1.mono B0.size)
  clear Y0 hb1 B0
  cases hi : spansB 20 [s.pace, s.step] with
  | false =>
    have HI := Lib.hid hi
    clear hi
    go_wp2_with fail
    go_ret
    exact ⟨ret_int (by unfold slowE gaitB; rw [HI.out]; rfl), B1⟩
  | true =>
    have HI := Lib.hid hi
    clear hi
    go_wp2_with fail
    go_ret
    exact ⟨ret_int (by unfold slowE gaitB; rw [HI.out]; rfl), B1⟩
set_option maxRecDepth 100000 in
set_option maxHeartbeats 2000000 in
theorem dry_any (s : Skin) (w : World) :
    Calls Tryd.prog 49 #[.agg #[.int .i64 s.drops, .int .i64 s.pace.lo, .int .i64 s.pace.hi, .int .i64 s.step.lo, .int .i64 s.step.hi]] w fun e w' => e = .returned (.int .i64 (dryE s)) ∧ Below w.heap.size w w' := by
  go_enter Tryd.func49, Tryd.ntmps49
  go_wp2_with fail
  have X0 := (Blk.new w 29 #[.int .i64 s.drops, .int .i64 s.pace.lo, .int .i64 s.pace.hi, .int .i64 s.step.lo, .int .i64 s.step.hi]).alloc (.cells #[.int .i64 s.drops] 3)
  have B0 : Below w.heap.size w ((w.alloc (.cells #[.int .i64 s.drops, .int .i64 s.pace.lo, .int .i64 s.pace.hi, .int .i64 s.step.lo, .int .i64 s.step.hi] 29)).alloc (.cells #[.int .i64 s.drops] 3)) := ((Below.refl _ _).alloc (Nat.le_refl _) _).alloc (by simp) _
  refine (in1_any 0 100000 s.drops _ _ (by simp) (by simp [go_sem])).mono ?_
  rintro e w1 ⟨rfl, hb1⟩
  have X1 := X0.below hb1 X0.lt
  have B1 := B0.trans (hb1.mono B0.size)
  have x1 := X1.cell 1
  have x2 := X1.cell 2
  have x3 := X1.cell 3
  have x4 := X1.cell 4
  clear X0 hb1 B0 X1
  cases hi : inB 0 100000 [s.drops] with
  | false =>
    have HI := Lib.hid hi
    clear hi
    go_wp2_with fail
    go_ret
    exact ⟨ret_int (by unfold dryE skinB; rw [HI.out]; rfl), B1⟩
  | true =>
    have HI := Lib.hid hi
    clear hi
    go_wp2_with fail
    have Y1 := Blk.new w1 27 #[.int .i64 s.pace.lo, .int .i64 s.pace.hi, .int .i64 s.step.lo, .int .i64 s.step.hi]
    refine (spanned_any 50 _ 2 2 [s.pace, s.step] _ (two_spans Y1) (by decide)).mono ?_
    rintro e w2 ⟨rfl, hb2⟩
    have B2 := (B1.alloc B1.size (.cells #[.int .i64 s.pace.lo, .int .i64 s.pace.hi, .int .i64 s.step.lo, .int .i64 s.step.hi] 27)).trans (hb2.mono (by simp; have := B1.size; omega))
    clear Y1 hb2 x1 x2 x3 x4
    cases hj : spansB 50 [s.pace, s.step] with
    | false =>
      have HJ := Lib.hid hj
      clear hj
      go_wp2_with fail
      go_ret
      exact ⟨ret_int (by unfold dryE skinB; rw [HI.out, HJ.out]; rfl), B2⟩
    | true =>
      have HJ := Lib.hid hj
      clear hj
      go_wp2_with fail
      go_ret
      exact ⟨ret_int (by unfold dryE skinB; rw [HI.out, HJ.out]; rfl), B2⟩
end Go.Proofs.YtahkjagjcogeiaaDoor
/- climb.asked; cmp.Or at errors. -/
namespace Go.Proofs.YtahkjagjcogeiaaDoor
open Go.RowKit
set_option linter.unusedVariables false

/-- The error of a town, and of places. -/
def askE (t : Town) (l : List Int) : Int := if townB t then (if hasB t l then 0 else 31) else 30

set_option maxRecDepth 100000 in
set_option maxHeartbeats 2000000 in
theorem asked_any (A : Option Addr) (n c : Nat) (A' : Option Addr) (m d : Nat) (t : Town) (A2 : Option Addr) (k e : Nat) (l : List Int) (w : World) (hn : n ≤ maxLen) (hm : m ≤ maxLen) (hk : k ≤ maxLen) (ht : TownAt w w.heap.size A n A' m t) (hr : IntsAt w w.heap.size A2 k l) (hL : Laid w) :
    Calls Tryd.prog 48 #[.agg #[.slice A n c, .slice A' m d], .slice A2 k e] w fun e w' => e = .returned (.int .i64 (askE t l)) ∧ Below w.heap.size w w' := by
  have HT := Lib.hid ht
  have HR := Lib.hid hr
  have HL := Lib.hid hL
  clear ht hr hL
  go_enter Tryd.func48, Tryd.ntmps48
  go_wp2_with fail
  have X0 := Blk.new w 25 #[.slice A n c, .slice A' m d]
  have B0 : Below w.heap.size w (w.alloc (.cells #[.slice A n c, .slice A' m d] 25)) := (Below.refl _ _).alloc (Nat.le_refl _) _
  generalize (w.alloc (.cells #[.slice A n c, .slice A' m d] 25)) = w0 at *
  have hl0 := HL.out.2.2.2
  refine (check_any A n c A' m d t w0 hn hm ((HT.out.below B0).more B0.size) (HL.out.below B0 hl0)).mono ?_
  rintro e w1 ⟨rfl, hb1⟩
  have X1 := X0.below hb1 X0.lt
  have B1 := B0.trans (hb1.mono B0.size)
  have x0 := X1.cell 0
  have x1 := X1.cell 1
  clear X0 B0 hb1 X1
  unfold chk
  cases ht : townB t with
  | false =>
    have HTB := Lib.hid ht
    clear ht
    go_wp2_with fail
    go_ret
    exact ⟨ret_int (by unfold askE; rw [HTB.out]; rfl), B1⟩
  | true =>
    have HTB := Lib.hid ht
    clear ht
    go_wp2_with fail
    refine (has_any A n c A' m d t A2 k e l w1 hn hk ((HT.out.below B1).more B1.size) ((HR.out.below B1).more B1.size)).mono ?_
    rintro e w2 ⟨rfl, hb2⟩
    have B2 := B1.trans (hb2.mono B1.size)
    cases hh : hasB t l with
    | false =>
      have HH := Lib.hid hh
      clear hh
      go_wp2_with fail
      go_ret
      exact ⟨ret_int (by unfold askE; rw [HTB.out, HH.out]; rfl), B2⟩
    | true =>
      have HH := Lib.hid hh
      clear hh
      go_wp2_with fail
      go_ret
      exact ⟨ret_int (by unfold askE; rw [HTB.out, HH.out]; rfl), B2⟩

/-- The first that is no zero. -/
def or2 (a b : Int) : Int := if a = 0 then b else a
set_option maxRecDepth 100000 in
set_option maxHeartbeats 2000000 in
theorem or_any (a b : Int) (g : Nat) (w : World) (hg : Blk w g 32 #[.int .i64 a, .int .i64 b]) :
    Calls Tryd.prog 47 #[.slice (some ⟨g, 0, none⟩) 2 2] w fun e w' => e = .returned (.int .i64 (or2 a b)) ∧ w' = w := by
  have c0 := hg.cell 0
  have c1 := hg.cell 1
  have hlt := hg.lt
  clear hg
  go_enter Tryd.func47, Tryd.ntmps47
  go_wp2_with fail
  go_loop [8, 5] (fun i x => ∃ k : Nat, k ≤ 2 ∧ i = .int .i64 k ∧ Hid ((0 < k → a = 0) ∧ (1 < k → b = 0))) (fun i _ => 2 - (intOf i).toNat)
  case atStart => exact ⟨0, by omega, rfl, Lib.hid ⟨fun h => absurd h (by omega), fun h => absurd h (by omega)⟩⟩
  case round =>
    obtain ⟨k, hk, rfl, HP⟩ := hrel
    have hk' : k = 0 ∨ k = 1 ∨ k = 2 := by omega
    rcases hk' with rfl | rfl | rfl
    · by_cases ha : a = 0
      · have ha' : (a == 0) = true := by simpa using ha
        have ha2 : (a != 0) = false := by simpa using ha
        have HA := Lib.hid ha
        clear ha
        go_wp2_with fail
        go_round
        case rel => exact ⟨1, by omega, by go_num, Lib.hid ⟨fun _ => HA.out, fun h => absurd h (by omega)⟩⟩
        case measure => simp [intOf]
      · have ha' : (a == 0) = false := by simpa using ha
        have ha2 : (a != 0) = true := by simpa using ha
        have HA := Lib.hid ha
        clear ha
        go_wp2_with fail
        go_ret
        exact ⟨ret_int (by unfold or2; rw [if_neg HA.out]), rfl⟩
    · by_cases hb : b = 0
      · have hb' : (b == 0) = true := by simpa using hb
        have hb2 : (b != 0) = false := by simpa using hb
        have HB := Lib.hid hb
        clear hb
        go_wp2_with fail
        go_round
        case rel => exact ⟨2, by omega, by go_num, Lib.hid ⟨fun _ => HP.out.1 (by omega), fun _ => HB.out⟩⟩
        case measure => simp [intOf]
      · have hb' : (b == 0) = false := by simpa using hb
        have hb2 : (b != 0) = true := by simpa using hb
        have HB := Lib.hid hb
        clear hb
        go_wp2_with fail
        go_ret
        exact ⟨ret_int (by unfold or2; rw [if_pos (HP.out.1 (by omega))]), rfl⟩
    · go_wp2_with fail
      go_ret
      exact ⟨ret_int (by unfold or2; rw [if_pos (HP.out.1 (by omega)), HP.out.2 (by omega)]), rfl⟩
end Go.Proofs.YtahkjagjcogeiaaDoor
/- What a valid town, skin or gait is good for. -/
namespace Go.Proofs.YtahkjagjcogeiaaDoor
set_option linter.unusedVariables false

theorem inB1_spec {lo hi x : Int} (h : inB lo hi [x] = true) : lo ≤ x ∧ x ≤ hi := by
  unfold inB at h
  simp at h
  omega
theorem inB2_spec {lo hi x y : Int} (h : inB lo hi [x, y] = true) : (lo ≤ x ∧ x ≤ hi) ∧ lo ≤ y ∧ y ≤ hi := by
  unfold inB at h
  simp at h
  omega
theorem upB_spec : ∀ {l : List Int} {last : Int}, upB last l = true → (∀ x ∈ l, last < x ∧ x ≤ 9999) ∧ l.Pairwise (· < ·)
  | [], _, _ => ⟨by simp, .nil⟩
  | x :: l, last, h => by
    simp only [upB, Bool.and_eq_true] at h
    have h1 := inB1_spec h.1
    obtain ⟨h2, h3⟩ := upB_spec h.2
    refine ⟨fun y hy => ?_, .cons (fun y hy => (h2 y hy).1) h3⟩
    rcases List.mem_cons.1 hy with rfl | hy
    · omega
    · have := h2 y hy; omega
theorem linksB_spec {t : Town} : ∀ {l : List Link} {last : Int}, linksB t last l = true → (∀ x ∈ l, last < x.id ∧ x.id ≤ 9999 ∧ (0 ≤ x.steps ∧ x.steps ≤ 500) ∧ (1 ≤ x.paces ∧ x.paces ≤ 2000) ∧ x.fr ≠ x.to ∧ x.fr ∈ t.places ∧ x.to ∈ t.places) ∧ l.Pairwise fun x y => x.id < y.id
  | [], _, _ => ⟨by simp, .nil⟩
  | x :: l, last, h => by
    simp only [linksB, linkB, Bool.and_eq_true] at h
    obtain ⟨⟨⟨⟨⟨h1, h2⟩, h3⟩, h4⟩, h5⟩, h6⟩ := h
    have a1 := inB1_spec h1
    have a2 := inB1_spec h2
    have a3 := inB1_spec h3
    have a4 : x.fr ≠ x.to := by simpa using h4
    have a5 : x.fr ∈ t.places ∧ x.to ∈ t.places := by
      unfold hasB at h5
      simp [memI] at h5
      exact h5
    obtain ⟨h7, h8⟩ := linksB_spec h6
    refine ⟨fun y hy => ?_, .cons (fun y hy => (h7 y hy).1) h8⟩
    rcases List.mem_cons.1 hy with rfl | hy
    · exact ⟨by omega, by omega, a2, a3, a4, a5.1, a5.2⟩
    · obtain ⟨b1, b2⟩ := h7 y hy
      exact ⟨by omega, b2⟩

/-- A valid town. -/
structure GoodT (t : Town) : Prop where
  fine : Fine t
  nodup : t.places.Nodup
  up : t.places.Pairwise (· < ·)
  ids : ∀ v ∈ t.places, 1 ≤ v ∧ v ≤ 9999
  some_ : 1 ≤ t.places.length
  links : t.links.length ≤ 20
  lids : ∀ x ∈ t.links, 1 ≤ x.id ∧ x.id ≤ 9999
  ends : ∀ x ∈ t.links, x.fr ≠ x.to
theorem goodT {t : Town} (h : townB t = true) : GoodT t := by
  unfold townB sizeB at h
  simp only [Bool.and_eq_true, decide_eq_true_eq] at h
  obtain ⟨⟨⟨h1, h2⟩, h3⟩, h4⟩ := h
  have a1 := inB1_spec h1
  obtain ⟨b1, b2⟩ := upB_spec h3
  obtain ⟨c1, c2⟩ := linksB_spec h4
  refine ⟨⟨fun x hx => (c1 x hx).2.2.1, fun x hx => (c1 x hx).2.2.2.1, fun x hx => (c1 x hx).2.2.2.2.2, c2, by omega⟩, b2.imp fun h => by omega, b2, fun v hv => by have := b1 v hv; omega, by omega, h2, fun x hx => by have := c1 x hx; omega, fun x hx => (c1 x hx).2.2.2.2.1⟩

theorem spanB_spec {most : Int} {x : Span} (h : spanB most x = true) : (0 ≤ x.lo ∧ x.lo ≤ most) ∧ (0 ≤ x.hi ∧ x.hi ≤ most) ∧ x.lo ≤ x.hi := by
  unfold spanB at h
  simp only [Bool.and_eq_true, decide_eq_true_eq] at h
  have := inB2_spec h.1
  exact ⟨this.1, this.2, h.2⟩
theorem spansB_two {most : Int} {x y : Span} (h : spansB most [x, y] = true) : spanB most x = true ∧ spanB most y = true := by
  unfold spansB at h
  simpa [Bool.not_or] using h
structure GoodS (s : Skin) : Prop where
  drops : 0 ≤ s.drops ∧ s.drops ≤ 100000
  pace : (0 ≤ s.pace.lo ∧ s.pace.lo ≤ 50) ∧ (0 ≤ s.pace.hi ∧ s.pace.hi ≤ 50) ∧ s.pace.lo ≤ s.pace.hi
  step : (0 ≤ s.step.lo ∧ s.step.lo ≤ 50) ∧ (0 ≤ s.step.hi ∧ s.step.hi ≤ 50) ∧ s.step.lo ≤ s.step.hi
theorem goodS {s : Skin} (h : skinB s = true) : GoodS s := by
  unfold skinB at h
  simp only [Bool.and_eq_true] at h
  obtain ⟨h1, h2⟩ := spansB_two h.2
  exact ⟨inB1_spec h.1, spanB_spec h1, spanB_spec h2⟩
structure GoodG (s : Gait) : Prop where
  pace : (0 ≤ s.pace.lo ∧ s.pace.lo ≤ 20) ∧ (0 ≤ s.pace.hi ∧ s.pace.hi ≤ 20) ∧ s.pace.lo ≤ s.pace.hi
  step : (0 ≤ s.step.lo ∧ s.step.lo ≤ 20) ∧ (0 ≤ s.step.hi ∧ s.step.hi ≤ 20) ∧ s.step.lo ≤ s.step.hi
theorem goodG {s : Gait} (h : gaitB s = true) : GoodG s := by
  obtain ⟨h1, h2⟩ := spansB_two h
  exact ⟨spanB_spec h1, spanB_spec h2⟩

/-- The prices. -/
def lossP (pace step : Int) : Price := ⟨pace, 0, step⟩
def timeP (pace step : Int) : Price := ⟨pace, step, 0⟩
def freeP : Price := ⟨0, 0, 0⟩
theorem lossP_fair {a b : Int} (h1 : 0 ≤ a ∧ a ≤ 50) (h2 : 0 ≤ b ∧ b ≤ 50) : Fair (lossP a b) := ⟨h1, by simp [lossP], h2.1, by simp [lossP]; omega⟩
theorem lossP_cheap {a b : Int} (h1 : 0 ≤ a ∧ a ≤ 50) (h2 : 0 ≤ b ∧ b ≤ 50) : Cheap (lossP a b) := ⟨⟨h1.1, by simp [lossP]; omega⟩, by simp [lossP], ⟨h2.1, by simp [lossP]; omega⟩⟩
theorem timeP_fair {a b : Int} (h1 : 0 ≤ a ∧ a ≤ 50) (h2 : 0 ≤ b ∧ b ≤ 50) : Fair (timeP a b) := ⟨h1, h2.1, by simp [timeP], by simp [timeP]; omega⟩
theorem timeP_cheap {a b : Int} (h1 : 0 ≤ a ∧ a ≤ 50) (h2 : 0 ≤ b ∧ b ≤ 50) : Cheap (timeP a b) := ⟨⟨h1.1, by simp [timeP]; omega⟩, ⟨h2.1, by simp [timeP]; omega⟩, by simp [timeP]⟩
theorem freeP_fair : Fair freeP := ⟨by simp [freeP], by simp [freeP], by simp [freeP], by simp [freeP]⟩
theorem freeP_cheap : Cheap freeP := ⟨by simp [freeP], by simp [freeP], by simp [freeP]⟩

theorem askE_zero {t : Town} {l : List Int} (h : askE t l = 0) : townB t = true ∧ hasB t l = true := by
  unfold askE at h
  cases h1 : townB t <;> cases h2 : hasB t l <;> rw [h1, h2] at h <;> simp at h
  exact ⟨rfl, rfl⟩
theorem askE_vals (t : Town) (l : List Int) : askE t l = 0 ∨ askE t l = 30 ∨ askE t l = 31 := by
  unfold askE
  split
  · split <;> simp
  · simp
theorem hasB_mem {t : Town} {l : List Int} (h : hasB t l = true) : ∀ v ∈ l, v ∈ t.places := by
  unfold hasB at h
  simp [memI] at h
  exact h
theorem or2_zero {a b : Int} (h : or2 a b = 0) : a = 0 ∧ b = 0 := by
  unfold or2 at h
  split at h
  · exact ⟨by assumption, h⟩
  · exact absurd h (by assumption)
theorem dryE_zero {s : Skin} (h : dryE s = 0) : skinB s = true := by
  unfold dryE at h
  cases h1 : skinB s <;> rw [h1] at h <;> simp at h ⊢
theorem slowE_zero {g : Gait} (h : slowE g = 0) : gaitB g = true := by
  unfold slowE at h
  cases h1 : gaitB g <;> rw [h1] at h <;> simp at h ⊢
theorem best_len {t : Town} {dk : Bool} {p : Price} {u v : Int} {c : Cost} {l : List Int} (hf : Fine t) (hp : Fair p) (h : best t dk p u v = some (c, l)) : l.length ≤ 9 := by
  have hF := best_first hf hp dk u v
  rw [h] at hF
  obtain ⟨c', l', h1, h2, h3⟩ := hF.1.short hf hp
  obtain ⟨rfl, rfl⟩ := key_inj (cmpL_antisymm h2 (hF.2 _ _ h1))
  have := hf.size
  rcases h3 with rfl | h3
  · simp
  · omega
theorem best_cost {t : Town} {dk : Bool} {p : Price} {u v : Int} {c : Cost} {l : List Int} (hf : Fine t) (hp : Fair p) (h : best t dk p u v = some (c, l)) : (0 ≤ c.a ∧ c.a ≤ 2000000) ∧ (0 ≤ c.b ∧ c.b ≤ 4500) ∧ (0 ≤ c.c ∧ c.c ≤ 18000) := by
  have hl := best_len hf hp h
  have hF := best_first hf hp dk u v
  rw [h] at hF
  have := hF.1.bound hf hp
  omega
end Go.Proofs.YtahkjagjcogeiaaDoor
/- climb.End: what a skin holds at the end of a walk. -/
namespace Go.Proofs.YtahkjagjcogeiaaDoor
open Go.RowKit Go.Shelf
set_option linter.unusedVariables false

def endE (t : Town) (s : Skin) (place : Int) (l : List Int) : Int := if or2 (askE t [place]) (dryE s) = 0 then betE t place l else or2 (askE t [place]) (dryE s)
def endV (t : Town) (s : Skin) (place : Int) (l : List Int) : Span := if endE t s place l = 0 then ⟨max 0 (s.drops - firstA t (lossP s.pace.hi s.step.hi) place l), max 0 (s.drops - firstA t (lossP s.pace.lo s.step.lo) place l)⟩ else ⟨0, 0⟩
def EndOut (w : World) (v : Span) (e : Int) (x : Ending) (w' : World) : Prop := x = .returned (.tuple #[.agg #[.int .i64 v.lo, .int .i64 v.hi], .int .i64 e]) ∧ Below w.heap.size w w'

set_option maxRecDepth 100000 in
set_option maxHeartbeats 16000000 in
theorem end_in (A : Option Addr) (n c : Nat) (A' : Option Addr) (m d : Nat) (t : Town) (s : Skin) (place : Int) (A2 : Option Addr) (k2 c2 : Nat) (l : List Int) (w : World)
    (hn : n ≤ 1000) (hm : m ≤ 1000) (hk2 : k2 ≤ 1000) (ht : TownAt w w.heap.size A n A' m t) (hr : IntsAt w w.heap.size A2 k2 l) (hL : Laid w) :
    CallsIn Fence.wide 9 Tryd.prog 11 #[.agg #[.slice A n c, .slice A' m d], .agg #[.int .i64 s.drops, .int .i64 s.pace.lo, .int .i64 s.pace.hi, .int .i64 s.step.lo, .int .i64 s.step.hi], .int .i64 place, .slice A2 k2 c2] w (EndOut w (endV t s place l) (endE t s place l)) := by
  have HT := Lib.hid ht
  have HR := Lib.hid hr
  have HL := Lib.hid hL
  have hl0 := hL.2.2.2
  clear ht hr hL
  refine callsIn_of_wp Tryd.func11 rfl trivial ?_ rfl
  simp only [Tryd.ntmps11, List.size_toArray, List.length_cons, List.length_nil, Nat.reduceAdd, Nat.reduceSub, Array.replicate_succ, Array.replicate_zero, List.push_toArray, List.append_toArray, List.nil_append, List.cons_append]
  gi_wp2
  have L0 := Lay.three w 25 #[.slice A n c, .slice A' m d] 29 #[.int .i64 s.drops, .int .i64 s.pace.lo, .int .i64 s.pace.hi, .int .i64 s.step.lo, .int .i64 s.step.hi] 27 #[.int .i64 0, .int .i64 0]
  have HLay := Lib.hid L0
  clear L0
  generalize (((w.alloc (.cells #[.slice A n c, .slice A' m d] 25)).alloc (.cells #[.int .i64 s.drops, .int .i64 s.pace.lo, .int .i64 s.pace.hi, .int .i64 s.step.lo, .int .i64 s.step.hi] 29)).alloc (.cells #[.int .i64 0, .int .i64 0] 27)) = w0 at *
  refine wpIn_flow_old [([true, true, false, false, true], 2), ([], 3), ([], 5), ([], 6), ([], 7)] [false, false, false, false, false, false, false, false, true] [] (by kernel_rfl) (by kernel_rfl) (by kernel_rfl) (below_drewN (Below.refl _ _) 1) ?_
  refine wpFlow_cons (A := ?AF1) rfl ?hq1 ?_
  case hq1 =>
    rintro σ hσ of hof hcl
    have HOF := Lib.hid hof
    clear hof hcl
    have t0 : ∀ z, (of z).cell? ⟨w.heap.size, 0, none⟩ = some (.slice A n c) := fun z => ((HLay.out.below (HOF.out z)).blk 0 rfl).cell 0
    have t1 : ∀ z, (of z).cell? ⟨w.heap.size, 1, none⟩ = some (.slice A' m d) := fun z => ((HLay.out.below (HOF.out z)).blk 0 rfl).cell 1
    have s0 : ∀ z, (of z).cell? ⟨w.heap.size + 1, 0, none⟩ = some (.int .i64 s.drops) := fun z => ((HLay.out.below (HOF.out z)).blk 1 rfl).cell 0
    have s1 : ∀ z, (of z).cell? ⟨w.heap.size + 1, 1, none⟩ = some (.int .i64 s.pace.lo) := fun z => ((HLay.out.below (HOF.out z)).blk 1 rfl).cell 1
    have s2 : ∀ z, (of z).cell? ⟨w.heap.size + 1, 2, none⟩ = some (.int .i64 s.pace.hi) := fun z => ((HLay.out.below (HOF.out z)).blk 1 rfl).cell 2
    have s3 : ∀ z, (of z).cell? ⟨w.heap.size + 1, 3, none⟩ = some (.int .i64 s.step.lo) := fun z => ((HLay.out.below (HOF.out z)).blk 1 rfl).cell 3
    have s4 : ∀ z, (of z).cell? ⟨w.heap.size + 1, 4, none⟩ = some (.int .i64 s.step.hi) := fun z => ((HLay.out.below (HOF.out z)).blk 1 rfl).cell 4
    have hfw : ∀ f, Fence.wide.fn f := fun _ => trivial
    simp only [pickB]
    repeat (gi_big_quiet_step (fail))
    refine wpQuietIn_nil ?_
    exact rfl
  intro W1 hW1
  gi_wp2
  refine ⟨trivial, (Below.refl _ _).alloc (Nat.le_refl _) _, ?_⟩
  have HLay1 := Lib.hid ((HLay.out.below hW1).below ((Below.refl _ _).alloc (Nat.le_refl _) (.cells #[.int .i64 place] 3)))
  have HPl : Hid (IntsAt (W1.alloc (.cells #[.int .i64 place] 3)) (W1.alloc (.cells #[.int .i64 place] 3)).heap.size (some ⟨W1.heap.size, 0, none⟩) 1 [place]) := Lib.hid (IntsAt.new W1 3 [place] _ (by simp))
  obtain ⟨P1, hP1⟩ : ∃ P1, W1.heap.size = P1 := ⟨_, rfl⟩
  rw [hP1] at HPl ⊢
  generalize (W1.alloc (.cells #[.int .i64 place] 3)) = V1 at *
  clear hW1
  refine wpFlow_cons rfl Quietly.none ?_
  intro W2 hW2
  have HLay2 := Lib.hid (HLay1.out.below hW2)
  have hlw := (HLay2.out.blk 1 rfl).lt
  gi_wp2
  refine ⟨trivial, (callsIn_wide.2 (asked_any A n c A' m d t (some ⟨P1, 0, none⟩) 1 1 [place] W2 (by unfold maxLen; omega) (by unfold maxLen; omega) (by decide) ((HT.out.below HLay2.out.1).more HLay2.out.1.size) ((HPl.out.below hW2).more hW2.size) (HL.out.below HLay2.out.1 hl0))).mono ?_⟩
  rintro e W3 ⟨rfl, hb3⟩
  gi_wp2
  refine ⟨trivial, hb3, ?_⟩
  have HLay3 := Lib.hid (HLay2.out.below hb3)
  clear hb3 hW2 HLay1 HLay2
  refine wpFlow_cons rfl Quietly.none ?_
  intro W4 hW4
  have HLay4 := Lib.hid (HLay3.out.below hW4)
  gi_wp2
  refine ⟨trivial, (callsIn_wide.2 (dry_any s W4)).mono ?_⟩
  rintro e W5 ⟨rfl, hb5⟩
  gi_wp2
  refine ⟨trivial, hb5, ?_⟩
  have HLay5 := Lib.hid (HLay4.out.below hb5)
  clear hb5 hW4 HLay3 HLay4
  refine wpFlow_cons rfl Quietly.none ?_
  intro W6 hW6
  gi_wp2
  refine ⟨trivial, (Below.refl _ _).alloc (Nat.le_refl _) _, ?_⟩
  have HLay6 := Lib.hid ((HLay5.out.below hW6).below ((Below.refl _ _).alloc (Nat.le_refl _) (.cells #[.int .i64 (askE t [place]), .int .i64 (dryE s)] 32)))
  have HOr := Lib.hid (Blk.new W6 32 #[.int .i64 (askE t [place]), .int .i64 (dryE s)])
  obtain ⟨P2, hP2⟩ : ∃ P2, W6.heap.size = P2 := ⟨_, rfl⟩
  rw [hP2] at HOr ⊢
  generalize (W6.alloc (.cells #[.int .i64 (askE t [place]), .int .i64 (dryE s)] 32)) = V6 at *
  clear hW6 HLay5
  refine wpFlow_cons rfl Quietly.none ?_
  intro W7 hW7
  gi_wp2
  refine ⟨trivial, (callsIn_wide.2 (or_any (askE t [place]) (dryE s) P2 W7 (HOr.out.below hW7 HOr.out.lt))).mono ?_⟩
  rintro e W8 ⟨rfl, rfl⟩
  gi_wp2
  refine ⟨trivial, Below.refl _ _, ?_⟩
  have HLay7 := Lib.hid (HLay6.out.below hW7)
  clear hW7 HLay6 HOr
  obtain ⟨ee, hee⟩ : ∃ ee, or2 (askE t [place]) (dryE s) = ee := ⟨_, rfl⟩
  rw [hee]
  have HEE := Lib.hid hee
  clear hee
  refine wpFlow_nil (A := ?AF9) ?hq9 ?_
  case hq9 =>
    rintro σ hσ of hof hcl
    simp only [pickB]
    repeat (gi_big_quiet_step (fail))
    refine wpQuietIn_nil ?_
    exact rfl
  intro W9 hW9
  simp only [pickB]
  refine wpT_nil ?_
  have HLay9 := Lib.hid (HLay7.out.below hW9)
  clear hW9 HLay7
  have r0 := (HLay9.out.blk 2 rfl).cell 0
  have r1 := (HLay9.out.blk 2 rfl).cell 1
  have z0 := (HLay9.out.blk 2 rfl).frozen 0
  have z1 := (HLay9.out.blk 2 rfl).frozen 1
  have hl2 := HLay9.out.lt 2 rfl
  by_cases h0 : ee = 0
  · subst h0
    have HOK := Lib.hid (or2_zero HEE.out)
    obtain ⟨htb, hhas⟩ := askE_zero HOK.out.1
    have HG := Lib.hid (goodT htb)
    have HGS := Lib.hid (goodS (dryE_zero HOK.out.2))
    have hm20 : m ≤ 20 := by have := HG.out.links; have := HT.out.links.len; omega
    clear htb hhas
    gi_wp2
    clear r0 r1 z0 z1 hl2 hlw HLay
    refine wpIn_flow_new [([true, true, true, true, true, true, true, true, true, false, true, true, true, true, true, true], 9), ([], 16), ([], 17)] [false, false, false, false, false, false, false, false, false, false, false, false, false, false, false, false, false, false, true, true, true, false, false, true] [false, false, false, false, false, false, false, false, false, false, false, false, false, false, false, false, false, false, false, false, false, false, true] 21 (fun b => .pointer (some ⟨b, 0, none⟩)) 27 #[.int .i64 0, .int .i64 0] (by kernel_rfl) (by kernel_rfl) (by kernel_rfl) (below_drewN (Below.refl _ _) 1) rfl rfl rfl (fun _ _ => rfl) (fun _ _ => rfl) ?_
    refine wpFlow_cons (A := ?AF2) rfl ?hq2 ?_
    case hq2 =>
      rintro σ hσ of hof hcl
      have HOF := Lib.hid hof
      clear hof hcl
      have t0 : ∀ z, (of z).cell? ⟨w.heap.size, 0, none⟩ = some (.slice A n c) := fun z => ((HLay9.out.below (HOF.out z)).blk 0 rfl).cell 0
      have t1 : ∀ z, (of z).cell? ⟨w.heap.size, 1, none⟩ = some (.slice A' m d) := fun z => ((HLay9.out.below (HOF.out z)).blk 0 rfl).cell 1
      have s1 : ∀ z, (of z).cell? ⟨w.heap.size + 1, 1, none⟩ = some (.int .i64 s.pace.lo) := fun z => ((HLay9.out.below (HOF.out z)).blk 1 rfl).cell 1
      have s2 : ∀ z, (of z).cell? ⟨w.heap.size + 1, 2, none⟩ = some (.int .i64 s.pace.hi) := fun z => ((HLay9.out.below (HOF.out z)).blk 1 rfl).cell 2
      have s3 : ∀ z, (of z).cell? ⟨w.heap.size + 1, 3, none⟩ = some (.int .i64 s.step.lo) := fun z => ((HLay9.out.below (HOF.out z)).blk 1 rfl).cell 3
      have s4 : ∀ z, (of z).cell? ⟨w.heap.size + 1, 4, none⟩ = some (.int .i64 s.step.hi) := fun z => ((HLay9.out.below (HOF.out z)).blk 1 rfl).cell 4
      have hfw : ∀ f, Fence.wide.fn f := fun _ => trivial
      simp only [pickB]
      repeat (gi_big_quiet_step (fail))
      refine wpQuietIn_nil ?_
      exact rfl
    intro W10 hW10
    gi_wp2
    refine ⟨trivial, (callsIn_wide.2 (drips_any s.pace.lo s.step.lo W10 (by have := HGS.out.pace; omega) (by have := HGS.out.step; omega))).mono ?_⟩
    rintro e W11 ⟨⟨b1, b2, rfl, hp1⟩, hb11⟩
    have HP1 := Lib.hid hp1
    have HLay11 := Lib.hid ((HLay9.out.below hW10).below hb11)
    gi_wp2
    refine ⟨trivial, hb11, ?_⟩
    clear hp1 hW10 hb11
    refine wpFlow_cons rfl Quietly.none ?_
    intro W12 hW12
    gi_wp2
    refine ⟨trivial, (callsIn_wide.2 (drips_any s.pace.hi s.step.hi W12 (by have := HGS.out.pace; omega) (by have := HGS.out.step; omega))).mono ?_⟩
    rintro e W13 ⟨⟨b3, b4, rfl, hp2⟩, hb13⟩
    have HP2 := Lib.hid hp2
    have HP13 := Lib.hid (HP1.out.below (hW12.trans (hb13.mono hW12.size)))
    have HLay13 := Lib.hid ((HLay11.out.below hW12).below hb13)
    gi_wp2
    refine ⟨trivial, hb13, ?_⟩
    clear hp2 hW12 hb13 HP1
    refine wpFlow_cons rfl Quietly.none ?_
    intro W14 hW14
    have HLay14 := Lib.hid (HLay13.out.below hW14)
    gi_wp2
    refine ⟨trivial, (callsIn_wide.2 (between_any A n c A' m d _ _ _ _ (lossP s.pace.lo s.step.lo) (lossP s.pace.hi s.step.hi) t place A2 k2 c2 l W14 hm20 hk2 ((HT.out.links.below HLay14.out.1).more HLay14.out.1.size) (HP13.out.below hW14) (HP2.out.below hW14) HG.out.fine (lossP_fair (by have := HGS.out.pace; omega) (by have := HGS.out.step; omega)) (lossP_fair (by have := HGS.out.pace; omega) (by have := HGS.out.step; omega)) ((HR.out.below HLay14.out.1).more HLay14.out.1.size))).mono ?_⟩
    rintro e W15 ⟨rfl, hb15⟩
    have HLay15 := Lib.hid (HLay14.out.below hb15)
    gi_wp2
    refine ⟨trivial, hb15, ?_⟩
    clear hW14 hb15 HP2 HP13 HLay11 HLay13 HLay14
    refine wpFlow_nil (A := ?AF3) ?hq3 ?_
    case hq3 =>
      rintro σ hσ of hof hcl
      simp only [pickB]
      repeat (gi_big_quiet_step (fail))
      refine wpQuietIn_nil ?_
      exact rfl
    intro b W16 hW16 hbg hbb _
    have HLay16 := Lib.hid ((HLay15.out.below hW16).add (Nat.le_trans HLay9.out.1.size hbg) hbb)
    have HBG := Lib.hid hbg
    have c0 := hbb.cell 0
    have c1 := hbb.cell 1
    have z0 := hbb.frozen 0
    have z1 := hbb.frozen 1
    have hbl := hbb.lt
    clear hW16 hbg hbb HLay15
    simp only [pickB]
    refine wpT_cons ?_
    gi_wp2
    refine wpT_nil ?_
    have HLay17 := Lib.hid ((HLay16.out.setLast (fun p hp e => by have := (HLay9.out.2 p hp).2.lt; have := HBG.out; omega) 0 (.int .i64 (firstA t (lossP s.pace.lo s.step.lo) place l))).setLast (fun p hp e => by have := (HLay9.out.2 p hp).2.lt; have := HBG.out; omega) 1 (.int .i64 (firstA t (lossP s.pace.hi s.step.hi) place l)))
    generalize ((W16.setCell ⟨b, 0, none⟩ (.int .i64 (firstA t (lossP s.pace.lo s.step.lo) place l))).setCell ⟨b, 1, none⟩ (.int .i64 (firstA t (lossP s.pace.hi s.step.hi) place l))) = W17 at *
    clear c0 c1 z0 z1 hbl HLay16
    have hb1 := firstA_bound HG.out.fine (lossP_fair (a := s.pace.lo) (b := s.step.lo) (by have := HGS.out.pace; omega) (by have := HGS.out.step; omega)) place l
    have hb2 := firstA_bound HG.out.fine (lossP_fair (a := s.pace.hi) (b := s.step.hi) (by have := HGS.out.pace; omega) (by have := HGS.out.step; omega)) place l
    have hv : ∀ e', betE t place l = e' → endE t s place l = e' := fun e' h => by unfold endE; rw [HEE.out, if_pos rfl, h]
    have HV := Lib.hid hv
    clear hv
    have HVV := Lib.hid (show endV t s place l = if endE t s place l = 0 then ⟨max 0 (s.drops - firstA t (lossP s.pace.hi s.step.hi) place l), max 0 (s.drops - firstA t (lossP s.pace.lo s.step.lo) place l)⟩ else ⟨0, 0⟩ from rfl)
    generalize firstA t (lossP s.pace.lo s.step.lo) place l = fa at *
    generalize firstA t (lossP s.pace.hi s.step.hi) place l = fb at *
    generalize betE t place l = eb at *
    obtain ⟨hd0, hd1⟩ := HGS.out.drops
    obtain ⟨hb10, hb11⟩ := hb1
    obtain ⟨hb20, hb21⟩ := hb2
    have r0 := (HLay17.out.blk 2 rfl).cell 0
    have r1 := (HLay17.out.blk 2 rfl).cell 1
    have z0 := (HLay17.out.blk 2 rfl).frozen 0
    have z1 := (HLay17.out.blk 2 rfl).frozen 1
    have s0 := (HLay17.out.blk 1 rfl).cell 0
    have q0 := (HLay17.out.blk 3 rfl).cell 0
    have q1 := (HLay17.out.blk 3 rfl).cell 1
    have hl1 := HLay17.out.lt 1 rfl
    have hl2 := HLay17.out.lt 2 rfl
    have hl3 := HLay17.out.lt 3 rfl
    by_cases he0 : eb = 0
    · subst he0
      gi_wp2
      all_goals
        have he := HV.out 0 rfl
        have hvv : endV t s place l = ⟨max 0 (s.drops - fb), max 0 (s.drops - fa)⟩ := by rw [HVV.out, he, if_pos rfl]
        clear r0 r1 z0 z1 s0 q0 q1
        first
        | (have R1 := ret2 (HLay17.out.blk 2 rfl) HLay17.out.1 (by omega) (.int .i64 (max 0 (s.drops - fb))) (.int .i64 (max 0 (s.drops - fa)))
           have y0 := R1.1.cell 0
           have y1 := R1.1.cell 1
           exact bodyPost_ret (v := .tuple #[.agg #[.int .i64 (max 0 (s.drops - fb)), .int .i64 (max 0 (s.drops - fa))], .int .i64 0]) (by simp [results, Tryd.results11, go_sem, y0, y1]) rfl ⟨by rw [he, hvv], R1.2⟩)
        | (have hx : max 0 (s.drops - fb) = 0 := by omega
           have hy : max 0 (s.drops - fa) = 0 := by omega
           have R1 := ret2 (HLay17.out.blk 2 rfl) HLay17.out.1 (by omega) (.int .i64 (0)) (.int .i64 (0))
           have y0 := R1.1.cell 0
           have y1 := R1.1.cell 1
           exact bodyPost_ret (v := .tuple #[.agg #[.int .i64 (0), .int .i64 (0)], .int .i64 0]) (by simp [results, Tryd.results11, go_sem, y0, y1]) rfl ⟨by rw [he, hvv, hx, hy], R1.2⟩)
        | (have hx : max 0 (s.drops - fb) = 0 := by omega
           have hy : max 0 (s.drops - fa) = s.drops - fa := by omega
           have R1 := ret2 (HLay17.out.blk 2 rfl) HLay17.out.1 (by omega) (.int .i64 (0)) (.int .i64 (s.drops - fa))
           have y0 := R1.1.cell 0
           have y1 := R1.1.cell 1
           exact bodyPost_ret (v := .tuple #[.agg #[.int .i64 (0), .int .i64 (s.drops - fa)], .int .i64 0]) (by simp [results, Tryd.results11, go_sem, y0, y1]) rfl ⟨by rw [he, hvv, hx, hy], R1.2⟩)
        | (have hx : max 0 (s.drops - fb) = s.drops - fb := by omega
           have hy : max 0 (s.drops - fa) = 0 := by omega
           have R1 := ret2 (HLay17.out.blk 2 rfl) HLay17.out.1 (by omega) (.int .i64 (s.drops - fb)) (.int .i64 (0))
           have y0 := R1.1.cell 0
           have y1 := R1.1.cell 1
           exact bodyPost_ret (v := .tuple #[.agg #[.int .i64 (s.drops - fb), .int .i64 (0)], .int .i64 0]) (by simp [results, Tryd.results11, go_sem, y0, y1]) rfl ⟨by rw [he, hvv, hx, hy], R1.2⟩)
        | (have hx : max 0 (s.drops - fb) = s.drops - fb := by omega
           have hy : max 0 (s.drops - fa) = s.drops - fa := by omega
           have R1 := ret2 (HLay17.out.blk 2 rfl) HLay17.out.1 (by omega) (.int .i64 (s.drops - fb)) (.int .i64 (s.drops - fa))
           have y0 := R1.1.cell 0
           have y1 := R1.1.cell 1
           exact bodyPost_ret (v := .tuple #[.agg #[.int .i64 (s.drops - fb), .int .i64 (s.drops - fa)], .int .i64 0]) (by simp [results, Tryd.results11, go_sem, y0, y1]) rfl ⟨by rw [he, hvv, hx, hy], R1.2⟩)
    · have h1 : (eb != 0) = true := by simpa using he0
      have HE0 := Lib.hid he0
      clear he0
      gi_wp2
      have R1 := ret2 (HLay17.out.blk 2 rfl) HLay17.out.1 (by omega) (.int .i64 0) (.int .i64 0)
      have y0 := R1.1.cell 0
      have y1 := R1.1.cell 1
      have he := HV.out eb rfl
      have hv : endV t s place l = ⟨0, 0⟩ := by rw [HVV.out, he, if_neg HE0.out]
      exact bodyPost_ret (v := .tuple #[.agg #[.int .i64 0, .int .i64 0], .int .i64 eb]) (by simp [results, Tryd.results11, go_sem, y0, y1]) rfl ⟨by rw [he, hv], R1.2⟩
  · have h1 : (ee != 0) = true := by simpa using h0
    have HE0 := Lib.hid h0
    clear h0
    gi_wp2
    have R1 := ret2 (HLay9.out.blk 2 rfl) HLay9.out.1 (by omega) (.int .i64 0) (.int .i64 0)
    have y0 := R1.1.cell 0
    have y1 := R1.1.cell 1
    have he : endE t s place l = ee := by unfold endE; rw [HEE.out, if_neg HE0.out]
    have hv : endV t s place l = ⟨0, 0⟩ := by unfold endV; rw [he, if_neg HE0.out]
    exact bodyPost_ret (v := .tuple #[.agg #[.int .i64 0, .int .i64 0], .int .i64 ee]) (by simp [results, Tryd.results11, go_sem, y0, y1]) rfl ⟨by rw [he, hv], R1.2⟩

theorem end_any (A : Option Addr) (n c : Nat) (A' : Option Addr) (m d : Nat) (t : Town) (s : Skin) (place : Int) (A2 : Option Addr) (k2 c2 : Nat) (l : List Int) (w : World)
    (hn : n ≤ 1000) (hm : m ≤ 1000) (hk2 : k2 ≤ 1000) (ht : TownAt w w.heap.size A n A' m t) (hr : IntsAt w w.heap.size A2 k2 l) (hL : Laid w) :
    Calls Tryd.prog 11 #[.agg #[.slice A n c, .slice A' m d], .agg #[.int .i64 s.drops, .int .i64 s.pace.lo, .int .i64 s.pace.hi, .int .i64 s.step.lo, .int .i64 s.step.hi], .int .i64 place, .slice A2 k2 c2] w (EndOut w (endV t s place l) (endE t s place l)) :=
  callsIn_wide.1 (end_in A n c A' m d t s place A2 k2 c2 l w hn hm hk2 ht hr hL)
end Go.Proofs.YtahkjagjcogeiaaDoor
/- The answer's spans, skins and gaits. -/
namespace Go.Proofs.YtahkjagjcogeiaaDoor
open Go.RowKit
set_option linter.unusedVariables false

theorem inB_span (most : Int) (x : Span) : (inB 0 most [x.hi] && inB 0 x.hi [x.lo]) = spanB most x := by
  unfold spanB inB
  simp only [List.any_cons, List.any_nil, Bool.or_false]
  by_cases h1 : x.hi < 0 <;> by_cases h2 : most < x.hi <;> by_cases h3 : x.lo < 0 <;> by_cases h4 : x.hi < x.lo <;> simp [h1, h2, h3, h4] <;> omega

set_option maxRecDepth 100000 in
set_option maxHeartbeats 2000000 in
theorem rspanned_any (x : Span) (most : Int) (w : World) :
    Calls Tryd.prog 111 #[.agg #[.int .i64 x.lo, .int .i64 x.hi], .int .i64 most] w fun e w' => e = .returned (.bool (spanB most x)) ∧ Below w.heap.size w w' := by
  have HS := Lib.hid (inB_span most x)
  have B0 : Below w.heap.size w (w.alloc (.cells #[.int .i64 x.lo, .int .i64 x.hi] 27)) := (Below.refl _ _).alloc (Nat.le_refl _) _
  go_enter Tryd.func111, Tryd.ntmps111
  go_wp2_with fail
  refine (within_any x.hi 0 most _).mono ?_
  rintro e w1 ⟨rfl, rfl⟩
  cases hi : inB 0 most [x.hi] with
  | false =>
    have HI := Lib.hid hi
    clear hi
    go_wp2_with fail
    go_ret
    exact ⟨ret_bool (by rw [← HS.out, HI.out]; rfl), B0⟩
  | true =>
    have HI := Lib.hid hi
    clear hi
    go_wp2_with fail
    refine (within_any x.lo 0 x.hi _).mono ?_
    rintro e w1 ⟨rfl, rfl⟩
    go_wp2_with fail
    go_ret
    exact ⟨ret_bool (by rw [← HS.out, HI.out]; rfl), B0⟩

set_option maxRecDepth 100000 in
set_option maxHeartbeats 2000000 in
theorem rskin_any (s : Skin) (w : World) :
    Calls Tryd.prog 53 #[.agg #[.int .i64 s.drops, .int .i64 s.pace.lo, .int .i64 s.pace.hi, .int .i64 s.step.lo, .int .i64 s.step.hi]] w fun e w' => e = .returned (.bool (skinB s)) ∧ Below w.heap.size w w' := by
  have hs : skinB s = (inB 0 100000 [s.drops] && (spanB 50 s.pace && spanB 50 s.step)) := by
    unfold skinB spansB
    simp [Bool.not_or]
  have HS := Lib.hid hs
  clear hs
  go_enter Tryd.func53, Tryd.ntmps53
  go_wp2_with fail
  refine (within_any s.drops 0 100000 _).mono ?_
  rintro e w1 ⟨rfl, rfl⟩
  have B0 : Below w.heap.size w (w.alloc (.cells #[.int .i64 s.drops, .int .i64 s.pace.lo, .int .i64 s.pace.hi, .int .i64 s.step.lo, .int .i64 s.step.hi] 29)) := (Below.refl _ _).alloc (Nat.le_refl _) _
  have X0 := Blk.new w 29 #[.int .i64 s.drops, .int .i64 s.pace.lo, .int .i64 s.pace.hi, .int .i64 s.step.lo, .int .i64 s.step.hi]
  cases hi : inB 0 100000 [s.drops] with
  | false =>
    have HI := Lib.hid hi
    clear hi
    go_wp2_with fail
    go_ret
    exact ⟨ret_bool (by rw [HS.out, HI.out]; rfl), B0⟩
  | true =>
    have HI := Lib.hid hi
    clear hi
    go_wp2_with fail
    refine (rspanned_any s.pace 50 _).mono ?_
    rintro e w1 ⟨rfl, hb1⟩
    have X1 := X0.below hb1 X0.lt
    have B1 := B0.trans (hb1.mono B0.size)
    have x3 := X1.cell 3
    have x4 := X1.cell 4
    clear X0 hb1 B0 X1
    cases hj : spanB 50 s.pace with
    | false =>
      have HJ := Lib.hid hj
      clear hj
      go_wp2_with fail
      go_ret
      exact ⟨ret_bool (by rw [HS.out, HI.out, HJ.out]; rfl), B1⟩
    | true =>
      have HJ := Lib.hid hj
      clear hj
      go_wp2_with fail
      refine (rspanned_any s.step 50 _).mono ?_
      rintro e w2 ⟨rfl, hb2⟩
      have B2 := B1.trans (hb2.mono B1.size)
      clear hb2
      go_wp2_with fail
      go_ret
      exact ⟨ret_bool (by rw [HS.out, HI.out, HJ.out]; rfl), B2⟩

set_option maxRecDepth 100000 in
set_option maxHeartbeats 2000000 in
theorem rgait_any (s : Gait) (w : World) :
    Calls Tryd.prog 85 #[.agg #[.int .i64 s.pace.lo, .int .i64 s.pace.hi, .int .i64 s.step.lo, .int .i64 s.step.hi]] w fun e w' => e = .returned (.bool (gaitB s)) ∧ Below w.heap.size w w' := by
  have hs : gaitB s = (spanB 20 s.pace && spanB 20 s.step) := by
    unfold gaitB spansB
    simp [Bool.not_or]
  have HS := Lib.hid hs
  clear hs
  go_enter Tryd.func85, Tryd.ntmps85
  go_wp2_with fail
  have B0 : Below w.heap.size w (w.alloc (.cells #[.int .i64 s.pace.lo, .int .i64 s.pace.hi, .int .i64 s.step.lo, .int .i64 s.step.hi] 66)) := (Below.refl _ _).alloc (Nat.le_refl _) _
  have X0 := Blk.new w 66 #[.int .i64 s.pace.lo, .int .i64 s.pace.hi, .int .i64 s.step.lo, .int .i64 s.step.hi]
  refine (rspanned_any s.pace 20 _).mono ?_
  rintro e w1 ⟨rfl, hb1⟩
  have X1 := X0.below hb1 X0.lt
  have B1 := B0.trans (hb1.mono B0.size)
  have x2 := X1.cell 2
  have x3 := X1.cell 3
  clear X0 hb1 B0 X1
  cases hj : spanB 20 s.pace with
  | false =>
    have HJ := Lib.hid hj
    clear hj
    go_wp2_with fail
    go_ret
    exact ⟨ret_bool (by rw [HS.out, HJ.out]; rfl), B1⟩
  | true =>
    have HJ := Lib.hid hj
    clear hj
    go_wp2_with fail
    refine (rspanned_any s.step 20 _).mono ?_
    rintro e w2 ⟨rfl, hb2⟩
    have B2 := B1.trans (hb2.mono B1.size)
    clear hb2
    go_wp2_with fail
    go_ret
    exact ⟨ret_bool (by rw [HS.out, HJ.out]; rfl), B2⟩

set_option maxRecDepth 100000 in
set_option maxHeartbeats 2000000 in
theorem lost_any (pace step : Int) (w : World) :
    Calls Tryd.prog 55 #[.int .i64 pace, .int .i64 step] w fun e w' => e = .returned (.agg #[.int .i64 pace, .int .i64 0, .int .i64 step]) ∧ Below w.heap.size w w' := by
  go_enter Tryd.func55, Tryd.ntmps55
  go_wp2_with fail
  exact bodyPost_ret (v := .agg #[.int .i64 pace, .int .i64 0, .int .i64 step]) (by simp [results, Tryd.results55, go_sem]) rfl ⟨rfl, (Below.refl _ _).alloc (Nat.le_refl _) _⟩
end Go.Proofs.YtahkjagjcogeiaaDoor
/- The answer's asked. -/
namespace Go.Proofs.YtahkjagjcogeiaaDoor
open Go.RowKit
set_option linter.unusedVariables false

theorem hasB_two (t : Town) (x y : Int) : hasB t [x, y] = (memI t.places x && memI t.places y) := by
  unfold hasB
  simp [Bool.not_or]

set_option maxRecDepth 100000 in
set_option maxHeartbeats 2000000 in
theorem rasked_any (A : Option Addr) (n c : Nat) (A' : Option Addr) (m d : Nat) (t : Town) (x y : Int) (w : World) (hn : n ≤ 1000) (hm : m ≤ 1000) (ht : TownAt w w.heap.size A n A' m t) :
    Calls Tryd.prog 52 #[.agg #[.slice A n c, .slice A' m d], .int .i64 x, .int .i64 y] w fun e w' => e = .returned (.int .i64 (askE t [x, y])) ∧ Below w.heap.size w w' := by
  have HT := Lib.hid ht
  have HXY := Lib.hid (hasB_two t x y)
  have hn' : n ≤ maxLen := by unfold maxLen; omega
  clear ht
  go_enter Tryd.func52, Tryd.ntmps52
  go_wp2_with fail
  have X0 := Blk.new w 25 #[.slice A n c, .slice A' m d]
  have B0 : Below w.heap.size w (w.alloc (.cells #[.slice A n c, .slice A' m d] 25)) := (Below.refl _ _).alloc (Nat.le_refl _) _
  generalize (w.alloc (.cells #[.slice A n c, .slice A' m d] 25)) = w0 at *
  refine (rtown_any A n c A' m d t w0 hn hm ((HT.out.below B0).more B0.size)).mono ?_
  rintro e w1 ⟨rfl, hb1⟩
  have X1 := X0.below hb1 X0.lt
  have B1 := B0.trans (hb1.mono B0.size)
  have x0 := X1.cell 0
  have x1 := X1.cell 1
  have HX1 := Lib.hid X1
  clear X0 B0 hb1 X1
  cases ht : townB t with
  | false =>
    have HTB := Lib.hid ht
    clear ht
    go_wp2_with fail
    go_ret
    exact ⟨ret_int (by unfold askE; rw [HTB.out]; rfl), B1⟩
  | true =>
    have HTB := Lib.hid ht
    clear ht
    go_wp2_with fail
    refine (place_any A n c A' m d t x w1 hn' ((HT.out.below B1).more B1.size).places).mono ?_
    rintro e w2 ⟨rfl, hb2⟩
    have B2 := B1.trans (hb2.mono B1.size)
    have X2 := HX1.out.below hb2 HX1.out.lt
    have y0 := X2.cell 0
    have y1 := X2.cell 1
    clear X2 hb2 x0 x1
    cases hmx : memI t.places x with
    | false =>
      have hlt := placeI_no hmx
      have HM := Lib.hid hmx
      clear hmx
      go_wp2_with fail
      go_ret
      exact ⟨ret_int (by unfold askE; rw [HTB.out, HXY.out, HM.out]; rfl), B2⟩
    | true =>
      have hge := placeI_yes hmx
      have HM := Lib.hid hmx
      clear hmx
      go_wp2_with fail
      refine (place_any A n c A' m d t y w2 hn' ((HT.out.below B2).more B2.size).places).mono ?_
      rintro e w3 ⟨rfl, hb3⟩
      have B3 := B2.trans (hb3.mono B2.size)
      clear hb3 y0 y1
      cases hmy : memI t.places y with
      | false =>
        have hlt := placeI_no hmy
        have HMY := Lib.hid hmy
        clear hmy
        go_wp2_with fail
        go_ret
        exact ⟨ret_int (by unfold askE; rw [HTB.out, HXY.out, HM.out, HMY.out]; rfl), B3⟩
      | true =>
        have hge2 := placeI_yes hmy
        have HMY := Lib.hid hmy
        clear hmy
        go_wp2_with fail
        go_ret
        exact ⟨ret_int (by unfold askE; rw [HTB.out, HXY.out, HM.out, HMY.out]; rfl), B3⟩
end Go.Proofs.YtahkjagjcogeiaaDoor
/- The answer's End: what a skin holds at the end of a walk. -/
namespace Go.Proofs.YtahkjagjcogeiaaDoor
open Go.RowKit Go.Shelf
set_option linter.unusedVariables false

theorem askE_same (t : Town) (x : Int) : askE t [x, x] = askE t [x] := by
  unfold askE hasB
  simp

set_option maxRecDepth 100000 in
set_option maxHeartbeats 16000000 in
theorem rend_in (A : Option Addr) (n c : Nat) (A' : Option Addr) (m d : Nat) (t : Town) (s : Skin) (place : Int) (A2 : Option Addr) (k2 c2 : Nat) (l : List Int) (w : World)
    (hn : n ≤ 1000) (hm : m ≤ 1000) (hk2 : k2 ≤ 1000) (ht : TownAt w w.heap.size A n A' m t) (hr : IntsAt w w.heap.size A2 k2 l) :
    CallsIn Fence.wide 9 Tryd.prog 12 #[.agg #[.slice A n c, .slice A' m d], .agg #[.int .i64 s.drops, .int .i64 s.pace.lo, .int .i64 s.pace.hi, .int .i64 s.step.lo, .int .i64 s.step.hi], .int .i64 place, .slice A2 k2 c2] w (EndOut w (endV t s place l) (endE t s place l)) := by
  have HT := Lib.hid ht
  have HR := Lib.hid hr
  have HA2 := Lib.hid (askE_same t place)
  clear ht hr
  refine callsIn_of_wp Tryd.func12 rfl trivial ?_ rfl
  simp only [Tryd.ntmps12, List.size_toArray, List.length_cons, List.length_nil, Nat.reduceAdd, Nat.reduceSub, Array.replicate_succ, Array.replicate_zero, List.push_toArray, List.append_toArray, List.nil_append, List.cons_append]
  gi_wp2
  have HLay := Lib.hid (Lay.three w 25 #[.slice A n c, .slice A' m d] 29 #[.int .i64 s.drops, .int .i64 s.pace.lo, .int .i64 s.pace.hi, .int .i64 s.step.lo, .int .i64 s.step.hi] 27 #[.int .i64 0, .int .i64 0])
  generalize (((w.alloc (.cells #[.slice A n c, .slice A' m d] 25)).alloc (.cells #[.int .i64 s.drops, .int .i64 s.pace.lo, .int .i64 s.pace.hi, .int .i64 s.step.lo, .int .i64 s.step.hi] 29)).alloc (.cells #[.int .i64 0, .int .i64 0] 27)) = w0 at *
  refine ⟨trivial, (callsIn_wide.2 (rasked_any A n c A' m d t place place w0 hn hm ((HT.out.below HLay.out.1).more HLay.out.1.size))).mono ?_⟩
  rintro e W1 ⟨rfl, hb⟩
  replace HLay := Lib.hid (HLay.out.below hb)
  clear hb
  rw [HA2.out]
  obtain ⟨ea, hea⟩ : ∃ ea, askE t [place] = ea := ⟨_, rfl⟩
  rw [hea]
  have HEA := Lib.hid hea
  clear hea
  have x0_0 := (HLay.out.blk 0 rfl).cell 0
  have x0_1 := (HLay.out.blk 0 rfl).cell 1
  have l0_ := HLay.out.lt 0 rfl
  have x1_0 := (HLay.out.blk 1 rfl).cell 0
  have x1_1 := (HLay.out.blk 1 rfl).cell 1
  have x1_2 := (HLay.out.blk 1 rfl).cell 2
  have x1_3 := (HLay.out.blk 1 rfl).cell 3
  have x1_4 := (HLay.out.blk 1 rfl).cell 4
  have l1_ := HLay.out.lt 1 rfl
  have x2_0 := (HLay.out.blk 2 rfl).cell 0
  have z2_0 := (HLay.out.blk 2 rfl).frozen 0
  have x2_1 := (HLay.out.blk 2 rfl).cell 1
  have z2_1 := (HLay.out.blk 2 rfl).frozen 1
  have l2_ := HLay.out.lt 2 rfl
  by_cases h0 : ea = 0
  · subst h0
    obtain ⟨htb, hhas⟩ := askE_zero HEA.out
    have HG := Lib.hid (goodT htb)
    have hm20 : m ≤ 20 := by have := HG.out.links; have := HT.out.links.len; omega
    clear htb hhas
    gi_wp2
    refine ⟨trivial, (callsIn_wide.2 (rskin_any s W1)).mono ?_⟩
    rintro e W2 ⟨rfl, hb⟩
    replace HLay := Lib.hid (HLay.out.below hb)
    clear hb
    clear x0_0 x0_1 l0_ x1_0 x1_1 x1_2 x1_3 x1_4 l1_ x2_0 z2_0 x2_1 z2_1 l2_
    have x0_0 := (HLay.out.blk 0 rfl).cell 0
    have x0_1 := (HLay.out.blk 0 rfl).cell 1
    have l0_ := HLay.out.lt 0 rfl
    have x1_0 := (HLay.out.blk 1 rfl).cell 0
    have x1_1 := (HLay.out.blk 1 rfl).cell 1
    have x1_2 := (HLay.out.blk 1 rfl).cell 2
    have x1_3 := (HLay.out.blk 1 rfl).cell 3
    have x1_4 := (HLay.out.blk 1 rfl).cell 4
    have l1_ := HLay.out.lt 1 rfl
    have x2_0 := (HLay.out.blk 2 rfl).cell 0
    have z2_0 := (HLay.out.blk 2 rfl).frozen 0
    have x2_1 := (HLay.out.blk 2 rfl).cell 1
    have z2_1 := (HLay.out.blk 2 rfl).frozen 1
    have l2_ := HLay.out.lt 2 rfl
    cases hs : skinB s with
    | false =>
      have HS := Lib.hid hs
      clear hs
      gi_wp2
      have R1 := ret2 (HLay.out.blk 2 rfl) HLay.out.1 (by omega) (.int .i64 0) (.int .i64 0)
      have y0 := R1.1.cell 0
      have y1 := R1.1.cell 1
      have he : endE t s place l = 36 := by unfold endE dryE or2; rw [HEA.out, HS.out]; rfl
      have hv : endV t s place l = ⟨0, 0⟩ := by unfold endV; rw [he]; rfl
      exact bodyPost_ret (v := .tuple #[.agg #[.int .i64 0, .int .i64 0], .int .i64 36]) (by simp [results, Tryd.results12, go_sem, y0, y1]) rfl ⟨by rw [he, hv], R1.2⟩
    | true =>
      have HGS := Lib.hid (goodS hs)
      have HSK := Lib.hid (show dryE s = 0 by unfold dryE; rw [hs]; rfl)
      clear hs
      gi_wp2
      have HF1 := Lib.hid (lossP_fair (a := s.pace.lo) (b := s.step.lo) HGS.out.pace.1 HGS.out.step.1)
      have HF2 := Lib.hid (lossP_fair (a := s.pace.hi) (b := s.step.hi) HGS.out.pace.2.1 HGS.out.step.2.1)
      have HC1 := Lib.hid (lossP_cheap (a := s.pace.lo) (b := s.step.lo) HGS.out.pace.1 HGS.out.step.1)
      have HC2 := Lib.hid (lossP_cheap (a := s.pace.hi) (b := s.step.hi) HGS.out.pace.2.1 HGS.out.step.2.1)
      have HS1 := Lib.hid (walkedF_isSome t (lossP s.pace.lo s.step.lo) ⟨0, 0, 0⟩ place l)
      have HS2 := Lib.hid (walkedF_isSome t (lossP s.pace.hi s.step.hi) ⟨0, 0, 0⟩ place l)
      clear x0_0 x0_1 l0_ x1_0 x1_1 x1_2 x1_3 x1_4 l1_ x2_0 z2_0 x2_1 z2_1 l2_
      have HLay1 := Lib.hid HLay.out
      refine wpIn_flow_new [([true, true, true, true, true, true, true, true, true], 9), ([], 10)] [false, false, false, false, false, false, false, false, false, false, false, true, true, true, true, false, true, false, true] [false, false, false, false, false, false, false, false, false, false, false, false, false, false, false, false, false, true] 15 (fun b => .pointer (some ⟨b, 0, none⟩)) 103 #[.int .i64 0, .int .i64 0, .int .i64 0, .int .i64 0] (by kernel_rfl) (by kernel_rfl) (by kernel_rfl) (below_drewN (Below.refl _ _) 1) rfl rfl rfl (fun _ _ => rfl) (fun _ _ => rfl) ?_
      refine wpFlow_cons (A := ?AF1) rfl ?hq1 ?_
      case hq1 =>
        rintro σ hσ of hof hcl
        have HOF := Lib.hid hof
        have HCL := Lib.hid hcl
        clear hof hcl
        have c0_ : ∀ z, (of z).cell? ⟨w.heap.size, 0, none⟩ = some (.slice A n c) := fun z => ((HLay.out.below (HOF.out z)).blk 0 rfl).cell 0
        have c1_ : ∀ z, (of z).cell? ⟨w.heap.size, 1, none⟩ = some (.slice A' m d) := fun z => ((HLay.out.below (HOF.out z)).blk 0 rfl).cell 1
        have c2_ : ∀ z, (of z).cell? ⟨w.heap.size + 1, 0, none⟩ = some (.int .i64 s.drops) := fun z => ((HLay.out.below (HOF.out z)).blk 1 rfl).cell 0
        have c3_ : ∀ z, (of z).cell? ⟨w.heap.size + 1, 1, none⟩ = some (.int .i64 s.pace.lo) := fun z => ((HLay.out.below (HOF.out z)).blk 1 rfl).cell 1
        have c4_ : ∀ z, (of z).cell? ⟨w.heap.size + 1, 2, none⟩ = some (.int .i64 s.pace.hi) := fun z => ((HLay.out.below (HOF.out z)).blk 1 rfl).cell 2
        have c5_ : ∀ z, (of z).cell? ⟨w.heap.size + 1, 3, none⟩ = some (.int .i64 s.step.lo) := fun z => ((HLay.out.below (HOF.out z)).blk 1 rfl).cell 3
        have c6_ : ∀ z, (of z).cell? ⟨w.heap.size + 1, 4, none⟩ = some (.int .i64 s.step.hi) := fun z => ((HLay.out.below (HOF.out z)).blk 1 rfl).cell 4
        have hfw : ∀ f, Fence.wide.fn f := fun _ => trivial
        simp only [pickB]
        repeat (gi_big_quiet_step (fail))
        refine wpQuietIn_nil ?_
        exact rfl
      intro W3 hW
      replace HLay := Lib.hid (HLay.out.below hW)
      clear hW
      gi_wp2
      refine ⟨trivial, (callsIn_wide.2 (lost_any s.pace.lo s.step.lo W3)).mono ?_⟩
      rintro e W4 ⟨rfl, hb⟩
      replace HLay := Lib.hid (HLay.out.below hb)
      gi_wp2
      refine ⟨trivial, hb, ?_⟩
      clear hb
      refine wpFlow_cons rfl Quietly.none ?_
      intro W5 hW
      replace HLay := Lib.hid (HLay.out.below hW)
      clear hW
      gi_wp2
      refine ⟨trivial, (callsIn_wide.2 (rwalked_any A n c A' m d (lossP s.pace.lo s.step.lo) t place A2 k2 c2 l W5 hm hk2 ((HT.out.links.below HLay.out.1).more HLay.out.1.size) HC1.out HG.out.fine HF1.out ((HR.out.below HLay.out.1).more HLay.out.1.size))).mono ?_⟩
      rintro e W6 ⟨x1, co1, rfl, hq1, hb, hco1, _⟩
      replace HLay := Lib.hid (HLay.out.below hb)
      have HQ1 := Lib.hid hq1
      clear hq1 hco1
      gi_wp2
      refine ⟨trivial, hb, ?_⟩
      clear hb
      obtain ⟨is1, his1⟩ : ∃ b, (walkedF t (lossP s.pace.lo s.step.lo) place l).isSome = b := ⟨_, rfl⟩
      have hisx : (walkedF t (lossP s.pace.lo s.step.lo) place l, partF t (lossP s.pace.lo s.step.lo) place l).1.isSome = is1 := his1
      rw [hisx]
      have HIS1 := Lib.hid his1
      clear his1 hisx
      refine wpFlow_nil (A := ?AF2) ?hq2 ?_
      case hq2 =>
        rintro σ hσ of hof hcl
        have HOF := Lib.hid hof
        have HCL := Lib.hid hcl
        clear hof hcl
        have c0_ : ∀ z, (of z).cell? ⟨w.heap.size, 0, none⟩ = some (.slice A n c) := fun z => ((HLay.out.below (HOF.out z)).blk 0 rfl).cell 0
        have c1_ : ∀ z, (of z).cell? ⟨w.heap.size, 1, none⟩ = some (.slice A' m d) := fun z => ((HLay.out.below (HOF.out z)).blk 0 rfl).cell 1
        have c2_ : ∀ z, (of z).cell? ⟨w.heap.size + 1, 0, none⟩ = some (.int .i64 s.drops) := fun z => ((HLay.out.below (HOF.out z)).blk 1 rfl).cell 0
        have c3_ : ∀ z, (of z).cell? ⟨w.heap.size + 1, 1, none⟩ = some (.int .i64 s.pace.lo) := fun z => ((HLay.out.below (HOF.out z)).blk 1 rfl).cell 1
        have c4_ : ∀ z, (of z).cell? ⟨w.heap.size + 1, 2, none⟩ = some (.int .i64 s.pace.hi) := fun z => ((HLay.out.below (HOF.out z)).blk 1 rfl).cell 2
        have c5_ : ∀ z, (of z).cell? ⟨w.heap.size + 1, 3, none⟩ = some (.int .i64 s.step.lo) := fun z => ((HLay.out.below (HOF.out z)).blk 1 rfl).cell 3
        have c6_ : ∀ z, (of z).cell? ⟨w.heap.size + 1, 4, none⟩ = some (.int .i64 s.step.hi) := fun z => ((HLay.out.below (HOF.out z)).blk 1 rfl).cell 4
        have hfw : ∀ f, Fence.wide.fn f := fun _ => trivial
        simp only [pickB]
        repeat (gi_big_quiet_step (fail))
        refine wpQuietIn_nil ?_
        exact rfl
      intro G1 W7 hW hbg hbb hbi
      replace HLay := Lib.hid (HLay.out.below hW)
      have c0 := hbb.cell 0
      have z0 := hbb.frozen 0
      have c1 := hbb.cell 1
      have z1 := hbb.frozen 1
      have c2 := hbb.cell 2
      have z2 := hbb.frozen 2
      have c3 := hbb.cell 3
      have z3 := hbb.frozen 3
      have hbl := hbb.lt
      have hbw : w.heap.size ≤ G1 := Nat.le_trans HLay1.out.1.size hbg
      simp only [pickB]
      refine wpT_cons ?_
      gi_wp2
      refine wpT_nil ?_
      have R4 := ret4 hbb (Below.refl G1 W7) (Nat.le_refl _) (.int .i64 co1.a) (.int .i64 co1.b) (.int .i64 co1.c) (.int .i64 co1.d)
      replace HLay := Lib.hid (Lay.add (w := w) (bs := [(w.heap.size, 25, #[.slice A n c, .slice A' m d]), (w.heap.size + 1, 29, #[.int .i64 s.drops, .int .i64 s.pace.lo, .int .i64 s.pace.hi, .int .i64 s.step.lo, .int .i64 s.step.hi]), (w.heap.size + 1 + 1, 27, #[.int .i64 0, .int .i64 0])]) ⟨HLay.out.1.trans (R4.2.mono hbw), fun p hp => ⟨(HLay.out.2 p hp).1, (HLay.out.2 p hp).2.below R4.2 (by have := (HLay1.out.2 p hp).2.lt; omega)⟩⟩ hbw R4.1)
      generalize ((((W7.setCell ⟨G1, 0, none⟩ (.int .i64 co1.a)).setCell ⟨G1, 1, none⟩ (.int .i64 co1.b)).setCell ⟨G1, 2, none⟩ (.int .i64 co1.c)).setCell ⟨G1, 3, none⟩ (.int .i64 co1.d)) = W8 at *
      clear c0 z0 c1 z1 c2 z2 c3 z3 hbl hbb hW hbg R4 hbw hbi HLay1
      have x0_0 := (HLay.out.blk 0 rfl).cell 0
      have x0_1 := (HLay.out.blk 0 rfl).cell 1
      have l0_ := HLay.out.lt 0 rfl
      have x1_0 := (HLay.out.blk 1 rfl).cell 0
      have x1_1 := (HLay.out.blk 1 rfl).cell 1
      have x1_2 := (HLay.out.blk 1 rfl).cell 2
      have x1_3 := (HLay.out.blk 1 rfl).cell 3
      have x1_4 := (HLay.out.blk 1 rfl).cell 4
      have l1_ := HLay.out.lt 1 rfl
      have x2_0 := (HLay.out.blk 2 rfl).cell 0
      have z2_0 := (HLay.out.blk 2 rfl).frozen 0
      have x2_1 := (HLay.out.blk 2 rfl).cell 1
      have z2_1 := (HLay.out.blk 2 rfl).frozen 1
      have l2_ := HLay.out.lt 2 rfl
      have x3_0 := (HLay.out.blk 3 rfl).cell 0
      have x3_1 := (HLay.out.blk 3 rfl).cell 1
      have x3_2 := (HLay.out.blk 3 rfl).cell 2
      have x3_3 := (HLay.out.blk 3 rfl).cell 3
      have l3_ := HLay.out.lt 3 rfl
      cases is1 with
      | false =>
        gi_wp2
        have R1 := ret2 (HLay.out.blk 2 rfl) HLay.out.1 (by omega) (.int .i64 0) (.int .i64 0)
        have y0 := R1.1.cell 0
        have y1 := R1.1.cell 1
        have he : endE t s place l = 32 := by unfold endE betE or2; rw [HEA.out, HSK.out, ← HS1.out, HIS1.out]; rfl
        have hv : endV t s place l = ⟨0, 0⟩ := by unfold endV; rw [he]; rfl
        exact bodyPost_ret (v := .tuple #[.agg #[.int .i64 0, .int .i64 0], .int .i64 32]) (by simp [results, Tryd.results12, go_sem, y0, y1]) rfl ⟨by rw [he, hv], R1.2⟩
      | true =>
        gi_wp2
        clear x0_0 x0_1 l0_ x1_0 x1_1 x1_2 x1_3 x1_4 l1_ x2_0 z2_0 x2_1 z2_1 l2_ x3_0 x3_1 x3_2 x3_3 l3_
        have HLay2 := Lib.hid HLay.out
        refine wpIn_flow_new [([true, true, true, true, true, true, true, true, true], 9), ([], 10)] [false, false, false, false, false, false, false, false, false, false, false, true, true, true, true, false, true, false, true] [false, false, false, false, false, false, false, false, false, false, false, false, false, false, false, false, false, true] 15 (fun b => .pointer (some ⟨b, 0, none⟩)) 103 #[.int .i64 0, .int .i64 0, .int .i64 0, .int .i64 0] (by kernel_rfl) (by kernel_rfl) (by kernel_rfl) (below_drewN (Below.refl _ _) 1) rfl rfl rfl (fun _ _ => rfl) (fun _ _ => rfl) ?_
        refine wpFlow_cons (A := ?AF3) rfl ?hq3 ?_
        case hq3 =>
          rintro σ hσ of hof hcl
          have HOF := Lib.hid hof
          have HCL := Lib.hid hcl
          clear hof hcl
          have c0_ : ∀ z, (of z).cell? ⟨w.heap.size, 0, none⟩ = some (.slice A n c) := fun z => ((HLay.out.below (HOF.out z)).blk 0 rfl).cell 0
          have c1_ : ∀ z, (of z).cell? ⟨w.heap.size, 1, none⟩ = some (.slice A' m d) := fun z => ((HLay.out.below (HOF.out z)).blk 0 rfl).cell 1
          have c2_ : ∀ z, (of z).cell? ⟨w.heap.size + 1, 0, none⟩ = some (.int .i64 s.drops) := fun z => ((HLay.out.below (HOF.out z)).blk 1 rfl).cell 0
          have c3_ : ∀ z, (of z).cell? ⟨w.heap.size + 1, 1, none⟩ = some (.int .i64 s.pace.lo) := fun z => ((HLay.out.below (HOF.out z)).blk 1 rfl).cell 1
          have c4_ : ∀ z, (of z).cell? ⟨w.heap.size + 1, 2, none⟩ = some (.int .i64 s.pace.hi) := fun z => ((HLay.out.below (HOF.out z)).blk 1 rfl).cell 2
          have c5_ : ∀ z, (of z).cell? ⟨w.heap.size + 1, 3, none⟩ = some (.int .i64 s.step.lo) := fun z => ((HLay.out.below (HOF.out z)).blk 1 rfl).cell 3
          have c6_ : ∀ z, (of z).cell? ⟨w.heap.size + 1, 4, none⟩ = some (.int .i64 s.step.hi) := fun z => ((HLay.out.below (HOF.out z)).blk 1 rfl).cell 4
          have hfw : ∀ f, Fence.wide.fn f := fun _ => trivial
          simp only [pickB]
          repeat (gi_big_quiet_step (fail))
          refine wpQuietIn_nil ?_
          exact rfl
        intro W9 hW
        replace HLay := Lib.hid (HLay.out.below hW)
        clear hW
        gi_wp2
        refine ⟨trivial, (callsIn_wide.2 (lost_any s.pace.hi s.step.hi W9)).mono ?_⟩
        rintro e W10 ⟨rfl, hb⟩
        replace HLay := Lib.hid (HLay.out.below hb)
        gi_wp2
        refine ⟨trivial, hb, ?_⟩
        clear hb
        refine wpFlow_cons rfl Quietly.none ?_
        intro W11 hW
        replace HLay := Lib.hid (HLay.out.below hW)
        clear hW
        gi_wp2
        refine ⟨trivial, (callsIn_wide.2 (rwalked_any A n c A' m d (lossP s.pace.hi s.step.hi) t place A2 k2 c2 l W11 hm hk2 ((HT.out.links.below HLay.out.1).more HLay.out.1.size) HC2.out HG.out.fine HF2.out ((HR.out.below HLay.out.1).more HLay.out.1.size))).mono ?_⟩
        rintro e W12 ⟨x2, co2, rfl, hq2, hb, hco2, _⟩
        replace HLay := Lib.hid (HLay.out.below hb)
        have HQ2 := Lib.hid hq2
        clear hq2 hco2
        gi_wp2
        refine ⟨trivial, hb, ?_⟩
        clear hb
        obtain ⟨is2, his2⟩ : ∃ b, (walkedF t (lossP s.pace.hi s.step.hi) place l).isSome = b := ⟨_, rfl⟩
        have hisx : (walkedF t (lossP s.pace.hi s.step.hi) place l, partF t (lossP s.pace.hi s.step.hi) place l).1.isSome = is2 := his2
        rw [hisx]
        have HIS2 := Lib.hid his2
        clear his2 hisx
        refine wpFlow_nil (A := ?AF4) ?hq4 ?_
        case hq4 =>
          rintro σ hσ of hof hcl
          have HOF := Lib.hid hof
          have HCL := Lib.hid hcl
          clear hof hcl
          have c0_ : ∀ z, (of z).cell? ⟨w.heap.size, 0, none⟩ = some (.slice A n c) := fun z => ((HLay.out.below (HOF.out z)).blk 0 rfl).cell 0
          have c1_ : ∀ z, (of z).cell? ⟨w.heap.size, 1, none⟩ = some (.slice A' m d) := fun z => ((HLay.out.below (HOF.out z)).blk 0 rfl).cell 1
          have c2_ : ∀ z, (of z).cell? ⟨w.heap.size + 1, 0, none⟩ = some (.int .i64 s.drops) := fun z => ((HLay.out.below (HOF.out z)).blk 1 rfl).cell 0
          have c3_ : ∀ z, (of z).cell? ⟨w.heap.size + 1, 1, none⟩ = some (.int .i64 s.pace.lo) := fun z => ((HLay.out.below (HOF.out z)).blk 1 rfl).cell 1
          have c4_ : ∀ z, (of z).cell? ⟨w.heap.size + 1, 2, none⟩ = some (.int .i64 s.pace.hi) := fun z => ((HLay.out.below (HOF.out z)).blk 1 rfl).cell 2
          have c5_ : ∀ z, (of z).cell? ⟨w.heap.size + 1, 3, none⟩ = some (.int .i64 s.step.lo) := fun z => ((HLay.out.below (HOF.out z)).blk 1 rfl).cell 3
          have c6_ : ∀ z, (of z).cell? ⟨w.heap.size + 1, 4, none⟩ = some (.int .i64 s.step.hi) := fun z => ((HLay.out.below (HOF.out z)).blk 1 rfl).cell 4
          have hfw : ∀ f, Fence.wide.fn f := fun _ => trivial
          simp only [pickB]
          repeat (gi_big_quiet_step (fail))
          refine wpQuietIn_nil ?_
          exact rfl
        intro G2 W13 hW hbg hbb hbi
        replace HLay := Lib.hid (HLay.out.below hW)
        have c0 := hbb.cell 0
        have z0 := hbb.frozen 0
        have c1 := hbb.cell 1
        have z1 := hbb.frozen 1
        have c2 := hbb.cell 2
        have z2 := hbb.frozen 2
        have c3 := hbb.cell 3
        have z3 := hbb.frozen 3
        have hbl := hbb.lt
        have hbw : w.heap.size ≤ G2 := Nat.le_trans HLay2.out.1.size hbg
        simp only [pickB]
        refine wpT_cons ?_
        gi_wp2
        refine wpT_nil ?_
        have R4 := ret4 hbb (Below.refl G2 W13) (Nat.le_refl _) (.int .i64 co2.a) (.int .i64 co2.b) (.int .i64 co2.c) (.int .i64 co2.d)
        replace HLay := Lib.hid (Lay.add (w := w) (bs := [(w.heap.size, 25, #[.slice A n c, .slice A' m d]), (w.heap.size + 1, 29, #[.int .i64 s.drops, .int .i64 s.pace.lo, .int .i64 s.pace.hi, .int .i64 s.step.lo, .int .i64 s.step.hi]), (w.heap.size + 1 + 1, 27, #[.int .i64 0, .int .i64 0]), (G1, 103, #[.int .i64 co1.a, .int .i64 co1.b, .int .i64 co1.c, .int .i64 co1.d])]) ⟨HLay.out.1.trans (R4.2.mono hbw), fun p hp => ⟨(HLay.out.2 p hp).1, (HLay.out.2 p hp).2.below R4.2 (by have := (HLay2.out.2 p hp).2.lt; omega)⟩⟩ hbw R4.1)
        generalize ((((W13.setCell ⟨G2, 0, none⟩ (.int .i64 co2.a)).setCell ⟨G2, 1, none⟩ (.int .i64 co2.b)).setCell ⟨G2, 2, none⟩ (.int .i64 co2.c)).setCell ⟨G2, 3, none⟩ (.int .i64 co2.d)) = W14 at *
        clear c0 z0 c1 z1 c2 z2 c3 z3 hbl hbb hW hbg R4 hbw hbi HLay2
        have hfa1 : firstA t (lossP s.pace.lo s.step.lo) place l = co1.a := by
          obtain ⟨q, e1⟩ := Option.isSome_iff_exists.1 HIS1.out
          unfold firstA
          rw [e1, HQ1.out q e1]
        have hi2 : (walkedF t (lossP s.pace.hi s.step.hi) place l).isSome = true := HS2.out.trans (HS1.out.symm.trans HIS1.out)
        have hfa2 : firstA t (lossP s.pace.hi s.step.hi) place l = co2.a := by
          obtain ⟨q, e1⟩ := Option.isSome_iff_exists.1 hi2
          unfold firstA
          rw [e1, HQ2.out q e1]
        have hb1 := firstA_bound HG.out.fine HF1.out place l
        have hb2 := firstA_bound HG.out.fine HF2.out place l
        have he : endE t s place l = 0 := by unfold endE betE or2; rw [HEA.out, HSK.out, ← HS1.out, HIS1.out]; rfl
        have hv : endV t s place l = ⟨max 0 (s.drops - co2.a), max 0 (s.drops - co1.a)⟩ := by unfold endV; rw [he, if_pos rfl, hfa1, hfa2]
        rw [hfa1] at hb1
        rw [hfa2] at hb2
        obtain ⟨b10, b11⟩ := hb1
        obtain ⟨b20, b21⟩ := hb2
        obtain ⟨hd0, hd1⟩ := HGS.out.drops
        have HE := Lib.hid he
        have HV := Lib.hid hv
        clear hfa1 hfa2 hi2 he hv
        have x0_0 := (HLay.out.blk 0 rfl).cell 0
        have x0_1 := (HLay.out.blk 0 rfl).cell 1
        have l0_ := HLay.out.lt 0 rfl
        have x1_0 := (HLay.out.blk 1 rfl).cell 0
        have x1_1 := (HLay.out.blk 1 rfl).cell 1
        have x1_2 := (HLay.out.blk 1 rfl).cell 2
        have x1_3 := (HLay.out.blk 1 rfl).cell 3
        have x1_4 := (HLay.out.blk 1 rfl).cell 4
        have l1_ := HLay.out.lt 1 rfl
        have x2_0 := (HLay.out.blk 2 rfl).cell 0
        have z2_0 := (HLay.out.blk 2 rfl).frozen 0
        have x2_1 := (HLay.out.blk 2 rfl).cell 1
        have z2_1 := (HLay.out.blk 2 rfl).frozen 1
        have l2_ := HLay.out.lt 2 rfl
        have x3_0 := (HLay.out.blk 3 rfl).cell 0
        have x3_1 := (HLay.out.blk 3 rfl).cell 1
        have x3_2 := (HLay.out.blk 3 rfl).cell 2
        have x3_3 := (HLay.out.blk 3 rfl).cell 3
        have l3_ := HLay.out.lt 3 rfl
        have x4_0 := (HLay.out.blk 4 rfl).cell 0
        have x4_1 := (HLay.out.blk 4 rfl).cell 1
        have x4_2 := (HLay.out.blk 4 rfl).cell 2
        have x4_3 := (HLay.out.blk 4 rfl).cell 3
        have l4_ := HLay.out.lt 4 rfl
        gi_wp2
        all_goals
          first
            | (have R1 := ret2 (HLay.out.blk 2 rfl) HLay.out.1 (by omega) (.int .i64 (max 0 (s.drops - co2.a))) (.int .i64 (max 0 (s.drops - co1.a)))
               have y0 := R1.1.cell 0
               have y1 := R1.1.cell 1
               exact bodyPost_ret (v := .tuple #[.agg #[.int .i64 (max 0 (s.drops - co2.a)), .int .i64 (max 0 (s.drops - co1.a))], .int .i64 0]) (by simp [results, Tryd.results12, go_sem, y0, y1]) rfl ⟨by rw [HE.out, HV.out], R1.2⟩)
            | (have hx : max 0 (s.drops - co2.a) = 0 := by omega
               have hy : max 0 (s.drops - co1.a) = 0 := by omega
               have R1 := ret2 (HLay.out.blk 2 rfl) HLay.out.1 (by omega) (.int .i64 (0)) (.int .i64 (0))
               have y0 := R1.1.cell 0
               have y1 := R1.1.cell 1
               exact bodyPost_ret (v := .tuple #[.agg #[.int .i64 (0), .int .i64 (0)], .int .i64 0]) (by simp [results, Tryd.results12, go_sem, y0, y1]) rfl ⟨by rw [HE.out, HV.out, hx, hy], R1.2⟩)
            | (have hx : max 0 (s.drops - co2.a) = 0 := by omega
               have hy : max 0 (s.drops - co1.a) = s.drops - co1.a := by omega
               have R1 := ret2 (HLay.out.blk 2 rfl) HLay.out.1 (by omega) (.int .i64 (0)) (.int .i64 (s.drops - co1.a))
               have y0 := R1.1.cell 0
               have y1 := R1.1.cell 1
               exact bodyPost_ret (v := .tuple #[.agg #[.int .i64 (0), .int .i64 (s.drops - co1.a)], .int .i64 0]) (by simp [results, Tryd.results12, go_sem, y0, y1]) rfl ⟨by rw [HE.out, HV.out, hx, hy], R1.2⟩)
            | (have hx : max 0 (s.drops - co2.a) = s.drops - co2.a := by omega
               have hy : max 0 (s.drops - co1.a) = 0 := by omega
               have R1 := ret2 (HLay.out.blk 2 rfl) HLay.out.1 (by omega) (.int .i64 (s.drops - co2.a)) (.int .i64 (0))
               have y0 := R1.1.cell 0
               have y1 := R1.1.cell 1
               exact bodyPost_ret (v := .tuple #[.agg #[.int .i64 (s.drops - co2.a), .int .i64 (0)], .int .i64 0]) (by simp [results, Tryd.results12, go_sem, y0, y1]) rfl ⟨by rw [HE.out, HV.out, hx, hy], R1.2⟩)
            | (have hx : max 0 (s.drops - co2.a) = s.drops - co2.a := by omega
               have hy : max 0 (s.drops - co1.a) = s.drops - co1.a := by omega
               have R1 := ret2 (HLay.out.blk 2 rfl) HLay.out.1 (by omega) (.int .i64 (s.drops - co2.a)) (.int .i64 (s.drops - co1.a))
               have y0 := R1.1.cell 0
               have y1 := R1.1.cell 1
               exact bodyPost_ret (v := .tuple #[.agg #[.int .i64 (s.drops - co2.a), .int .i64 (s.drops - co1.a)], .int .i64 0]) (by simp [results, Tryd.results12, go_sem, y0, y1]) rfl ⟨by rw [HE.out, HV.out, hx, hy], R1.2⟩)
  · have h1 : (ea != 0) = true := by simpa using h0
    have HE0 := Lib.hid h0
    clear h0
    gi_wp2
    have R1 := ret2 (HLay.out.blk 2 rfl) HLay.out.1 (by omega) (.int .i64 0) (.int .i64 0)
    have y0 := R1.1.cell 0
    have y1 := R1.1.cell 1
    have he : endE t s place l = ea := by unfold endE or2; rw [HEA.out, if_neg HE0.out, if_neg HE0.out]
    have hv : endV t s place l = ⟨0, 0⟩ := by unfold endV; rw [he, if_neg HE0.out]
    exact bodyPost_ret (v := .tuple #[.agg #[.int .i64 0, .int .i64 0], .int .i64 ea]) (by simp [results, Tryd.results12, go_sem, y0, y1]) rfl ⟨by rw [he, hv], R1.2⟩

theorem rend_any (A : Option Addr) (n c : Nat) (A' : Option Addr) (m d : Nat) (t : Town) (s : Skin) (place : Int) (A2 : Option Addr) (k2 c2 : Nat) (l : List Int) (w : World)
    (hn : n ≤ 1000) (hm : m ≤ 1000) (hk2 : k2 ≤ 1000) (ht : TownAt w w.heap.size A n A' m t) (hr : IntsAt w w.heap.size A2 k2 l) :
    Calls Tryd.prog 12 #[.agg #[.slice A n c, .slice A' m d], .agg #[.int .i64 s.drops, .int .i64 s.pace.lo, .int .i64 s.pace.hi, .int .i64 s.step.lo, .int .i64 s.step.hi], .int .i64 place, .slice A2 k2 c2] w (EndOut w (endV t s place l) (endE t s place l)) :=
  callsIn_wide.1 (rend_in A n c A' m d t s place A2 k2 c2 l w hn hm hk2 ht hr)
end Go.Proofs.YtahkjagjcogeiaaDoor
/- climb.way: the way between two places. -/
namespace Go.Proofs.YtahkjagjcogeiaaDoor
open Go.RowKit Go.Shelf
set_option linter.unusedVariables false

def wayE (t : Town) (u v : Int) (dk : Bool) : Int := if askE t [u, v] = 0 then (if (best t dk freeP u v).isSome then 0 else 6) else askE t [u, v]
def wayR (t : Town) (u v : Int) (dk : Bool) : Option (Cost × List Int) := if askE t [u, v] = 0 then best t dk freeP u v else none
def WayOut (w : World) (v : Int) (r : Option (Cost × List Int)) (e : Int) (x : Ending) (w' : World) : Prop :=
  ∃ (to : Int) (co : Cost) (A : Option Addr) (n c : Nat), x = .returned (.tuple #[.agg #[.int .i64 to, .int .i64 co.a, .int .i64 co.b, .int .i64 co.c, .int .i64 co.d, .slice A n c], .int .i64 e]) ∧ (r = none → to = 0 ∧ co = zeroC ∧ A = none ∧ n = 0 ∧ c = 0) ∧
    (∀ q, r = some q → co = q.1 ∧ IntsAt w' w'.heap.size A n q.2 ∧ n ≤ 9 ∧ to = v) ∧ (∀ a, A = some a → ∃ cs, Blk w' a.block 3 cs) ∧ Below w.heap.size w w'

set_option maxRecDepth 100000 in
set_option maxHeartbeats 16000000 in
theorem way_in (A : Option Addr) (n c : Nat) (A' : Option Addr) (m d : Nat) (t : Town) (u v : Int) (dk : Bool) (w : World)
    (hn : n ≤ 1000) (hm : m ≤ 1000) (ht : TownAt w w.heap.size A n A' m t) (hL : Laid w) :
    CallsIn Fence.wide 9 Tryd.prog 79 #[.agg #[.slice A n c, .slice A' m d], .int .i64 u, .int .i64 v, .bool dk] w (WayOut w v (wayR t u v dk) (wayE t u v dk)) := by
  have HT := Lib.hid ht
  have HL := Lib.hid hL
  have hl0 := hL.2.2.2
  clear ht hL
  refine callsIn_of_wp Tryd.func79 rfl trivial ?_ rfl
  simp only [Tryd.ntmps79, List.size_toArray, List.length_cons, List.length_nil, Nat.reduceAdd, Nat.reduceSub, Array.replicate_succ, Array.replicate_zero, List.push_toArray, List.append_toArray, List.nil_append, List.cons_append]
  gi_wp2
  have HLay := Lib.hid (Lay.three w 25 #[.slice A n c, .slice A' m d] 111 #[.int .i64 0, .int .i64 0, .int .i64 0, .int .i64 0, .int .i64 0, .slice none 0 0] 3 #[.int .i64 u, .int .i64 v])
  generalize (((w.alloc (.cells #[.slice A n c, .slice A' m d] 25)).alloc (.cells #[.int .i64 0, .int .i64 0, .int .i64 0, .int .i64 0, .int .i64 0, .slice none 0 0] 111)).alloc (.cells #[.int .i64 u, .int .i64 v] 3)) = w0 at *
  have HUV0 := Lib.hid (show IntsAt w0 w0.heap.size (some ⟨w.heap.size + 1 + 1, 0, none⟩) 2 [u, v] from two_ints (HLay.out.blk 2 rfl))
  refine ⟨trivial, (callsIn_wide.2 (asked_any A n c A' m d t (some ⟨w.heap.size + 1 + 1, 0, none⟩) 2 2 [u, v] w0 (by unfold maxLen; omega) (by unfold maxLen; omega) (by decide) ((HT.out.below HLay.out.1).more HLay.out.1.size) HUV0.out (HL.out.below HLay.out.1 hl0))).mono ?_⟩
  rintro e W1 ⟨rfl, hb⟩
  replace HLay := Lib.hid (HLay.out.below hb)
  clear hb
  obtain ⟨ee, hee⟩ : ∃ ee, askE t [u, v] = ee := ⟨_, rfl⟩
  rw [hee]
  have HEE := Lib.hid hee
  clear hee
  have x0_0 := (HLay.out.blk 0 rfl).cell 0
  have x0_1 := (HLay.out.blk 0 rfl).cell 1
  have l0_ := HLay.out.lt 0 rfl
  have x1_0 := (HLay.out.blk 1 rfl).cell 0
  have z1_0 := (HLay.out.blk 1 rfl).frozen 0
  have x1_1 := (HLay.out.blk 1 rfl).cell 1
  have z1_1 := (HLay.out.blk 1 rfl).frozen 1
  have x1_2 := (HLay.out.blk 1 rfl).cell 2
  have z1_2 := (HLay.out.blk 1 rfl).frozen 2
  have x1_3 := (HLay.out.blk 1 rfl).cell 3
  have z1_3 := (HLay.out.blk 1 rfl).frozen 3
  have x1_4 := (HLay.out.blk 1 rfl).cell 4
  have z1_4 := (HLay.out.blk 1 rfl).frozen 4
  have x1_5 := (HLay.out.blk 1 rfl).cell 5
  have z1_5 := (HLay.out.blk 1 rfl).frozen 5
  have l1_ := HLay.out.lt 1 rfl
  by_cases h0 : ee = 0
  · subst h0
    obtain ⟨htb, hhas⟩ := askE_zero HEE.out
    have HG := Lib.hid (goodT htb)
    have HUV := Lib.hid (hasB_mem hhas)
    have hm20 : m ≤ 20 := by have := HG.out.links; have := HT.out.links.len; omega
    clear htb hhas
    gi_wp2
    refine ⟨trivial, (callsIn_wide.2 (callsIn_wide.1 (all_in A n c A' m d dk _ _ freeP t u W1 hm20 ((HT.out.links.below HLay.out.1).more HLay.out.1.size) (free_price W1) HG.out.fine freeP_fair (HUV.out u (by simp)) HG.out.ids))).mono ?_⟩
    rintro e W2 ⟨r, ms, rfl, hms, hrr, hoks, hfn, hb⟩
    replace HLay := Lib.hid (HLay.out.below hb)
    clear hb
    have HMS := Lib.hid hms
    have HOKS := Lib.hid hoks
    have HFN := Lib.hid hfn
    clear hms hrr hoks hfn
    clear x0_0 x0_1 l0_ x1_0 z1_0 x1_1 z1_1 x1_2 z1_2 x1_3 z1_3 x1_4 z1_4 x1_5 z1_5 l1_
    have HOV := Lib.hid (show okI v from okI_of (by have := HG.out.ids v (HUV.out v (by simp)); omega) (by have := HG.out.ids v (HUV.out v (by simp)); omega))
    have hlook := HMS.out.lookup wkTy HOV.out true
    have x0_0 := (HLay.out.blk 0 rfl).cell 0
    have x0_1 := (HLay.out.blk 0 rfl).cell 1
    have l0_ := HLay.out.lt 0 rfl
    have x1_0 := (HLay.out.blk 1 rfl).cell 0
    have z1_0 := (HLay.out.blk 1 rfl).frozen 0
    have x1_1 := (HLay.out.blk 1 rfl).cell 1
    have z1_1 := (HLay.out.blk 1 rfl).frozen 1
    have x1_2 := (HLay.out.blk 1 rfl).cell 2
    have z1_2 := (HLay.out.blk 1 rfl).frozen 2
    have x1_3 := (HLay.out.blk 1 rfl).cell 3
    have z1_3 := (HLay.out.blk 1 rfl).frozen 3
    have x1_4 := (HLay.out.blk 1 rfl).cell 4
    have z1_4 := (HLay.out.blk 1 rfl).frozen 4
    have x1_5 := (HLay.out.blk 1 rfl).cell 5
    have z1_5 := (HLay.out.blk 1 rfl).frozen 5
    have l1_ := HLay.out.lt 1 rfl
    cases hlk : look ms v with
    | none =>
      rw [hlk] at hlook
      simp only [if_true] at hlook
      have HLK := Lib.hid hlk
      clear hlk
      have HBE : Hid (best t dk freeP u v = none) := Lib.hid (by rw [← HFN.out v]; unfold fnOf; rw [HLK.out]; rfl)
      gi_wp2
      have R1 := ret6' (HLay.out.blk 1 rfl) HLay.out.1 (by omega) (.int .i64 0) (.int .i64 0) (.int .i64 0) (.int .i64 0) (.int .i64 0) (.slice none 0 0)
      have R2 := R1.1.alloc (.cells #[.int .i64 0, .int .i64 0, .int .i64 0, .int .i64 0, .int .i64 0, .slice none 0 0] 111)
      have y0 := R2.cell 0
      have y1 := R2.cell 1
      have y2 := R2.cell 2
      have y3 := R2.cell 3
      have y4 := R2.cell 4
      have y5 := R2.cell 5
      refine bodyPost_ret (v := .tuple #[.agg #[.int .i64 0, .int .i64 0, .int .i64 0, .int .i64 0, .int .i64 0, .slice none 0 0], .int .i64 6]) (by simp [results, Tryd.results79, go_sem, y0, y1, y2, y3, y4, y5]) rfl ?_
      have he : wayE t u v dk = 6 := by unfold wayE; rw [if_pos HEE.out, HBE.out]; rfl
      have hr : wayR t u v dk = none := by unfold wayR; rw [if_pos HEE.out, HBE.out]
      rw [he, hr]
      exact ⟨0, zeroC, none, 0, 0, rfl, fun _ => ⟨rfl, rfl, rfl, rfl, rfl⟩, (fun q hq => by cases hq), (fun a ha => by cases ha), R1.2.1.alloc R1.2.1.size _⟩
    | some x =>
      rw [hlk] at hlook
      simp only [if_true] at hlook
      have HLK := Lib.hid hlk
      clear hlk
      have HBE : Hid (best t dk freeP u v = some (x.cost, x.links)) := Lib.hid (by rw [← HFN.out v]; unfold fnOf; rw [HLK.out]; rfl)
      have HXO := Lib.hid (HOKS.out _ (look_mem HLK.out))
      gi_wp2
      have R1 := ret6' (HLay.out.blk 1 rfl) HLay.out.1 (by omega) (.int .i64 x.to) (.int .i64 x.cost.a) (.int .i64 x.cost.b) (.int .i64 x.cost.c) (.int .i64 x.cost.d) (.slice x.A x.n x.cap)
      have R2 := R1.1.alloc (.cells #[.int .i64 x.to, .int .i64 x.cost.a, .int .i64 x.cost.b, .int .i64 x.cost.c, .int .i64 x.cost.d, .slice x.A x.n x.cap] 111)
      have HX2 := HXO.out.grownBox R1.2.2 (HLay.out.blk 1 rfl)
      have HX3 := HX2.below ((Below.refl _ _).alloc (Nat.le_refl _) (.cells #[.int .i64 x.to, .int .i64 x.cost.a, .int .i64 x.cost.b, .int .i64 x.cost.c, .int .i64 x.cost.d, .slice x.A x.n x.cap] 111))
      have y0 := R2.cell 0
      have y1 := R2.cell 1
      have y2 := R2.cell 2
      have y3 := R2.cell 3
      have y4 := R2.cell 4
      have y5 := R2.cell 5
      refine bodyPost_ret (v := .tuple #[.agg #[.int .i64 x.to, .int .i64 x.cost.a, .int .i64 x.cost.b, .int .i64 x.cost.c, .int .i64 x.cost.d, .slice x.A x.n x.cap], .int .i64 0]) (by simp [results, Tryd.results79, go_sem, y0, y1, y2, y3, y4, y5]) rfl ?_
      have he : wayE t u v dk = 0 := by unfold wayE; rw [if_pos HEE.out, HBE.out]; rfl
      have hr : wayR t u v dk = some (x.cost, x.links) := by unfold wayR; rw [if_pos HEE.out, HBE.out]
      rw [he, hr]
      exact ⟨x.to, x.cost, x.A, x.n, x.cap, rfl, (fun h => by cases h), (fun q hq => by cases hq; exact ⟨rfl, HX3.at_, HX3.short, HX3.to⟩), (fun a ha => HX3.typ a ha), R1.2.1.alloc R1.2.1.size _⟩
  · have h1 : (ee != 0) = true := by simpa using h0
    have HE0 := Lib.hid h0
    clear h0
    gi_wp2
    have R1 := ret6' (HLay.out.blk 1 rfl) HLay.out.1 (by omega) (.int .i64 0) (.int .i64 0) (.int .i64 0) (.int .i64 0) (.int .i64 0) (.slice none 0 0)
    have y0 := R1.1.cell 0
    have y1 := R1.1.cell 1
    have y2 := R1.1.cell 2
    have y3 := R1.1.cell 3
    have y4 := R1.1.cell 4
    have y5 := R1.1.cell 5
    refine bodyPost_ret (v := .tuple #[.agg #[.int .i64 0, .int .i64 0, .int .i64 0, .int .i64 0, .int .i64 0, .slice none 0 0], .int .i64 (ee)]) (by simp [results, Tryd.results79, go_sem, y0, y1, y2, y3, y4, y5]) rfl ?_
    have he : wayE t u v dk = ee := by unfold wayE; rw [HEE.out, if_neg HE0.out]
    have hr : wayR t u v dk = none := by unfold wayR; rw [HEE.out, if_neg HE0.out]
    rw [he, hr]
    exact ⟨0, zeroC, none, 0, 0, rfl, fun _ => ⟨rfl, rfl, rfl, rfl, rfl⟩, (fun q hq => by cases hq), (fun a ha => by cases ha), R1.2.1⟩

theorem way_any (A : Option Addr) (n c : Nat) (A' : Option Addr) (m d : Nat) (t : Town) (u v : Int) (dk : Bool) (w : World)
    (hn : n ≤ 1000) (hm : m ≤ 1000) (ht : TownAt w w.heap.size A n A' m t) (hL : Laid w) :
    Calls Tryd.prog 79 #[.agg #[.slice A n c, .slice A' m d], .int .i64 u, .int .i64 v, .bool dk] w (WayOut w v (wayR t u v dk) (wayE t u v dk)) :=
  callsIn_wide.1 (way_in A n c A' m d t u v dk w hn hm ht hL)
end Go.Proofs.YtahkjagjcogeiaaDoor
/- climb.Way: the way between two places. -/
namespace Go.Proofs.YtahkjagjcogeiaaDoor
open Go.RowKit Go.Shelf
set_option linter.unusedVariables false

def wayL (t : Town) (u v : Int) (dk : Bool) : List Int := match wayR t u v dk with
  | some q => q.2
  | none => []
def wayT (t : Town) (u v : Int) (dk : Bool) : Int × Int := match wayR t u v dk with
  | some q => (q.1.b, q.1.c)
  | none => (0, 0)
theorem way_bad {t : Town} {u v e : Int} {dk : Bool} (h : askE t [u, v] = e) (h0 : e ≠ 0) : wayE t u v dk = e ∧ wayL t u v dk = [] ∧ wayT t u v dk = (0, 0) := by
  unfold wayL wayT wayE wayR
  rw [h, if_neg h0, if_neg h0]
  exact ⟨rfl, rfl, rfl⟩
theorem way_none {t : Town} {u v : Int} {dk : Bool} (h : askE t [u, v] = 0) (hb : best t dk freeP u v = none) : wayE t u v dk = 6 ∧ wayL t u v dk = [] ∧ wayT t u v dk = (0, 0) := by
  unfold wayL wayT wayE wayR
  rw [if_pos h, if_pos h, hb]
  exact ⟨rfl, rfl, rfl⟩
theorem way_some {t : Town} {u v : Int} {dk : Bool} {c : Cost} {l : List Int} (h : askE t [u, v] = 0) (hb : best t dk freeP u v = some (c, l)) : wayE t u v dk = 0 ∧ wayL t u v dk = l ∧ wayT t u v dk = (c.b, c.c) := by
  unfold wayL wayT wayE wayR
  rw [if_pos h, if_pos h, hb]
  exact ⟨rfl, rfl, rfl⟩
def ListOut (w : World) (l : List Int) (e : Int) (x : Ending) (w' : World) : Prop := ∃ (A : Option Addr) (n c : Nat), x = .returned (.tuple #[.slice A n c, .int .i64 e]) ∧ IntsAt w' w'.heap.size A n l ∧ Below w.heap.size w w'
def ToilOut (w : World) (q : Int × Int) (e : Int) (x : Ending) (w' : World) : Prop := x = .returned (.tuple #[.agg #[.int .i64 q.1, .int .i64 q.2], .int .i64 e]) ∧ Below w.heap.size w w'

set_option maxRecDepth 100000 in
set_option maxHeartbeats 16000000 in
theorem wayl_in (A : Option Addr) (n c : Nat) (A' : Option Addr) (m d : Nat) (t : Town) (u v : Int) (dk : Bool) (w : World)
    (hn : n ≤ 1000) (hm : m ≤ 1000) (ht : TownAt w w.heap.size A n A' m t) (hL : Laid w) :
    CallsIn Fence.wide 9 Tryd.prog 33 #[.agg #[.slice A n c, .slice A' m d], .int .i64 u, .int .i64 v, .bool dk] w (ListOut w (wayL t u v dk) (wayE t u v dk)) := by
  have HT := Lib.hid ht
  have HL := Lib.hid hL
  have hl0 := hL.2.2.2
  clear ht hL
  refine callsIn_of_wp Tryd.func33 rfl trivial ?_ rfl
  simp only [Tryd.ntmps33, List.size_toArray, List.length_cons, List.length_nil, Nat.reduceAdd, Nat.reduceSub, Array.replicate_succ, Array.replicate_zero, List.push_toArray, List.append_toArray, List.nil_append, List.cons_append]
  gi_wp2
  have HLay := Lib.hid (Lay.one w 25 #[.slice A n c, .slice A' m d])
  generalize (w.alloc (.cells #[.slice A n c, .slice A' m d] 25)) = w0 at *
  refine ⟨trivial, (callsIn_wide.2 (way_any A n c A' m d t u v dk w0 hn hm ((HT.out.below HLay.out.1).more HLay.out.1.size) (HL.out.below HLay.out.1 hl0))).mono ?_⟩
  rintro e W1 ⟨to, co, AW, nW, cW, rfl, hno, hq, hty, hb⟩
  replace HLay := Lib.hid (HLay.out.below hb)
  clear hb
  have HQ := Lib.hid hq
  have HNO := Lib.hid hno
  clear hty hno hq
  gi_wp2
  refine bodyPost_ret (v := .tuple #[.slice AW nW cW, .int .i64 (wayE t u v dk)]) (by simp [results, Tryd.results33, go_sem]) rfl ?_
  have hb := (Below.refl W1.heap.size W1).alloc (Nat.le_refl _) (.cells #[.int .i64 to, .int .i64 co.a, .int .i64 co.b, .int .i64 co.c, .int .i64 co.d, .slice AW nW cW] 111)
  have hin : IntsAt W1 W1.heap.size AW nW (wayL t u v dk) := by
    unfold wayL
    cases hr : wayR t u v dk with
    | none => obtain ⟨_, _, rfl, rfl, rfl⟩ := HNO.out hr; exact Reads.none_
    | some q => exact (HQ.out q hr).2.1
  exact ⟨AW, nW, cW, rfl, (hin.below hb).more hb.size, HLay.out.1.alloc HLay.out.1.size _⟩

theorem wayl_any (A : Option Addr) (n c : Nat) (A' : Option Addr) (m d : Nat) (t : Town) (u v : Int) (dk : Bool) (w : World)
    (hn : n ≤ 1000) (hm : m ≤ 1000) (ht : TownAt w w.heap.size A n A' m t) (hL : Laid w) :
    Calls Tryd.prog 33 #[.agg #[.slice A n c, .slice A' m d], .int .i64 u, .int .i64 v, .bool dk] w (ListOut w (wayL t u v dk) (wayE t u v dk)) :=
  callsIn_wide.1 (wayl_in A n c A' m d t u v dk w hn hm ht hL)
end Go.Proofs.YtahkjagjcogeiaaDoor
/- The answer's Way. -/
namespace Go.Proofs.YtahkjagjcogeiaaDoor
open Go.RowKit Go.Shelf
set_option linter.unusedVariables false

set_option maxRecDepth 100000 in
set_option maxHeartbeats 16000000 in
theorem rwayl_in (A : Option Addr) (n c : Nat) (A' : Option Addr) (m d : Nat) (t : Town) (u v : Int) (dk : Bool) (w : World)
    (hn : n ≤ 1000) (hm : m ≤ 1000) (ht : TownAt w w.heap.size A n A' m t) :
    CallsIn Fence.wide 9 Tryd.prog 34 #[.agg #[.slice A n c, .slice A' m d], .int .i64 u, .int .i64 v, .bool dk] w (ListOut w (wayL t u v dk) (wayE t u v dk)) := by
  have HT := Lib.hid ht
  clear ht
  refine callsIn_of_wp Tryd.func34 rfl trivial ?_ rfl
  simp only [Tryd.ntmps34, List.size_toArray, List.length_cons, List.length_nil, Nat.reduceAdd, Nat.reduceSub, Array.replicate_succ, Array.replicate_zero, List.push_toArray, List.append_toArray, List.nil_append, List.cons_append]
  gi_wp2
  have HLay := Lib.hid (Lay.one w 25 #[.slice A n c, .slice A' m d])
  generalize (w.alloc (.cells #[.slice A n c, .slice A' m d] 25)) = w0 at *
  refine ⟨trivial, (callsIn_wide.2 (rasked_any A n c A' m d t u v w0 hn hm ((HT.out.below HLay.out.1).more HLay.out.1.size))).mono ?_⟩
  rintro e W1 ⟨rfl, hb⟩
  replace HLay := Lib.hid (HLay.out.below hb)
  clear hb
  obtain ⟨ea, hea⟩ : ∃ ea, askE t [u, v] = ea := ⟨_, rfl⟩
  rw [hea]
  have HEA := Lib.hid hea
  clear hea
  have x0_0 := (HLay.out.blk 0 rfl).cell 0
  have x0_1 := (HLay.out.blk 0 rfl).cell 1
  have l0_ := HLay.out.lt 0 rfl
  by_cases h0 : ea = 0
  · subst h0
    obtain ⟨htb, hhas⟩ := askE_zero HEA.out
    have HG := Lib.hid (goodT htb)
    have HUV := Lib.hid (hasB_mem hhas)
    have hm20 : m ≤ 20 := by have := HG.out.links; have := HT.out.links.len; omega
    clear htb hhas
    gi_wp2
    clear x0_0 x0_1 l0_
    refine ⟨trivial, (callsIn_wide.2 (rfirst_any A n c A' m d freeP t dk u v W1 hm20 ((HT.out.places.below HLay.out.1).more HLay.out.1.size) ((HT.out.links.below HLay.out.1).more HLay.out.1.size) freeP_cheap HG.out.fine freeP_fair HG.out.nodup (HUV.out u (by simp)))).mono ?_⟩
    rintro e W2 ⟨AO, nO, cO, co, rfl, hno, hq, hfr, hb⟩
    replace HLay := Lib.hid (HLay.out.below hb)
    clear hb
    have HNO := Lib.hid hno
    have HQ := Lib.hid hq
    clear hno hq hfr
    obtain ⟨rr, hrr⟩ : ∃ rr, best t dk freeP u v = rr := ⟨_, rfl⟩
    rw [hrr] at HNO HQ ⊢
    have HBE := Lib.hid hrr
    clear hrr
    cases rr with
    | none =>
      obtain ⟨rfl, rfl, rfl, rfl⟩ := HNO.out rfl
      have x0_0 := (HLay.out.blk 0 rfl).cell 0
      have x0_1 := (HLay.out.blk 0 rfl).cell 1
      have l0_ := HLay.out.lt 0 rfl
      gi_wp2
      clear x0_0 x0_1 l0_
      obtain ⟨e1, e2, e3⟩ := way_none (t := t) (u := u) (v := v) (dk := dk) HEA.out HBE.out
      refine bodyPost_ret (v := .tuple #[.slice none 0 0, .int .i64 6]) (by simp [results, Tryd.results34, go_sem]) rfl ?_
      rw [e1, e2]
      exact ⟨none, 0, 0, rfl, Reads.none_, HLay.out.1.alloc HLay.out.1.size _⟩
    | some q0 =>
      obtain ⟨q1, l⟩ := q0
      obtain ⟨rfl, hql⟩ := HQ.out _ rfl
      have HQL := Lib.hid (show IntsAt W2 W2.heap.size AO nO l from hql)
      clear hql
      have x0_0 := (HLay.out.blk 0 rfl).cell 0
      have x0_1 := (HLay.out.blk 0 rfl).cell 1
      have l0_ := HLay.out.lt 0 rfl
      gi_wp2
      clear x0_0 x0_1 l0_
      obtain ⟨e1, e2, e3⟩ := way_some (t := t) (u := u) (v := v) (dk := dk) HEA.out HBE.out
      refine bodyPost_ret (v := .tuple #[.slice AO nO cO, .int .i64 0]) (by simp [results, Tryd.results34, go_sem]) rfl ?_
      rw [e1, e2]
      have hb := (Below.refl W2.heap.size W2).alloc (Nat.le_refl _) (.cells #[.int .i64 q1.a, .int .i64 q1.b, .int .i64 q1.c, .int .i64 q1.d] 103)
      exact ⟨AO, nO, cO, rfl, (HQL.out.below hb).more hb.size, HLay.out.1.alloc HLay.out.1.size _⟩
  · have h1 : (ea != 0) = true := by simpa using h0
    have HE0 := Lib.hid h0
    clear h0
    gi_wp2
    clear x0_0 x0_1 l0_
    obtain ⟨e1, e2, e3⟩ := way_bad (t := t) (u := u) (v := v) (dk := dk) HEA.out HE0.out
    refine bodyPost_ret (v := .tuple #[.slice none 0 0, .int .i64 ea]) (by simp [results, Tryd.results34, go_sem]) rfl ?_
    rw [e1, e2]
    exact ⟨none, 0, 0, rfl, Reads.none_, HLay.out.1⟩

theorem rwayl_any (A : Option Addr) (n c : Nat) (A' : Option Addr) (m d : Nat) (t : Town) (u v : Int) (dk : Bool) (w : World)
    (hn : n ≤ 1000) (hm : m ≤ 1000) (ht : TownAt w w.heap.size A n A' m t) :
    Calls Tryd.prog 34 #[.agg #[.slice A n c, .slice A' m d], .int .i64 u, .int .i64 v, .bool dk] w (ListOut w (wayL t u v dk) (wayE t u v dk)) :=
  callsIn_wide.1 (rwayl_in A n c A' m d t u v dk w hn hm ht)
end Go.Proofs.YtahkjagjcogeiaaDoor
/- The answer's Toil. -/
namespace Go.Proofs.YtahkjagjcogeiaaDoor
open Go.RowKit Go.Shelf
set_option linter.unusedVariables false

set_option maxRecDepth 100000 in
set_option maxHeartbeats 16000000 in
theorem rtoil_in (A : Option Addr) (n c : Nat) (A' : Option Addr) (m d : Nat) (t : Town) (u v : Int) (dk : Bool) (w : World)
    (hn : n ≤ 1000) (hm : m ≤ 1000) (ht : TownAt w w.heap.size A n A' m t) :
    CallsIn Fence.wide 9 Tryd.prog 36 #[.agg #[.slice A n c, .slice A' m d], .int .i64 u, .int .i64 v, .bool dk] w (ToilOut w (wayT t u v dk) (wayE t u v dk)) := by
  have HT := Lib.hid ht
  clear ht
  refine callsIn_of_wp Tryd.func36 rfl trivial ?_ rfl
  simp only [Tryd.ntmps36, List.size_toArray, List.length_cons, List.length_nil, Nat.reduceAdd, Nat.reduceSub, Array.replicate_succ, Array.replicate_zero, List.push_toArray, List.append_toArray, List.nil_append, List.cons_append]
  gi_wp2
  have HLay := Lib.hid (Lay.two w 25 #[.slice A n c, .slice A' m d] 59 #[.int .i64 0, .int .i64 0])
  generalize ((w.alloc (.cells #[.slice A n c, .slice A' m d] 25)).alloc (.cells #[.int .i64 0, .int .i64 0] 59)) = w0 at *
  refine ⟨trivial, (callsIn_wide.2 (rasked_any A n c A' m d t u v w0 hn hm ((HT.out.below HLay.out.1).more HLay.out.1.size))).mono ?_⟩
  rintro e W1 ⟨rfl, hb⟩
  replace HLay := Lib.hid (HLay.out.below hb)
  clear hb
  obtain ⟨ea, hea⟩ : ∃ ea, askE t [u, v] = ea := ⟨_, rfl⟩
  rw [hea]
  have HEA := Lib.hid hea
  clear hea
  have x0_0 := (HLay.out.blk 0 rfl).cell 0
  have x0_1 := (HLay.out.blk 0 rfl).cell 1
  have l0_ := HLay.out.lt 0 rfl
  have x1_0 := (HLay.out.blk 1 rfl).cell 0
  have z1_0 := (HLay.out.blk 1 rfl).frozen 0
  have x1_1 := (HLay.out.blk 1 rfl).cell 1
  have z1_1 := (HLay.out.blk 1 rfl).frozen 1
  have l1_ := HLay.out.lt 1 rfl
  by_cases h0 : ea = 0
  · subst h0
    obtain ⟨htb, hhas⟩ := askE_zero HEA.out
    have HG := Lib.hid (goodT htb)
    have HUV := Lib.hid (hasB_mem hhas)
    have hm20 : m ≤ 20 := by have := HG.out.links; have := HT.out.links.len; omega
    clear htb hhas
    gi_wp2
    clear x0_0 x0_1 l0_ x1_0 z1_0 x1_1 z1_1 l1_
    refine ⟨trivial, (callsIn_wide.2 (rfirst_any A n c A' m d freeP t dk u v W1 hm20 ((HT.out.places.below HLay.out.1).more HLay.out.1.size) ((HT.out.links.below HLay.out.1).more HLay.out.1.size) freeP_cheap HG.out.fine freeP_fair HG.out.nodup (HUV.out u (by simp)))).mono ?_⟩
    rintro e W2 ⟨AO, nO, cO, co, rfl, hno, hq, hfr, hb⟩
    replace HLay := Lib.hid (HLay.out.below hb)
    clear hb
    have HNO := Lib.hid hno
    have HQ := Lib.hid hq
    clear hno hq hfr
    obtain ⟨rr, hrr⟩ : ∃ rr, best t dk freeP u v = rr := ⟨_, rfl⟩
    rw [hrr] at HNO HQ ⊢
    have HBE := Lib.hid hrr
    clear hrr
    cases rr with
    | none =>
      obtain ⟨rfl, rfl, rfl, rfl⟩ := HNO.out rfl
      have x0_0 := (HLay.out.blk 0 rfl).cell 0
      have x0_1 := (HLay.out.blk 0 rfl).cell 1
      have l0_ := HLay.out.lt 0 rfl
      have x1_0 := (HLay.out.blk 1 rfl).cell 0
      have z1_0 := (HLay.out.blk 1 rfl).frozen 0
      have x1_1 := (HLay.out.blk 1 rfl).cell 1
      have z1_1 := (HLay.out.blk 1 rfl).frozen 1
      have l1_ := HLay.out.lt 1 rfl
      gi_wp2
      clear x0_0 x0_1 l0_ x1_0 z1_0 x1_1 z1_1 l1_
      obtain ⟨e1, e2, e3⟩ := way_none (t := t) (u := u) (v := v) (dk := dk) HEA.out HBE.out
      have R1 := ret2 (HLay.out.blk 1 rfl) HLay.out.1 (by omega) (.int .i64 (0)) (.int .i64 (0))
      have R2 := R1.1.alloc (.cells #[.int .i64 zeroC.a, .int .i64 zeroC.b, .int .i64 zeroC.c, .int .i64 zeroC.d] 103)
      have y0 := R2.cell 0
      have y1 := R2.cell 1
      exact bodyPost_ret (v := .tuple #[.agg #[.int .i64 (0), .int .i64 (0)], .int .i64 6]) (by simp [results, Tryd.results36, go_sem, y0, y1]) rfl ⟨by rw [e1, e3], R1.2.alloc R1.2.size _⟩
    | some q0 =>
      obtain ⟨q1, l⟩ := q0
      obtain ⟨rfl, hql⟩ := HQ.out _ rfl
      have HQL := Lib.hid (show IntsAt W2 W2.heap.size AO nO l from hql)
      clear hql
      have x0_0 := (HLay.out.blk 0 rfl).cell 0
      have x0_1 := (HLay.out.blk 0 rfl).cell 1
      have l0_ := HLay.out.lt 0 rfl
      have x1_0 := (HLay.out.blk 1 rfl).cell 0
      have z1_0 := (HLay.out.blk 1 rfl).frozen 0
      have x1_1 := (HLay.out.blk 1 rfl).cell 1
      have z1_1 := (HLay.out.blk 1 rfl).frozen 1
      have l1_ := HLay.out.lt 1 rfl
      gi_wp2
      clear x0_0 x0_1 l0_ x1_0 z1_0 x1_1 z1_1 l1_
      obtain ⟨e1, e2, e3⟩ := way_some (t := t) (u := u) (v := v) (dk := dk) HEA.out HBE.out
      have R1 := ret2 (HLay.out.blk 1 rfl) HLay.out.1 (by omega) (.int .i64 (q1.b)) (.int .i64 (q1.c))
      have R2 := R1.1.alloc (.cells #[.int .i64 q1.a, .int .i64 q1.b, .int .i64 q1.c, .int .i64 q1.d] 103)
      have y0 := R2.cell 0
      have y1 := R2.cell 1
      exact bodyPost_ret (v := .tuple #[.agg #[.int .i64 (q1.b), .int .i64 (q1.c)], .int .i64 0]) (by simp [results, Tryd.results36, go_sem, y0, y1]) rfl ⟨by rw [e1, e3], R1.2.alloc R1.2.size _⟩
  · have h1 : (ea != 0) = true := by simpa using h0
    have HE0 := Lib.hid h0
    clear h0
    gi_wp2
    clear x0_0 x0_1 l0_ x1_0 z1_0 x1_1 z1_1 l1_
    obtain ⟨e1, e2, e3⟩ := way_bad (t := t) (u := u) (v := v) (dk := dk) HEA.out HE0.out
    have R1 := ret2 (HLay.out.blk 1 rfl) HLay.out.1 (by omega) (.int .i64 (0)) (.int .i64 (0))
    have y0 := R1.1.cell 0
    have y1 := R1.1.cell 1
    exact bodyPost_ret (v := .tuple #[.agg #[.int .i64 (0), .int .i64 (0)], .int .i64 ea]) (by simp [results, Tryd.results36, go_sem, y0, y1]) rfl ⟨by rw [e1, e3], R1.2⟩

theorem rtoil_any (A : Option Addr) (n c : Nat) (A' : Option Addr) (m d : Nat) (t : Town) (u v : Int) (dk : Bool) (w : World)
    (hn : n ≤ 1000) (hm : m ≤ 1000) (ht : TownAt w w.heap.size A n A' m t) :
    Calls Tryd.prog 36 #[.agg #[.slice A n c, .slice A' m d], .int .i64 u, .int .i64 v, .bool dk] w (ToilOut w (wayT t u v dk) (wayE t u v dk)) :=
  callsIn_wide.1 (rtoil_in A n c A' m d t u v dk w hn hm ht)
end Go.Proofs.YtahkjagjcogeiaaDoor
/- The answer's Has. -/
namespace Go.Proofs.YtahkjagjcogeiaaDoor
open Go.RowKit Go.Shelf
set_option linter.unusedVariables false

set_option maxRecDepth 100000 in
set_option maxHeartbeats 16000000 in
theorem rhas_in (A : Option Addr) (n c : Nat) (A' : Option Addr) (m d : Nat) (t : Town) (u v : Int) (dk : Bool) (w : World)
    (hm : m ≤ 20) (ht : TownAt w w.heap.size A n A' m t) (hg : GoodT t) (hu : u ∈ t.places) :
    CallsIn Fence.wide 9 Tryd.prog 73 #[.agg #[.slice A n c, .slice A' m d], .int .i64 u, .int .i64 v, .bool dk] w (fun x w' => x = .returned (.bool (best t dk freeP u v).isSome) ∧ Below w.heap.size w w') := by
  have HT := Lib.hid ht
  have HG := Lib.hid hg
  clear ht hg
  refine callsIn_of_wp Tryd.func73 rfl trivial ?_ rfl
  simp only [Tryd.ntmps73, List.size_toArray, List.length_cons, List.length_nil, Nat.reduceAdd, Nat.reduceSub, Array.replicate_succ, Array.replicate_zero, List.push_toArray, List.append_toArray, List.nil_append, List.cons_append]
  gi_wp2
  have HLay := Lib.hid (Lay.one w 25 #[.slice A n c, .slice A' m d])
  generalize (w.alloc (.cells #[.slice A n c, .slice A' m d] 25)) = w0 at *
  refine ⟨trivial, (callsIn_wide.2 (rfirst_any A n c A' m d freeP t dk u v w0 hm ((HT.out.places.below HLay.out.1).more HLay.out.1.size) ((HT.out.links.below HLay.out.1).more HLay.out.1.size) freeP_cheap HG.out.fine freeP_fair HG.out.nodup hu)).mono ?_⟩
  rintro e W1 ⟨AO, nO, cO, co, rfl, hno, hq, hfr, hb⟩
  replace HLay := Lib.hid (HLay.out.below hb)
  clear hb
  clear hno hq hfr
  gi_wp2
  exact bodyPost_ret (v := .bool (best t dk freeP u v).isSome) (by simp [results, Tryd.results73, go_sem]) rfl ⟨rfl, HLay.out.1.alloc HLay.out.1.size _⟩

theorem rhas_any (A : Option Addr) (n c : Nat) (A' : Option Addr) (m d : Nat) (t : Town) (u v : Int) (dk : Bool) (w : World)
    (hm : m ≤ 20) (ht : TownAt w w.heap.size A n A' m t) (hg : GoodT t) (hu : u ∈ t.places) :
    Calls Tryd.prog 73 #[.agg #[.slice A n c, .slice A' m d], .int .i64 u, .int .i64 v, .bool dk] w (fun x w' => x = .returned (.bool (best t dk freeP u v).isSome) ∧ Below w.heap.size w w') :=
  callsIn_wide.1 (rhas_in A n c A' m d t u v dk w hm ht hg hu)
end Go.Proofs.YtahkjagjcogeiaaDoor
/- slices.Sort at ints, twelve or fewer: what lies there, sorted. (The walk of the insertion sort: the library's own worked walk, turned to this program.) -/
namespace Go.Proofs.YtahkjagjcogeiaaDoor
open Go.RowKit Go.Sort
set_option linter.unusedVariables false

theorem less_int (x y : Int) (w : World) : Calls Tryd.prog 151 #[.int .i64 x, .int .i64 y] w fun e w' => e = .returned (.bool (Sort.ltInt x y)) ∧ w' = w := by
  go_enter Tryd.func151, Tryd.ntmps151
  go_wp2_with (go_at_call 122; refine (isNaN_int _ _).mono ?_; rintro e w' ⟨rfl, rfl⟩)
  go_ret
  exact ⟨rfl, rfl⟩

set_option maxHeartbeats 4000000 in
theorem insertion_int (blk off cap a b : Nat) (d : Array Int) (w : World) (hH : Holds (Value.int .i64) w blk off d) (hab : a ≤ b) (hb : b ≤ d.size) (hsz : d.size < 4611686018427387904) :
    Calls Tryd.prog 145 #[.slice (some ⟨blk, off, none⟩) d.size cap, .int .i64 a, .int .i64 b] w fun e w' =>
      e = .returned (.tuple #[]) ∧ ∃ n, w' = putRow (Value.int .i64) (Sort.ahead w n) blk off (Sort.insertionSort ltInt d a b) := by
  go_enter Tryd.func145, Tryd.ntmps145
  go_wp2
  go_loopw [6] (fun vi wr => ∃ (i n : Nat) (dk : Array Int), vi = .int .i64 i ∧ a < i ∧ i ≤ b + 1 ∧ dk.size = d.size ∧ wr = putRow (Value.int .i64) (Sort.ahead w n) blk off dk ∧
      insOuter ltInt a b i dk = insOuter ltInt a b (a + 1) d) (fun vi _ => b + 1 - (intOf vi).toNat)
  case atStart => exact ⟨a + 1, 0, d, by go_num, by omega, by omega, rfl, (putRow_self _ _ _ _ _ hH).symm, rfl⟩
  case round =>
    obtain ⟨i, n, dk, rfl, hai, hib, hsk, hwr, hO⟩ := hrel
    have HO : Hid (insOuter ltInt a b i dk = insOuter ltInt a b (a + 1) d) := hO
    clear hO
    go_wp2
    · go_loopw [7] (fun vj wr2 => ∃ (j m : Nat) (dj : Array Int), vj = .int .i64 j ∧ a ≤ j ∧ j ≤ i ∧ dj.size = d.size ∧ wr2 = putRow (Value.int .i64) (Sort.ahead w m) blk off dj ∧
          insInner ltInt a j dj = insInner ltInt a i dk) (fun vj _ => (intOf vj).toNat)
      case atStart => exact ⟨i, n, dk, rfl, by omega, Nat.le_refl _, hsk, rfl, rfl⟩
      case round =>
        obtain ⟨j, m, dj, rfl, haj, hji, hsj, hw2, hI⟩ := hrel
        have hlt : i < b := by assumption
        obtain ⟨G, hG⟩ : ∃ G : Nat → Int, ∀ t, G t = dj[t]! := ⟨fun t => dj[t]!, fun _ => rfl⟩
        have hcw : ∀ t, t < d.size → wr.cell? ⟨blk, off + t, none⟩ = some (.int .i64 (G t)) := fun t ht => by
          rw [hw2, hG]; exact cell?_putRow _ _ _ _ d dj (holds_ahead _ _ _ _ _ _ hH) hsj t (by omega)
        have hfw : ∀ t, t < d.size → wr.frozen? ⟨blk, off + t, none⟩ = false := fun t ht => by
          rw [hw2, frozen?_putRow]; exact ((holds_ahead _ _ m _ _ _ hH) t ht).2
        have HW : Hid (wr = putRow (Value.int .i64) (Sort.ahead w m) blk off dj) := hw2
        have HG : Hid (∀ t, G t = dj[t]!) := hG
        have HI : Hid (insInner ltInt a j dj = insInner ltInt a i dk) := hI
        clear hw2 hG hI hH
        have out : (j ≤ a ∨ ltInt dj[j]! dj[j - 1]! = false) → ∀ q, ∃ i' n' dk', Value.int .i64 ((i : Int) + 1) = .int .i64 (i' : Nat) ∧ a < i' ∧ i' ≤ b + 1 ∧ dk'.size = d.size ∧
            wr.drewN q = putRow (Value.int .i64) (Sort.ahead w n') blk off dk' ∧ insOuter ltInt a b i' dk' = insOuter ltInt a b (a + 1) d := fun hs q =>
          ⟨i + 1, m + q, dj, by go_num, by omega, by omega, hsj, by rw [HW.out]; exact putRow_drewN _ _ _ _ _ _ _,
            by rw [← HO.out, insOuter_go _ _ _ _ _ hlt, ← HI.out, insInner_stop _ _ _ _ hs]⟩
        have OUT : Hid _ := out
        clear out
        go_wp2
        by_cases hja : a < j
        · go_quiet (first | (go_at_call 151; refine Calls.quiet_of_same (less_int _ _ _)))
          go_wp2
          · have hl : ltInt (G j) (G (j - 1)) = true := by assumption
            go_region
            all_goals go_wp2
            go_roundw
            case rel =>
              refine ⟨j - 1, m + (nq + 1), swp dj j (j - 1), by congr 1; omega, by omega, by omega, by rw [size_swp]; exact hsj, ?_, ?_⟩
              · rw [HW.out, HG.out, HG.out]
                exact swap_worldA _ w m (nq + 1) blk off dj j (j - 1) (by omega) (by omega)
              · rw [← HI.out, insInner_go ltInt a j dj hja (by rw [← HG.out, ← HG.out]; exact hl)]
            case measure => simp [intOf]; omega
          · have hl : ltInt (G j) (G (j - 1)) = false := by assumption
            go_roundw
            case rel => exact OUT.out (Or.inr (by rw [← HG.out, ← HG.out]; exact hl)) nq
            case measure => simp [intOf]; omega
        · go_quiet (first | (go_at_call 151; refine Calls.quiet_of_same (less_int _ _ _)))
          go_wp2
          go_roundw
          case rel => exact OUT.out (Or.inl (by omega)) nq
          case measure => simp [intOf]; omega
    · have hge : ¬ i < b := by assumption
      go_end0
      exact ⟨rfl, n, by unfold Sort.insertionSort; rw [← HO.out, insOuter_stop _ _ _ _ _ hge]⟩

theorem insertion_nil (p : Option Addr) (cap : Nat) (w : World) :
    Calls Tryd.prog 145 #[.slice p 0 cap, .int .i64 0, .int .i64 0] w fun e w' => e = .returned (.tuple #[]) ∧ w' = w := by
  go_enter Tryd.func145, Tryd.ntmps145
  go_wp2
  refine wp_loop_rounds 1 ?_
  rw [rounds_succ]
  go_wp2
  go_end0
  exact ⟨rfl, rfl⟩

set_option maxRecDepth 1000000 in
theorem len64_small (x : Int) (h0 : 0 ≤ x) (hx : x ≤ 12) (w : World) : Calls Tryd.prog 155 #[.int .u64 x] w fun e w' => (∃ k, e = .returned (.int .i64 k)) ∧ w' = w := by
  have h : x = 0 ∨ x = 1 ∨ x = 2 ∨ x = 3 ∨ x = 4 ∨ x = 5 ∨ x = 6 ∨ x = 7 ∨ x = 8 ∨ x = 9 ∨ x = 10 ∨ x = 11 ∨ x = 12 := by omega
  clear h0 hx
  rcases h with rfl | rfl | rfl | rfl | rfl | rfl | rfl | rfl | rfl | rfl | rfl | rfl | rfl
  all_goals
    go_enter Tryd.func155, Tryd.ntmps155
    go_wp2
    go_ret
    exact ⟨⟨_, rfl⟩, rfl⟩

theorem len_small (x : Int) (h0 : 0 ≤ x) (hx : x ≤ 12) (w : World) : Calls Tryd.prog 130 #[.int .u64 x] w fun e w' => (∃ k, e = .returned (.int .i64 k)) ∧ w' = w := by
  go_enter Tryd.func130, Tryd.ntmps130
  go_wp2_with (go_at_call 155; refine (len64_small _ h0 hx _).mono ?_; rintro e w' ⟨⟨k, rfl⟩, rfl⟩)
  go_ret
  exact ⟨⟨k, rfl⟩, rfl⟩

set_option maxHeartbeats 2000000 in
set_option maxRecDepth 100000 in
theorem pdq_small (R : Ending → World → Prop) (p : Option Addr) (n cap : Nat) (k : Int) (w : World) (hn : n ≤ 12) (h : Calls Tryd.prog 145 #[.slice p n cap, .int .i64 0, .int .i64 n] w R) (hR : ∀ e w', R e w' → e = .returned (.tuple #[])) :
    Calls Tryd.prog 129 #[.slice p n cap, .int .i64 0, .int .i64 n, .int .i64 k] w R := by
  go_enter Tryd.func129, Tryd.ntmps129
  go_wp2
  refine wp_loop_rounds 1 ?_
  rw [rounds_succ]
  have hn' : (n : Int) ≤ 12 := by omega
  go_wp2_with (first | (go_at_call 145; refine h.mono ?_; rintro e w' hr; obtain rfl := hR _ _ hr))
  refine bodyPost_ret (results_none rfl _ _ _) rfl ?_
  exact hr

set_option maxHeartbeats 2000000 in
theorem sort1 (R : Ending → World → Prop) (p : Option Addr) (n cap : Nat) (w : World) (hn : n ≤ 12) (h : Calls Tryd.prog 145 #[.slice p n cap, .int .i64 0, .int .i64 n] w R) (hR : ∀ e w', R e w' → e = .returned (.tuple #[])) :
    Calls Tryd.prog 88 #[.slice p n cap] w R := by
  go_enter Tryd.func88, Tryd.ntmps88
  go_wp2_with (first
    | (go_at_call 130; refine (len_small _ (by omega) (by omega) _).mono ?_; rintro e w' ⟨⟨k, rfl⟩, rfl⟩)
    | (go_at_call 129; refine (pdq_small R p n cap _ _ hn h hR).mono ?_; rintro e w' hr; obtain rfl := hR _ _ hr))
  go_end0
  exact hr

abbrev upI (l : List Int) : List Int := l.mergeSort fun x y => decide (x ≤ y)
theorem upI_perm (l : List Int) : (upI l).Perm l := List.mergeSort_perm _ _
theorem upI_sorted (l : List Int) : (upI l).Pairwise (· ≤ ·) := by
  have h := List.pairwise_mergeSort (le := fun x y : Int => decide (x ≤ y)) (fun a b c h1 h2 => by simp at h1 h2 ⊢; omega) (fun a b => by simp; omega) l
  exact h.imp fun h => by simpa using h

theorem insertion_up (l : List Int) : (Sort.insertionSort ltInt l.toArray 0 l.length) = (upI l).toArray := by
  obtain ⟨hP, hSo⟩ := insertionSort_holds (lt := ltInt) swo_ltInt l.toArray 0 l.length (Nat.zero_le _) (by simp)
  have h := sorted_unique_holds swo_ltInt (fun x y h1 h2 => by simp only [ltInt, decide_eq_false_iff_not] at h1 h2; omega) l.toArray _ (by simpa using hP) (by simpa using hSo)
  have e : (fun x y : Int => !ltInt y x) = fun x y => decide (x ≤ y) := by
    funext x y
    simp only [ltInt]
    by_cases hxy : y < x <;> simp [hxy] <;> omega
  rw [e] at h
  apply Array.ext'
  simpa using h

theorem sort_int (base : Nat) (A : Option Addr) (n c : Nat) (l : List Int) (w : World) (hO : Own w base 3 1 A n c (l.map (Value.int .i64))) (hn : n ≤ 12) :
    Calls Tryd.prog 88 #[.slice A n c] w fun e w' => e = .returned (.tuple #[]) ∧ Own w' base 3 1 A n c ((upI l).map (Value.int .i64)) ∧ w.grownBy w' (A.map (·.block)) := by
  have hl : l.length = n := by have := hO.len; simpa using this
  rcases hO.form with ⟨rfl, rfl, rfl, hxs⟩ | ⟨g, cur, rfl, hbg, hblk, hnc, hcm, hsz, htake, _⟩
  · obtain rfl : l = [] := List.length_eq_zero_iff.1 hl
    refine (sort1 (fun e w' => e = .returned (.tuple #[]) ∧ w' = w) none 0 0 w (by omega) (insertion_nil none 0 w) (fun e w' h => h.1)).mono ?_
    rintro e w' ⟨rfl, rfl⟩
    exact ⟨rfl, by simpa [upI] using Own.none_ _ _ _ _, grown_refl _ _⟩
  · have hat : ∀ j, j < l.length → cur[j]? = some (.int .i64 l[j]!) := by
      intro j hj
      have h1 : (cur.toList.take (n * 1))[j]? = (l.map (Value.int .i64))[j]? := by rw [htake]
      rw [List.getElem?_take_of_lt (by omega), Array.getElem?_toList] at h1
      rw [h1]
      simp [hj]
    have hH : Holds (Value.int .i64) w g 0 l.toArray := by
      intro j hj
      have hj' : j < l.length := by simpa using hj
      refine ⟨?_, hblk.frozen _⟩
      rw [Nat.zero_add, hblk.cell, hat j hj']
      simp [hj']
    have hw := insertion_int g 0 c 0 l.length l.toArray w hH (Nat.zero_le _) (by simp) (by simp; omega)
    have hs : l.toArray.size = n := by simpa using hl
    rw [insertion_up, hs, hl] at hw
    refine (sort1 _ (some ⟨g, 0, none⟩) n c w hn hw (fun e w' h => h.1)).mono ?_
    rintro e w' ⟨rfl, q, rfl⟩
    have hlu : (upI l).length = n := by rw [(upI_perm l).length_eq]; exact hl
    have hb2 : Blk (putRow (Value.int .i64) (Sort.ahead w q) g 0 (upI l).toArray) g 3 (putCells (Value.int .i64) 0 (upI l).toArray cur) := by
      have h0 : w.heap[g]? = some (.cells cur 3 (0, 0)) := hblk
      show (putRow (Value.int .i64) (Sort.ahead w q) g 0 (upI l).toArray).heap[g]? = _
      simp [putRow, mapBlock, Sort.ahead, Array.getElem?_modify, h0, onCells]
    refine ⟨rfl, Own.mk_ hbg hb2 hnc hcm (by simpa [putCells] using hsz) (by simpa using hlu) ?_, ⟨rfl, rfl, rfl, by simp [putRow, mapBlock, Sort.ahead], fun k hk hne => ?_⟩⟩
    · intro k hk
      have h1 := take_putCellsI cur (upI l) (by rw [hlu]; omega)
      have h2 : ((putCells (Value.int .i64) 0 (upI l).toArray cur).toList.take (upI l).length)[k]? = ((upI l).map (Value.int .i64))[k]? := by rw [h1]
      rwa [List.getElem?_take_of_lt (by omega), Array.getElem?_toList] at h2
    · have : g ≠ k := fun e => hne (by rw [← e]; rfl)
      simp [putRow, mapBlock, Sort.ahead, Array.getElem?_modify, this]
end Go.Proofs.YtahkjagjcogeiaaDoor
/- climb.Reach: all places to which a walk leads. -/
namespace Go.Proofs.YtahkjagjcogeiaaDoor
open Go.RowKit Go.Shelf
set_option linter.unusedVariables false

def reachL (t : Town) (u : Int) (dk : Bool) : List Int := t.places.filter fun v => (best t dk freeP u v).isSome
def reachR (t : Town) (u : Int) (dk : Bool) : List Int := if askE t [u] = 0 then reachL t u dk else []
theorem reach_keys {t : Town} {dk : Bool} {u : Int} {ms : List (Int × Wk)} (hg : GoodT t) (hu : u ∈ t.places) (hn : (ms.map Prod.fst).Nodup) (hf : ∀ v, fnOf ms v = best t dk freeP u v) : (ms.map Prod.fst).Perm (reachL t u dk) := by
  unfold reachL
  rw [List.perm_ext_iff_of_nodup hn (hg.nodup.filter _)]
  intro v
  rw [List.mem_filter]
  constructor
  · intro hv
    obtain ⟨⟨k, x⟩, hm, rfl⟩ := List.mem_map.1 hv
    have h3 := fnOf_mem hn hm
    have h4 := hf k
    rw [h3] at h4
    have hF := best_first hg.fine freeP_fair dk u k
    rw [← h4] at hF
    refine ⟨?_, by simp only; rw [← h4]; rfl⟩
    rcases hF.1.ends hg.fine with ⟨h5, _⟩ | ⟨_, h5⟩
    · simp only; rw [← h5]; exact hu
    · exact h5
  · rintro ⟨_, h3⟩
    obtain ⟨⟨c, l⟩, h4⟩ := Option.isSome_iff_exists.1 h3
    obtain ⟨x, hx, _⟩ := fnOf_some ((hf v).trans h4)
    exact List.mem_map.2 ⟨(v, x), hx, rfl⟩
theorem reach_up {t : Town} {dk : Bool} {u : Int} {ms pre : List (Int × Wk)} (hg : GoodT t) (hu : u ∈ t.places) (hn : (ms.map Prod.fst).Nodup) (hf : ∀ v, fnOf ms v = best t dk freeP u v) (hp : pre.Perm ms) : upI (pre.map Prod.fst) = reachL t u dk := by
  have h1 : (upI (pre.map Prod.fst)).Perm (ms.map Prod.fst) := (upI_perm _).trans (hp.map _)
  refine (h1.trans (reach_keys hg hu hn hf)).eq_of_pairwise (le := (· ≤ ·)) (fun a b _ _ h h' => by omega) (upI_sorted _) ?_
  exact (hg.up.filter _).imp (fun h => by omega)
theorem reach_len {t : Town} {dk : Bool} {u : Int} {ms pre : List (Int × Wk)} (hg : GoodT t) (hu : u ∈ t.places) (hn : (ms.map Prod.fst).Nodup) (hf : ∀ v, fnOf ms v = best t dk freeP u v) (hp : pre.Perm ms) : pre.length ≤ 9 := by
  have h1 := ((hp.map Prod.fst).trans (reach_keys hg hu hn hf)).length_eq
  have h2 : (reachL t u dk).length ≤ t.places.length := List.length_filter_le _ _
  have h3 := hg.fine.size
  simp only [List.length_map] at h1
  omega
theorem own_ne_map {w : World} {base size n c it r : Nat} {e : TypeId} {B : Option Addr} {xs : List Value} {ms left : List (Int × Wk)} (hO : Own w base e size B n c xs) (hI : IterIs (Value.int .i64) Wk.val okI w it r ms left) : some r ≠ B.map (·.block) ∧ some it ≠ B.map (·.block) := by
  rcases hO.form with ⟨rfl, _⟩ | ⟨g, cur, rfl, _, hb, _⟩
  · exact ⟨by simp, by simp⟩
  · obtain ⟨es, clock, since, seen, c0, h1, _, _, _, h5, _⟩ := hI
    have h2 : w.heap[g]? = some (.cells cur e (0, 0)) := hb
    constructor
    · intro h
      simp at h
      subst h
      rw [h1] at h2
      cases h2
    · intro h
      simp at h
      subst h
      rw [h5] at h2
      cases h2

set_option maxRecDepth 100000 in
set_option maxHeartbeats 16000000 in
theorem reach_in (A : Option Addr) (n c : Nat) (A' : Option Addr) (m d : Nat) (t : Town) (u : Int) (dk : Bool) (w : World)
    (hn : n ≤ 1000) (hm : m ≤ 1000) (ht : TownAt w w.heap.size A n A' m t) (hL : Laid w) :
    CallsIn Fence.wide 9 Tryd.prog 37 #[.agg #[.slice A n c, .slice A' m d], .int .i64 u, .bool dk] w (ListOut w (reachR t u dk) (askE t [u])) := by
  have HT := Lib.hid ht
  have HL := Lib.hid hL
  have hl0 := hL.2.2.2
  clear ht hL
  refine callsIn_of_wp Tryd.func37 rfl trivial ?_ rfl
  simp only [Tryd.ntmps37, List.size_toArray, List.length_cons, List.length_nil, Nat.reduceAdd, Nat.reduceSub, Array.replicate_succ, Array.replicate_zero, List.push_toArray, List.append_toArray, List.nil_append, List.cons_append]
  gi_wp2
  have HLay := Lib.hid (Lay.two w 25 #[.slice A n c, .slice A' m d] 3 #[.int .i64 u])
  generalize ((w.alloc (.cells #[.slice A n c, .slice A' m d] 25)).alloc (.cells #[.int .i64 u] 3)) = w0 at *
  have HUV0 := Lib.hid (show IntsAt w0 w0.heap.size (some ⟨w.heap.size + 1, 0, none⟩) 1 [u] from one_int (HLay.out.blk 1 rfl).lt ((HLay.out.blk 1 rfl).cell 0))
  refine ⟨trivial, (callsIn_wide.2 (asked_any A n c A' m d t (some ⟨w.heap.size + 1, 0, none⟩) 1 1 [u] w0 (by unfold maxLen; omega) (by unfold maxLen; omega) (by decide) ((HT.out.below HLay.out.1).more HLay.out.1.size) HUV0.out (HL.out.below HLay.out.1 hl0))).mono ?_⟩
  rintro e W1 ⟨rfl, hb⟩
  replace HLay := Lib.hid (HLay.out.below hb)
  clear hb
  obtain ⟨ee, hee⟩ : ∃ ee, askE t [u] = ee := ⟨_, rfl⟩
  rw [hee]
  have HEE := Lib.hid hee
  clear hee
  have x0_0 := (HLay.out.blk 0 rfl).cell 0
  have x0_1 := (HLay.out.blk 0 rfl).cell 1
  have l0_ := HLay.out.lt 0 rfl
  by_cases h0 : ee = 0
  · subst h0
    obtain ⟨htb, hhas⟩ := askE_zero HEE.out
    have HG := Lib.hid (goodT htb)
    have HUV := Lib.hid (hasB_mem hhas u (by simp))
    have hm20 : m ≤ 20 := by have := HG.out.links; have := HT.out.links.len; omega
    clear htb hhas
    gi_wp2
    clear x0_0 x0_1 l0_
    refine ⟨trivial, (callsIn_wide.2 (callsIn_wide.1 (all_in A n c A' m d dk _ _ freeP t u W1 hm20 ((HT.out.links.below HLay.out.1).more HLay.out.1.size) (free_price W1) HG.out.fine freeP_fair HUV.out HG.out.ids))).mono ?_⟩
    rintro e W2 ⟨r, ms, rfl, hms, hrr, hoks, hfn, hb⟩
    replace HLay := Lib.hid (HLay.out.below hb)
    clear hb
    have HMS := Lib.hid hms
    have HND := Lib.hid (MapIs.nodup wkTy hms)
    have HFN := Lib.hid hfn
    clear hms hrr hoks hfn
    obtain ⟨w1, hr1, hi1, hg1, hs1⟩ := MapIs.range (P := Tryd.prog) (t := 113) Tryd.underlying113 HMS.out
    have HI := Lib.hid hi1
    have HB1 := Lib.hid (HLay.out.1.grown hg1 HLay.out.1.size (fun j hj => by cases hj))
    have HML := Lib.hid (reach_len HG.out HUV.out HND.out HFN.out (List.Perm.refl ms))
    clear hi1 hg1 hs1
    gi_wp2
    clear hr1
    gi_loopw [9] (fun v9 wr => ∃ (left pre : List (Int × Wk)) (B : Option Addr) (q : Nat), v9 = .slice B pre.length q ∧ Hid (IterIs (Value.int .i64) Wk.val okI wr W2.heap.size r ms left ∧ (pre ++ left).Perm ms ∧ (∀ p ∈ left, p ∈ ms) ∧ Own wr w.heap.size 3 1 B pre.length q ((pre.map Prod.fst).map (Value.int .i64)) ∧ Below w.heap.size w wr))
      (fun _ wr => iterLeft wr W2.heap.size)
    case atStart => exact ⟨ms, [], none, 0, rfl, Lib.hid ⟨HI.out, by simp, fun p hp => hp, Own.none_ _ _ _ _, HB1.out⟩⟩
    case round =>
      obtain ⟨left, pre, B, q, rfl, HS⟩ := hrel
      rcases HS.out.1.next (P := Tryd.prog) 0 with ⟨hl, hr⟩ | ⟨i, p, w', hp, hr, hi2, hg2, hs2, he2⟩
      · gi_wp2
        clear hr
        subst hl
        have HPP := Lib.hid (show pre.Perm ms by simpa using HS.out.2.1)
        have hpl : pre.length ≤ 9 := reach_len HG.out HUV.out HND.out HFN.out HPP.out
        refine ⟨trivial, (callsIn_wide.2 (sort_int w.heap.size B pre.length q (pre.map Prod.fst) _ HS.out.2.2.2.1 (by omega))).mono ?_⟩
        rintro e w2 ⟨rfl, hO2, hg2⟩
        have HO2 := Lib.hid hO2
        have HB2 := Lib.hid (HS.out.2.2.2.2.grown hg2 HS.out.2.2.2.2.size (fun j hj => own_row HS.out.2.2.2.1 hj))
        clear hO2 hg2
        gi_wp2
        refine bodyPost_ret (v := .tuple #[.slice B pre.length q, .int .i64 0]) (by simp [results, Tryd.results37, go_sem]) rfl ?_
        have hr : reachR t u dk = upI (pre.map Prod.fst) := by unfold reachR; rw [if_pos HEE.out, reach_up HG.out HUV.out HND.out HFN.out HPP.out]
        rw [hr, HEE.out]
        exact ⟨B, pre.length, q, rfl, ints_of_own HO2.out (Nat.le_refl _), HB2.out⟩
      · obtain ⟨kk, x⟩ := p
        have HP := Lib.hid hp
        have hne := own_ne_map HS.out.2.2.2.1 HS.out.1
        have hlen : pre.length + left.length ≤ 9 := by have h1 := HS.out.2.1.length_eq; have h2 := HML.out; simp at h1; omega
        have hpos : 0 < left.length := by have := (List.getElem?_eq_some_iff.1 hp).1; omega
        have HB2 := Lib.hid (HS.out.2.2.2.2.grown hg2 HS.out.2.2.2.2.size (fun j hj => by cases hj; exact (HLay.out.1.size)))
        have HOW := Lib.hid ((HS.out.2.2.2.1.grown hg2 (fun a ha e => hne.2 (by rw [ha]; exact e.symm))).alloc (.cells #[.int .i64 kk] 3))
        have HOB : Hid (Blk (w'.alloc (.cells #[.int .i64 kk] 3)) w'.heap.size 3 #[.int .i64 kk]) := Lib.hid (Blk.new _ _ _)
        have HI2 := Lib.hid (hi2.below ((Below.refl _ _).alloc (Nat.le_refl _) (.cells #[.int .i64 kk] 3)) hi2.map.lt hi2.lt)
        have HB3 := Lib.hid (HB2.out.alloc HB2.out.size (.cells #[.int .i64 kk] 3))
        clear hi2 hg2 hs2 hp hne
        gi_wp2_with (first | (gi_at_builtin; refine wpListIn_append_any rfl (.tmp 28) (.tmp 30) (by rfl) elem_int rfl HOW.out rfl (one_int (x := kk) HOB.out.lt (HOB.out.cell 0)) (ints_one _) (by unfold maxLen; omega) (by omega) HB3.out.size ?_) | fail)
        rintro A8 c8 W8 hown hgr hA8
        have hne2 := own_ne_map HOW.out HI2.out
        have HI3 := Lib.hid (HI2.out.grown hgr hne2.1 hne2.2)
        have HB4 := Lib.hid (HB3.out.grown hgr HB3.out.size (fun j hj => own_row HOW.out hj))
        have HO8 := Lib.hid hown
        clear hown hgr hA8 hne2 hr he2
        gi_wp2
        go_roundw
        case rel =>
          refine ⟨left.eraseIdx i, pre ++ [(kk, x)], A8, c8, by simp, Lib.hid ⟨HI3.out, ?_, fun p hp => HS.out.2.2.1 p (List.mem_of_mem_eraseIdx hp), ?_, HB4.out⟩⟩
          · rw [List.append_assoc]
            exact ((perm_erase HP.out).append_left _).trans HS.out.2.1
          · have h := HO8.out
            simpa using h
        case measure =>
          have h2 := (List.getElem?_eq_some_iff.1 HP.out).1
          rw [HI3.out.left_eq, HS.out.1.left_eq, List.length_eraseIdx_of_lt h2]
          omega
  · have h1 : (ee != 0) = true := by simpa using h0
    have HE0 := Lib.hid h0
    clear h0
    gi_wp2
    clear x0_0 x0_1 l0_
    refine bodyPost_ret (v := .tuple #[.slice none 0 0, .int .i64 (ee)]) (by simp [results, Tryd.results37, go_sem]) rfl ?_
    have hr : reachR t u dk = [] := by unfold reachR; rw [if_neg (by rw [HEE.out]; exact HE0.out)]
    rw [hr, HEE.out]
    exact ⟨none, 0, 0, rfl, Reads.none_, HLay.out.1⟩

theorem reach_any (A : Option Addr) (n c : Nat) (A' : Option Addr) (m d : Nat) (t : Town) (u : Int) (dk : Bool) (w : World)
    (hn : n ≤ 1000) (hm : m ≤ 1000) (ht : TownAt w w.heap.size A n A' m t) (hL : Laid w) :
    Calls Tryd.prog 37 #[.agg #[.slice A n c, .slice A' m d], .int .i64 u, .bool dk] w (ListOut w (reachR t u dk) (askE t [u])) :=
  callsIn_wide.1 (reach_in A n c A' m d t u dk w hn hm ht hL)
end Go.Proofs.YtahkjagjcogeiaaDoor
/- The answer's Reach. -/
namespace Go.Proofs.YtahkjagjcogeiaaDoor
open Go.RowKit Go.Shelf
set_option linter.unusedVariables false

def reachL' (t : Town) (u : Int) (dk : Bool) (k : Nat) : List Int := (t.places.take k).filter fun v => (best t dk freeP u v).isSome
theorem reach_succ {t : Town} {u x : Int} {dk : Bool} {k : Nat} (hx : t.places[k]? = some x) (hb : (best t dk freeP u x).isSome = true) : reachL' t u dk (k + 1) = reachL' t u dk k ++ [x] := by
  obtain ⟨hk, rfl⟩ := List.getElem?_eq_some_iff.1 hx
  unfold reachL'
  rw [List.take_succ_eq_append_getElem hk, List.filter_append]
  simp [hb]
theorem reach_skip {t : Town} {u x : Int} {dk : Bool} {k : Nat} (hx : t.places[k]? = some x) (hb : (best t dk freeP u x).isSome = false) : reachL' t u dk (k + 1) = reachL' t u dk k := by
  obtain ⟨hk, rfl⟩ := List.getElem?_eq_some_iff.1 hx
  unfold reachL'
  rw [List.take_succ_eq_append_getElem hk, List.filter_append]
  simp [hb]

set_option maxRecDepth 100000 in
set_option maxHeartbeats 16000000 in
theorem rreach_in (A : Option Addr) (n c : Nat) (A' : Option Addr) (m d : Nat) (t : Town) (u : Int) (dk : Bool) (w : World)
    (hn : n ≤ 1000) (hm : m ≤ 1000) (ht : TownAt w w.heap.size A n A' m t) :
    CallsIn Fence.wide 9 Tryd.prog 38 #[.agg #[.slice A n c, .slice A' m d], .int .i64 u, .bool dk] w (ListOut w (reachR t u dk) (askE t [u])) := by
  have HT := Lib.hid ht
  have HLn := Lib.hid ht.places.len
  clear ht
  refine callsIn_of_wp Tryd.func38 rfl trivial ?_ rfl
  simp only [Tryd.ntmps38, List.size_toArray, List.length_cons, List.length_nil, Nat.reduceAdd, Nat.reduceSub, Array.replicate_succ, Array.replicate_zero, List.push_toArray, List.append_toArray, List.nil_append, List.cons_append]
  gi_wp2
  have HLay := Lib.hid (Lay.one w 25 #[.slice A n c, .slice A' m d])
  generalize (w.alloc (.cells #[.slice A n c, .slice A' m d] 25)) = w0 at *
  refine ⟨trivial, (callsIn_wide.2 (rasked_any A n c A' m d t u u w0 hn hm ((HT.out.below HLay.out.1).more HLay.out.1.size))).mono ?_⟩
  rintro e W1 ⟨rfl, hb⟩
  replace HLay := Lib.hid (HLay.out.below hb)
  clear hb
  rw [askE_same]
  obtain ⟨ee, hee⟩ : ∃ ee, askE t [u] = ee := ⟨_, rfl⟩
  rw [hee]
  have HEE := Lib.hid hee
  clear hee
  have x0_0 := (HLay.out.blk 0 rfl).cell 0
  have x0_1 := (HLay.out.blk 0 rfl).cell 1
  have l0_ := HLay.out.lt 0 rfl
  by_cases h0 : ee = 0
  · subst h0
    obtain ⟨htb, hhas⟩ := askE_zero HEE.out
    have HG := Lib.hid (goodT htb)
    have HUV := Lib.hid (hasB_mem hhas u (by simp))
    have hm20 : m ≤ 20 := by have := HG.out.links; have := HT.out.links.len; omega
    have hn9 : n ≤ 9 := by have := HG.out.fine.size; have := HLn.out; omega
    clear htb hhas
    gi_wp2
    clear x0_0 x0_1 l0_
    gi_loopw [9, 22] (fun v9 v22 wr => ∃ (k : Nat) (B : Option Addr) (q : Nat), k ≤ n ∧ v22 = .int .i64 k ∧ v9 = .slice B (reachL' t u dk k).length q ∧ Hid (Own wr W1.heap.size 3 1 B (reachL' t u dk k).length q ((reachL' t u dk k).map (Value.int .i64)) ∧ Below W1.heap.size W1 wr))
      (fun _ vi _ => n - (intOf vi).toNat)
    case atStart => exact ⟨0, none, 0, by omega, rfl, rfl, Lib.hid ⟨Own.none_ _ _ _ _, Below.refl _ _⟩⟩
    case round =>
      obtain ⟨k, B, q, hk, rfl, rfl, HS⟩ := hrel
      rename World => wr
      have HLy := Lib.hid (HLay.out.below HS.out.2)
      have hkl : (reachL' t u dk k).length ≤ k := by unfold reachL'; have := List.length_filter_le (fun v => (best t dk freeP u v).isSome) (t.places.take k); rw [List.length_take] at this; omega
      by_cases hlt : k < n
      · have hcell := (HT.out.places.below HLy.out.1).cell hlt
        obtain ⟨b, off, x, rfl, hbB, hx, hc⟩ := hcell
        have HX := Lib.hid hx
        have x0_0 := (HLy.out.blk 0 rfl).cell 0
        have x0_1 := (HLy.out.blk 0 rfl).cell 1
        have l0_ := HLy.out.lt 0 rfl
        clear hx
        gi_wp2
        clear x0_0 x0_1 l0_ hc
        refine ⟨trivial, (callsIn_wide.2 (rhas_any (some ⟨b, off, none⟩) n c A' m d t u x dk _ hm20 ((HT.out.below HLy.out.1).more HLy.out.1.size) HG.out HUV.out)).mono ?_⟩
        rintro e W5 ⟨rfl, hb5⟩
        have HO5 := Lib.hid (HS.out.1.below hb5 (Nat.le_refl _))
        have HB5 := Lib.hid (HS.out.2.trans (hb5.mono HS.out.2.size))
        clear hb5
        cases hbo : (best t dk freeP u x).isSome with
        | true =>
          have HBO := Lib.hid hbo
          clear hbo
          have HOW := Lib.hid (HO5.out.alloc (.cells #[.int .i64 x] 3))
          have HOB : Hid (Blk (W5.alloc (.cells #[.int .i64 x] 3)) W5.heap.size 3 #[.int .i64 x]) := Lib.hid (Blk.new _ _ _)
          have HB6 := Lib.hid (HB5.out.alloc HB5.out.size (.cells #[.int .i64 x] 3))
          gi_wp2_with (first | (gi_at_builtin; refine wpListIn_append_any rfl (.tmp 31) (.tmp 33) (by rfl) elem_int rfl HOW.out rfl (one_int (x := x) HOB.out.lt (HOB.out.cell 0)) (ints_one _) (by unfold maxLen; omega) (by omega) HB6.out.size ?_) | fail)
          rintro A8 c8 W8 hown hgr hA8
          have HO8 := Lib.hid hown
          have HB8 := Lib.hid (HB6.out.grown hgr HB6.out.size (fun j hj => own_row HOW.out hj))
          clear hown hgr hA8
          gi_wp2
          go_roundw
          case rel =>
            have he : reachL' t u dk (k + 1) = reachL' t u dk k ++ [x] := reach_succ HX.out HBO.out
            refine ⟨k + 1, A8, c8, by omega, by go_num, by rw [he]; simp, Lib.hid ⟨?_, HB8.out⟩⟩
            rw [he]
            have h := HO8.out
            simpa using h
          case measure => simp [intOf]; omega
        | false =>
          have HBO := Lib.hid hbo
          clear hbo
          gi_wp2
          go_roundw
          case rel =>
            have he : reachL' t u dk (k + 1) = reachL' t u dk k := reach_skip HX.out HBO.out
            refine ⟨k + 1, B, q, by omega, by go_num, by rw [he], Lib.hid ⟨?_, HB5.out⟩⟩
            rw [he]
            exact HO5.out
          case measure => simp [intOf]; omega
      · obtain rfl : k = n := by omega
        gi_wp2
        have hl : reachL' t u dk k = reachR t u dk := by unfold reachL' reachR reachL; rw [if_pos HEE.out, List.take_of_length_le (by rw [HLn.out]; exact Nat.le_refl _)]
        rw [hl]
        have hO := HS.out.1
        rw [hl] at hO
        refine bodyPost_ret (v := .tuple #[.slice B (reachR t u dk).length q, .int .i64 0]) (by simp [results, Tryd.results38, go_sem]) rfl ?_
        rw [HEE.out]
        exact ⟨B, _, q, rfl, ints_of_own hO (Nat.le_refl _), HLy.out.1⟩
  · have h1 : (ee != 0) = true := by simpa using h0
    have HE0 := Lib.hid h0
    clear h0
    gi_wp2
    clear x0_0 x0_1 l0_
    refine bodyPost_ret (v := .tuple #[.slice none 0 0, .int .i64 (ee)]) (by simp [results, Tryd.results38, go_sem]) rfl ?_
    have hr : reachR t u dk = [] := by unfold reachR; rw [if_neg (by rw [HEE.out]; exact HE0.out)]
    rw [hr, HEE.out]
    exact ⟨none, 0, 0, rfl, Reads.none_, HLay.out.1⟩

theorem rreach_any (A : Option Addr) (n c : Nat) (A' : Option Addr) (m d : Nat) (t : Town) (u : Int) (dk : Bool) (w : World)
    (hn : n ≤ 1000) (hm : m ≤ 1000) (ht : TownAt w w.heap.size A n A' m t) :
    Calls Tryd.prog 38 #[.agg #[.slice A n c, .slice A' m d], .int .i64 u, .bool dk] w (ListOut w (reachR t u dk) (askE t [u])) :=
  callsIn_wide.1 (rreach_in A n c A' m d t u dk w hn hm ht)
end Go.Proofs.YtahkjagjcogeiaaDoor
