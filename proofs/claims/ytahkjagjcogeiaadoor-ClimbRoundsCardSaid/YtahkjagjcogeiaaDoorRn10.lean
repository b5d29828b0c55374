/- Part 10 of the texts of this claim, joined. -/
import Derived.Test.YtahkjagjcogeiaaDoorRn9
/- The answer's first: the first walk out of the least costs. -/
namespace Go.Proofs.YtahkjagjcogeiaaDoor
open Go.RowKit Go.Shelf
set_option linter.unusedVariables false

theorem EAt.cell {w : World} {B : Nat} {A : Option Addr} {n : Nat} {E : List (Option Cost)} (h : EAt w B A n E) {k : Nat} {r : Option Cost} (hk : E[k]? = some r) : ∃ b off, A = some ⟨b, off, none⟩ ∧ b < B ∧
    w.cell? ⟨b, off + k * 4, none⟩ = some (.int .i64 (entC r).a) ∧ w.cell? ⟨b, off + k * 4 + 1, none⟩ = some (.int .i64 (entC r).b) ∧ w.cell? ⟨b, off + k * 4 + 2, none⟩ = some (.int .i64 (entC r).c) ∧ w.cell? ⟨b, off + k * 4 + 3, none⟩ = some (.int .i64 (entC r).d) := by
  have hk' := (List.getElem?_eq_some_iff.1 hk).1
  obtain ⟨b, off, e, hb, hc⟩ := Reads.plain h (by rw [eVals_len]; omega)
  exact ⟨b, off, e, hb, hc (k * 4) _ (eVals_at (j := 0) hk (by omega)), hc (k * 4 + 1) _ (eVals_at (j := 1) hk (by omega)), hc (k * 4 + 2) _ (eVals_at (j := 2) hk (by omega)), hc (k * 4 + 3) _ (eVals_at (j := 3) hk (by omega))⟩

def RFirstOut (w : World) (r : Option (Cost × List Int)) (e : Ending) (w' : World) : Prop :=
  ∃ (A : Option Addr) (n cap : Nat) (co : Cost), e = .returned (.tuple #[.slice A n cap, costV co, .bool r.isSome]) ∧ (r = none → A = none ∧ n = 0 ∧ cap = 0 ∧ co = zeroC) ∧ (∀ q, r = some q → q.1 = co ∧ IntsAt w' w'.heap.size A n q.2) ∧ (∀ a, A = some a → w.heap.size ≤ a.block ∧ a.block < w'.heap.size) ∧ Below w.heap.size w w'

/-- What lies in memory while first works. -/
structure RFSt (w : World) (T : Array Value) (p : Price) (A : Option Addr) (n : Nat) (E : List (Option Cost)) (B : Nat) (c0 : Cost) (W : World) : Prop where
  bel : Below w.heap.size w W
  tb : Blk W w.heap.size 25 T
  pb : Blk W (w.heap.size + 1) 107 #[.int .i64 p.pace, .int .i64 p.up, .int .i64 p.step]
  rb : Blk W (w.heap.size + 1 + 1) 103 #[.int .i64 0, .int .i64 0, .int .i64 0, .int .i64 0]
  ea : EAt W B A n E
  eb : w.heap.size + 1 + 1 < B
  fb : Blk W B 103 #[.int .i64 c0.a, .int .i64 c0.b, .int .i64 c0.c, .int .i64 c0.d]
theorem RFSt.below {w W W' : World} {T : Array Value} {p : Price} {A : Option Addr} {n B : Nat} {E : List (Option Cost)} {c0 : Cost} (h : RFSt w T p A n E B c0 W) (hb : Below W.heap.size W W') : RFSt w T p A n E B c0 W' :=
  ⟨h.bel.trans (hb.mono h.bel.size), h.tb.below hb h.tb.lt, h.pb.below hb h.pb.lt, h.rb.below hb h.rb.lt, h.ea.below (hb.mono (Nat.le_of_lt h.fb.lt)), h.eb, h.fb.below hb h.fb.lt⟩

theorem RFSt.low {w W W' : World} {T : Array Value} {p : Price} {A : Option Addr} {n B : Nat} {E : List (Option Cost)} {c0 : Cost} (h : RFSt w T p A n E B c0 W) (hb : Below (B + 1) W W') : RFSt w T p A n E B c0 W' := by
  have h1 := h.eb
  have h2 := h.fb.lt
  exact ⟨h.bel.trans (hb.mono (by omega)), h.tb.below hb (by omega), h.pb.below hb (by omega), h.rb.below hb (by omega), h.ea.below (hb.mono (by omega)), h.eb, h.fb.below hb (by omega)⟩

theorem RFSt.entry {w W : World} {T : Array Value} {p : Price} {be oe n B : Nat} {E : List (Option Cost)} {c0 : Cost} (h : RFSt w T p (some ⟨be, oe, none⟩) n E B c0 W) {k : Nat} {r : Option Cost} (hk : E[k]? = some r) :
    W.cell? ⟨be, oe + k * 4, none⟩ = some (.int .i64 (entC r).a) ∧ W.cell? ⟨be, oe + k * 4 + 1, none⟩ = some (.int .i64 (entC r).b) ∧ W.cell? ⟨be, oe + k * 4 + 2, none⟩ = some (.int .i64 (entC r).c) ∧ W.cell? ⟨be, oe + k * 4 + 3, none⟩ = some (.int .i64 (entC r).d) := by
  obtain ⟨b, off, e, _, h1, h2, h3, h4⟩ := h.ea.cell hk
  cases e
  exact ⟨h1, h2, h3, h4⟩
theorem rplus_cls' {W : World} {n : Nat} (x y s : Cost) (hs : addC x y = s) (hx : Small x) (hy : Small y) {σ : Type} {of : σ → World} (h1 : ∀ z, Below W.heap.size W (of z)) (h2 : ∀ z W', Below (of z).heap.size (of z) W' → Cls of W') (z : σ) :
    CallsIn Fence.wide n Tryd.prog 113 #[.agg #[.int .i64 x.a, .int .i64 x.b, .int .i64 x.c, .int .i64 x.d], .agg #[.int .i64 y.a, .int .i64 y.b, .int .i64 y.c, .int .i64 y.d]] (of z) fun e w'' => e = .returned (.agg #[.int .i64 s.a, .int .i64 s.b, .int .i64 s.c, .int .i64 s.d]) ∧ Cls of w'' := by
  subst hs
  exact rplus_cls x y hx hy h1 h2 z

theorem Cost.ext_list {c d : Cost} (h : c.list = d.list) : c = d := by
  obtain ⟨a, b, e, f⟩ := c
  obtain ⟨a', b', e', f'⟩ := d
  simp only [Cost.list, List.cons.injEq, and_true] at h
  obtain ⟨rfl, rfl, rfl, rfl⟩ := h
  rfl
theorem first_here {t : Town} {dk : Bool} {p : Price} (ht : Fine t) (hp : Fair p) (u : Int) : First t dk p u u (some (zeroC, [])) := by
  refine ⟨.nil u, fun c' l' h => ?_⟩
  have hb := h.bound ht hp
  rw [cmp_key]
  by_cases hl : l' = []
  · subst hl
    cases h
    rw [if_pos (cmpL_refl _), cmpL_refl]
    exact Int.le_refl _
  · have h1 : 0 < l'.length := List.length_pos_iff.2 hl
    have h2 : cmpL zeroC.list c'.list = -1 := by
      rw [cmpC_unf]
      have za : zeroC.a = 0 := rfl
      have zb : zeroC.b = 0 := rfl
      have zc : zeroC.c = 0 := rfl
      by_cases ha : zeroC.a < c'.a
      · rw [if_pos ha]
      · rw [if_neg ha, if_neg (by omega)]
        by_cases hb' : zeroC.b < c'.b
        · rw [if_pos hb']
        · rw [if_neg hb', if_neg (by omega), if_pos (by omega)]
    rw [h2, if_neg (by omega)]
    omega
theorem first_end {t : Town} {dk : Bool} {p : Price} {v to : Int} {E : List (Option Cost)} {ia : Nat} {ca cc k0 : Cost} {acc : List Int} (hC : Costs t dk p to E) (ht : Fine t) (hp : Fair p) (hia : t.places[ia]? = some to) (hcc : E[ia]? = some (some cc)) (hk : addC ca cc = k0)
    (hF : ∀ c' r, First t dk p to to (some (c', r)) → First t dk p v to (some (addC ca c', acc ++ r))) : best t dk p v to = some (k0, acc) := by
  have h0 := first_here (dk := dk) ht hp to
  have h1 := hF _ _ h0
  rw [List.append_nil, addC_zero] at h1
  have h2 := hC.2 ia to hia _ hcc
  obtain ⟨⟨l, hw⟩, hmin⟩ := h2
  have h3 := key_cost (h0.2 _ _ hw)
  have h4 := hmin _ _ (.nil to)
  have h5 : cc = zeroC := Cost.ext_list (cmpL_antisymm h4 h3)
  rw [h5, addC_zero] at hk
  subst hk
  exact ((first_iff ht hp).1 h1).symm
theorem Own.keepB {w w' : World} {base n cap size : Nat} {e : TypeId} {A : Option Addr} {xs : List Value} (o : Own w base e size A n cap xs) (hk : ∀ g : Nat, base ≤ g → g < w.heap.size → w'.heap[g]? = w.heap[g]?) : Own w' base e size A n cap xs := by
  refine ⟨o.1, ?_⟩
  rcases o.2 with h' | ⟨g, cap', cur, hv, hb, hg, hr⟩
  · exact .inl h'
  · exact .inr ⟨g, cap', cur, hv, hb, (hk g hb (Array.getElem?_eq_some_iff.1 hg).1).trans hg, hr⟩

set_option maxRecDepth 100000 in
set_option maxHeartbeats 16000000 in
theorem rfirst_in (A : Option Addr) (n c : Nat) (A' : Option Addr) (m d : Nat) (p : Price) (t : Town) (dk : Bool) (v to : Int) (w : World)
    (hm : m ≤ 20) (ha : IntsAt w w.heap.size A n t.places) (ht : LinksAt w w.heap.size A' m t.links) (hp : Cheap p) (hfine : Fine t) (hfair : Fair p) (hnd : t.places.Nodup) (hv : v ∈ t.places) :
    CallsIn Fence.wide 9 Tryd.prog 57 #[.agg #[.slice A n c, .slice A' m d], .int .i64 v, .int .i64 to, .bool dk, .agg #[.int .i64 p.pace, .int .i64 p.up, .int .i64 p.step]] w (RFirstOut w (best t dk p v to)) := by
  have HT := Lib.hid ht
  have HP := Lib.hid hp
  have HA := Lib.hid ha
  have HFI := Lib.hid hfine
  have HFA := Lib.hid hfair
  have HND := Lib.hid hnd
  have HLm := Lib.hid ht.len
  have HLn := Lib.hid ha.len
  have hn9 : n ≤ 9 := by have := hfine.size; have := ha.len; omega
  obtain ⟨i0, hpi, hi0, hi0l⟩ := placeI_at hv
  have HPI := Lib.hid hpi
  have HI0 := Lib.hid hi0
  have hi0n : i0 < n := by have := HLn.out; omega
  clear ha ht hp hfine hfair hnd hpi hi0 hv
  refine callsIn_of_wp Tryd.func57 rfl trivial ?_ rfl
  simp only [Tryd.ntmps57, List.size_toArray, List.length_cons, List.length_nil, Nat.reduceAdd, Nat.reduceSub, Array.replicate_succ, Array.replicate_zero, List.push_toArray, List.append_toArray, List.nil_append, List.cons_append]
  gi_wp2
  have B0 : Below w.heap.size w (((w.alloc (.cells #[.slice A n c, .slice A' m d] 25)).alloc (.cells #[.int .i64 p.pace, .int .i64 p.up, .int .i64 p.step] 107)).alloc (.cells #[.int .i64 0, .int .i64 0, .int .i64 0, .int .i64 0] 103)) :=
    (((Below.refl w.heap.size w).alloc (Nat.le_refl _) (.cells #[.slice A n c, .slice A' m d] 25)).alloc (by simp) (.cells #[.int .i64 p.pace, .int .i64 p.up, .int .i64 p.step] 107)).alloc (by simp; omega) (.cells #[.int .i64 0, .int .i64 0, .int .i64 0, .int .i64 0] 103)
  have T0 := ((Blk.new w 25 #[.slice A n c, .slice A' m d]).alloc (.cells #[.int .i64 p.pace, .int .i64 p.up, .int .i64 p.step] 107)).alloc (.cells #[.int .i64 0, .int .i64 0, .int .i64 0, .int .i64 0] 103)
  have P0 := (Blk.new (w.alloc (.cells #[.slice A n c, .slice A' m d] 25)) 107 #[.int .i64 p.pace, .int .i64 p.up, .int .i64 p.step]).alloc (.cells #[.int .i64 0, .int .i64 0, .int .i64 0, .int .i64 0] 103)
  have R0 := Blk.new ((w.alloc (.cells #[.slice A n c, .slice A' m d] 25)).alloc (.cells #[.int .i64 p.pace, .int .i64 p.up, .int .i64 p.step] 107)) 103 #[.int .i64 0, .int .i64 0, .int .i64 0, .int .i64 0]
  rw [World.size_alloc] at P0
  rw [World.size_alloc, World.size_alloc] at R0
  have HB0 := Lib.hid B0
  have HT0 := Lib.hid T0
  have HP0 := Lib.hid P0
  have HR0 := Lib.hid R0
  clear B0 T0 P0 R0
  generalize (((w.alloc (.cells #[.slice A n c, .slice A' m d] 25)).alloc (.cells #[.int .i64 p.pace, .int .i64 p.up, .int .i64 p.step] 107)).alloc (.cells #[.int .i64 0, .int .i64 0, .int .i64 0, .int .i64 0] 103)) = w0 at *
  refine ⟨trivial, (callsIn_wide.2 (rcosts_any A n c A' m d p t dk to w0 hm ((HA.out.below HB0.out).more HB0.out.size) ((HT.out.below HB0.out).more HB0.out.size) HP.out HFI.out HFA.out HND.out)).mono ?_⟩
  rintro e w1 ⟨AE, E, rfl, hea, hC, hL, hb1⟩
  have HEA := Lib.hid hea
  have HC := Lib.hid hC
  have HL := Lib.hid hL
  have HB1 := Lib.hid hb1
  have HT1 := Lib.hid (HT0.out.below hb1 HT0.out.lt)
  have HP1 := Lib.hid (HP0.out.below hb1 HP0.out.lt)
  have HR1 := Lib.hid (HR0.out.below hb1 HR0.out.lt)
  have BB1 := Lib.hid (HB0.out.trans (hb1.mono HB0.out.size))
  clear hea hC hL hb1 HT0 HP0 HR0
  have t0 := HT1.out.cell 0
  have t1 := HT1.out.cell 1
  gi_wp2
  refine ⟨trivial, (callsIn_wide.2 (place_any A n c A' m d t v w1 (by unfold maxLen; omega) ((HA.out.below BB1.out).more BB1.out.size))).mono ?_⟩
  rintro e w2 ⟨rfl, hb2⟩
  rw [HPI.out]
  have HEA2 : Hid (EAt w2 w1.heap.size AE n E) := Lib.hid (Reads.below HEA.out hb2)
  have HT2 := Lib.hid (HT1.out.below hb2 HT1.out.lt)
  have HP2 := Lib.hid (HP1.out.below hb2 HP1.out.lt)
  have HR2 := Lib.hid (HR1.out.below hb2 HR1.out.lt)
  have BB2 := Lib.hid (BB1.out.trans (hb2.mono BB1.out.size))
  have hsz2 := hb2.size
  clear hb2 t0 t1 HT1 HP1 HR1
  obtain ⟨r, hr⟩ : ∃ r, E[i0]? = some r := ⟨_, List.getElem?_eq_getElem (by rw [HC.out.1]; exact hi0l)⟩
  have HR := Lib.hid hr
  clear hr
  obtain ⟨be, oe, rfl, hbe, c0, c1, c2, c3⟩ := HEA2.out.cell HR.out
  have hbel : be < w2.heap.size := Nat.lt_of_lt_of_le hbe hsz2
  have f0 := HR2.out.cell 0
  have f1 := HR2.out.cell 1
  have f2 := HR2.out.cell 2
  have f3 := HR2.out.cell 3
  have z0 := HR2.out.frozen 0
  have z1 := HR2.out.frozen 1
  have z2 := HR2.out.frozen 2
  have z3 := HR2.out.frozen 3
  have hrl : w.heap.size + 1 + 1 < w2.heap.size := HR2.out.lt
  cases r with
  | none =>
    have hge : decide ((1000000000 : Int) ≤ (entC none).a) = true := by simp [entC, infC]
    gi_wp2
    have R4 := ret4 HR2.out BB2.out (by omega) (.int .i64 0) (.int .i64 0) (.int .i64 0) (.int .i64 0)
    have R5 := R4.1.alloc (.cells #[.int .i64 (entC none).a, .int .i64 (entC none).b, .int .i64 (entC none).c, .int .i64 (entC none).d] 103)
    have y0 := R5.cell 0
    have y1 := R5.cell 1
    have y2 := R5.cell 2
    have y3 := R5.cell 3
    refine bodyPost_ret (v := .tuple #[.slice none 0 0, costV zeroC, .bool false]) (by simp [results, Tryd.results57, go_sem, y0, y1, y2, y3, zeroC]) rfl ?_
    have hno : best t dk p v to = none := by
      have h := HC.out.2 i0 v HI0.out none HR.out
      exact ((first_iff HFI.out HFA.out (r := none)).1 h).symm
    rw [hno]
    exact ⟨none, 0, 0, zeroC, rfl, fun _ => ⟨rfl, rfl, rfl, rfl⟩, (fun q hq => by cases hq), (fun a ha => by cases ha), R4.2.alloc R4.2.size _⟩
  | some k0 =>
    have hge : decide ((1000000000 : Int) ≤ (entC (some k0)).a) = false := by
      have := (HL.out i0 k0 HR.out).a
      exact decide_eq_false (show ¬ (1000000000 : Int) ≤ k0.a by omega)
    gi_wp2
    have hbW : Below w2.heap.size w2 (w2.alloc (.cells #[.int .i64 (entC (some k0)).a, .int .i64 (entC (some k0)).b, .int .i64 (entC (some k0)).c, .int .i64 (entC (some k0)).d] 103)) := (Below.refl _ _).alloc (Nat.le_refl _) _
    have HS3 : Hid (RFSt w #[.slice A n c, .slice A' m d] p (some ⟨be, oe, none⟩) n E w2.heap.size k0 (w2.alloc (.cells #[.int .i64 (entC (some k0)).a, .int .i64 (entC (some k0)).b, .int .i64 (entC (some k0)).c, .int .i64 (entC (some k0)).d] 103))) := Lib.hid
      ⟨BB2.out.trans (hbW.mono BB2.out.size), HT2.out.below hbW HT2.out.lt, HP2.out.below hbW HP2.out.lt, HR2.out.below hbW HR2.out.lt, (HEA2.out.more hsz2).below hbW, hrl, Blk.new _ _ _⟩
    generalize (w2.alloc (.cells #[.int .i64 (entC (some k0)).a, .int .i64 (entC (some k0)).b, .int .i64 (entC (some k0)).c, .int .i64 (entC (some k0)).d] 103)) = w3 at *
    clear hbW c0 c1 c2 c3 f0 f1 f2 f3 z0 z1 z2 z3
    gi_loopg [1, 15] k0.c.toNat (fun g v1 v15 wr => ∃ (at_ : Int) (ia : Nat) (ca cc : Cost) (acc : List Int) (AO : Option Addr) (capO : Nat), v1 = .int .i64 at_ ∧ v15 = .slice AO acc.length capO ∧ g = cc.c.toNat ∧ Hid (RFSt w #[.slice A n c, .slice A' m d] p (some ⟨be, oe, none⟩) n E w2.heap.size k0 wr ∧ t.places[ia]? = some at_ ∧ E[ia]? = some (some cc) ∧ Walk t dk p v at_ ca acc ∧ addC ca cc = k0 ∧ (∀ c' r, First t dk p at_ to (some (c', r)) → First t dk p v to (some (addC ca c', acc ++ r))) ∧ Own wr (w2.heap.size + 1) 3 1 AO acc.length capO (acc.map (Value.int .i64))))
    case atStart =>
      exact ⟨v, i0, zeroC, k0, [], none, 0, rfl, rfl, rfl, Lib.hid ⟨HS3.out, HI0.out, HR.out, .nil _, zero_addC k0, fun c' r h => by rw [zero_addC]; exact h, Own.none_ _ _ _ _⟩⟩
    case round =>
      obtain ⟨at_, ia, ca, cc, acc, AO, capO, rfl, rfl, hg, HS⟩ := hrel
      clear HS3
      by_cases hne : at_ = to
      · have HNE := Lib.hid hne
        subst hne
        have s0 := HS.out.1.rb.cell 0
        have s1 := HS.out.1.rb.cell 1
        have s2 := HS.out.1.rb.cell 2
        have s3 := HS.out.1.rb.cell 3
        have z0 := HS.out.1.rb.frozen 0
        have z1 := HS.out.1.rb.frozen 1
        have z2 := HS.out.1.rb.frozen 2
        have z3 := HS.out.1.rb.frozen 3
        have f0 := HS.out.1.fb.cell 0
        have f1 := HS.out.1.fb.cell 1
        have f2 := HS.out.1.fb.cell 2
        have f3 := HS.out.1.fb.cell 3
        have HEND := Lib.hid (first_end HC.out HFI.out HFA.out HS.out.2.1 HS.out.2.2.1 HS.out.2.2.2.2.1 HS.out.2.2.2.2.2.1)
        gi_wp2
        gi_region
        all_goals
          gi_wp2
          have R4 := ret4 (w := w) HS.out.1.rb (HS.out.1.bel) (by omega) (.int .i64 k0.a) (.int .i64 k0.b) (.int .i64 k0.c) (.int .i64 k0.d)
          have L4 := (ret4 (w := wr) (B := w.heap.size + 1 + 1) HS.out.1.rb (Below.refl _ _) (Nat.le_refl _) (.int .i64 k0.a) (.int .i64 k0.b) (.int .i64 k0.c) (.int .i64 k0.d))
          have y0 := R4.1.cell 0
          have y1 := R4.1.cell 1
          have y2 := R4.1.cell 2
          have y3 := R4.1.cell 3
          refine bodyPost_ret (v := .tuple #[.slice AO acc.length capO, costV k0, .bool true]) (by simp [results, Tryd.results57, go_sem, y0, y1, y2, y3]) rfl ?_
          rw [HEND.out]
          have hown := HS.out.2.2.2.2.2.2.keepB (w' := ((((wr.setCell ⟨w.heap.size + 1 + 1, 0, none⟩ (.int .i64 k0.a)).setCell ⟨w.heap.size + 1 + 1, 1, none⟩ (.int .i64 k0.b)).setCell ⟨w.heap.size + 1 + 1, 2, none⟩ (.int .i64 k0.c)).setCell ⟨w.heap.size + 1 + 1, 3, none⟩ (.int .i64 k0.d))) (fun g hg _ => by
            have hne : g ≠ w.heap.size + 1 + 1 := by omega
            exact (Below.heap_setCell _ ⟨w.heap.size + 1 + 1, 3, none⟩ _ g hne).trans ((Below.heap_setCell _ ⟨w.heap.size + 1 + 1, 2, none⟩ _ g hne).trans ((Below.heap_setCell _ ⟨w.heap.size + 1 + 1, 1, none⟩ _ g hne).trans (Below.heap_setCell _ ⟨w.heap.size + 1 + 1, 0, none⟩ _ g hne))))
          exact ⟨AO, acc.length, capO, k0, rfl, (fun h => by cases h), (fun q hq => by cases hq; exact ⟨rfl, hown.reads (Nat.le_refl _)⟩), (fun a ha => ⟨by have := (hown.lt ha).1; omega, (hown.lt ha).2⟩), below_drewN R4.2 1⟩
      · have HNE := Lib.hid hne
        have t0 := HS.out.1.tb.cell 0
        have t1 := HS.out.1.tb.cell 1
        have hnb : (at_ != to) = true := by simpa using HNE.out
        gi_wp2
        gi_loopw [1, 15, 42] (fun v1 v15 vj wr => ∃ j : Nat, v1 = .int .i64 at_ ∧ v15 = .slice AO acc.length capO ∧ vj = .int .i64 j ∧ j ≤ m ∧ Hid (RFSt w #[.slice A n c, .slice A' m d] p (some ⟨be, oe, none⟩) n E w2.heap.size k0 wr ∧ Own wr (w2.heap.size + 1) 3 1 AO acc.length capO (acc.map (Value.int .i64)) ∧
          ∀ y ∈ t.links.take j, ∀ n' cy (i' : Nat) d', leads dk p y at_ = some (n', cy) → t.places[i']? = some n' → E[i']? = some (some d') → addC cy d' ≠ cc)) (fun _ _ vj _ => m - (intOf vj).toNat)
        case atStart => exact ⟨0, rfl, rfl, rfl, Nat.zero_le _, Lib.hid ⟨HS.out.1, HS.out.2.2.2.2.2.2, fun y hy => by simp at hy⟩⟩
        case round =>
          obtain ⟨j, rfl, rfl, rfl, hjm, HU⟩ := hrel
          have HREL := Lib.hid HS.out.2
          clear HS
          by_cases hjl : j < m
          · obtain ⟨b, off, x, rfl, hb, hx, l0, l1, l2, l3, l4⟩ := (HT.out.below HU.out.1.bel).cell hjl
            have hbl : b < wr.heap.size := Nat.lt_of_lt_of_le hb HU.out.1.bel.size
            have HX := Lib.hid hx
            clear hx hb t0 t1
            have p0 := HU.out.1.pb.cell 0
            have p1 := HU.out.1.pb.cell 1
            have p2 := HU.out.1.pb.cell 2
            have hpl := HU.out.1.pb.lt
            have htl := HU.out.1.tb.lt
            gi_wp2
            have HS4 : Hid (RFSt w #[.slice A n c, .slice (some ⟨b, off, none⟩) m d] p (some ⟨be, oe, none⟩) n E w2.heap.size k0 (wr.alloc (.cells #[.int .i64 x.id, .int .i64 x.fr, .int .i64 x.to, .int .i64 x.steps, .int .i64 x.paces] 45)) ∧ Own (wr.alloc (.cells #[.int .i64 x.id, .int .i64 x.fr, .int .i64 x.to, .int .i64 x.steps, .int .i64 x.paces] 45)) (w2.heap.size + 1) 3 1 AO acc.length capO (acc.map (Value.int .i64))) := Lib.hid ⟨HU.out.1.below ((Below.refl _ _).alloc (Nat.le_refl _) _), HU.out.2.1.alloc _⟩
            have HLB4 : Hid (Blk (wr.alloc (.cells #[.int .i64 x.id, .int .i64 x.fr, .int .i64 x.to, .int .i64 x.steps, .int .i64 x.paces] 45)) wr.heap.size 45 #[.int .i64 x.id, .int .i64 x.fr, .int .i64 x.to, .int .i64 x.steps, .int .i64 x.paces]) := Lib.hid (Blk.new _ _ _)
            have HNO := Lib.hid HU.out.2.2
            have HLO : Hid (w2.heap.size + 1 ≤ wr.heap.size) := Lib.hid (HU.out.1.fb.lt)
            have HXM : Hid (x ∈ t.links) := Lib.hid (List.mem_of_getElem? HX.out)
            have HFit : Hid (Fit x) := Lib.hid ⟨HFI.out.steps x HXM.out, HFI.out.paces x HXM.out⟩
            clear HU p0 p1 p2 l0 l1 l2 l3 l4 hbl hpl htl
            generalize (wr.alloc (.cells #[.int .i64 x.id, .int .i64 x.fr, .int .i64 x.to, .int .i64 x.steps, .int .i64 x.paces] 45)) = w4 at *
            have e1 : ((j + 1 : Nat) : Int) = (j : Int) + 1 := by omega
            refine ⟨trivial, (callsIn_wide.2 (leads_any x at_ dk p w4 HFit.out HP.out)).mono ?_⟩
            rcases hld : leads dk p x at_ with _ | ⟨v', cx⟩
            · rintro e w5 ⟨he, hb5⟩
              obtain rfl : e = .returned (.tuple #[.int .i64 0, .agg #[.int .i64 0, .int .i64 0, .int .i64 0, .int .i64 0], .bool false]) := he
              have HLD := Lib.hid hld
              have HS5 := Lib.hid (show _ ∧ _ from ⟨HS4.out.1.below hb5, HS4.out.2.below hb5 (Nat.le_refl _)⟩)
              clear hld hb5
              gi_wp2
              have HS6 := Lib.hid (show _ ∧ _ from ⟨HS5.out.1.below ((Below.refl _ _).alloc (Nat.le_refl _) (.cells #[.int .i64 0, .int .i64 0, .int .i64 0, .int .i64 0] 103)), HS5.out.2.alloc (.cells #[.int .i64 0, .int .i64 0, .int .i64 0, .int .i64 0] 103)⟩)
              generalize (w5.alloc (.cells #[.int .i64 0, .int .i64 0, .int .i64 0, .int .i64 0] 103)) = w6 at *
              refine wpIn_region_old (AF := ?AF1) [0, 1, 2, 3, 4, 5, 6, 7, 8, 9, 10, 11, 12, 13, 14, 15, 16, 17] [] [true, true, true, true, true, true, true, true, true, true, true, true, true, true, true, true, true, true] [false, false, false, false, false, false, false, false, false, false, false, false, false, false, false, false, false, false] (by kernel_rfl) (by kernel_rfl) (by kernel_rfl) (by kernel_rfl) (by kernel_rfl) (below_drewN (Below.refl _ _) 1) ?hq1 ?ht1
              case hq1 =>
                rintro σ hσ of hof hcl
                have HOF := Lib.hid hof
                have HCL := Lib.hid hcl
                clear hof hcl
                have hfw : ∀ f, Fence.wide.fn f := fun _ => trivial
                simp only [pickB]
                repeat (gi_big_quiet_step (fail))
                refine wpQuietIn_nil ?_
                exact rfl
              case ht1 =>
                intro W hb
                have HS7 := Lib.hid (show _ ∧ _ from ⟨HS6.out.1.below hb, HS6.out.2.below hb (Nat.le_refl _)⟩)
                clear hb
                simp only [pickB]
                refine wpE_nil ?_
                gi_wp2
                refine ⟨⟨j + 1, rfl, rfl, by rw [e1], by omega, Lib.hid ⟨HS7.out.1, HS7.out.2, fun y hy n' cy i' d' g1 g2 g3 => ?_⟩⟩, by simp [intOf]; omega⟩
                rw [List.take_add_one, HX.out] at hy
                rcases List.mem_append.1 hy with hy | hy
                · exact HNO.out y hy n' cy i' d' g1 g2 g3
                · obtain rfl : y = x := by simpa using hy
                  rw [HLD.out] at g1
                  cases g1
            · rintro e w5 ⟨he, hb5⟩
              obtain rfl : e = .returned (.tuple #[.int .i64 v', .agg #[.int .i64 cx.a, .int .i64 cx.b, .int .i64 cx.c, .int .i64 cx.d], .bool true]) := he
              have HLD := Lib.hid hld
              have HS5 := Lib.hid (show _ ∧ _ from ⟨HS4.out.1.below hb5, HS4.out.2.below hb5 (Nat.le_refl _)⟩)
              have HLB5 := Lib.hid (HLB4.out.below hb5 HLB4.out.lt)
              clear hld hb5
              obtain ⟨i2, hpi, hi2, hi2l⟩ := placeI_at (leads_ends HXM.out HFI.out HLD.out).2
              have HPI2 := Lib.hid hpi
              have HI2 := Lib.hid hi2
              have hi2n : i2 < n := by have := HLn.out; omega
              obtain ⟨r, hr⟩ : ∃ r, E[i2]? = some r := ⟨_, List.getElem?_eq_getElem (by rw [HC.out.1]; exact hi2l)⟩
              have HR2 := Lib.hid hr
              have HCX := Lib.hid (leads_cost HXM.out HFI.out HFA.out HLD.out)
              have HSM : Hid (Small cx ∧ Small (entC r)) := Lib.hid ⟨by
                have h1 := HCX.out
                exact ⟨by omega, by omega, by omega, by omega⟩, Small.ent fun d hd => HL.out i2 d (by rw [HR2.out, hd])⟩
              have HUQ : Hid (∀ (i' : Nat), t.places[i']? = some v' → i' = i2) := Lib.hid (fun i' h => by
                have hl := (List.getElem?_eq_some_iff.1 h).1
                exact (List.getElem?_inj hl HND.out).1 (h.trans HI2.out.symm))
              have HPIA : Hid (placeI t.places at_ = ia ∧ ia < n) := Lib.hid (by
                obtain ⟨i', h1, h2, h3⟩ := placeI_at (List.mem_of_getElem? HREL.out.1)
                have h4 : i' = ia := (List.getElem?_inj h3 HND.out).1 (h2.trans HREL.out.1.symm)
                rw [← h4]
                exact ⟨h1, by have := HLn.out; omega⟩)
              have hian : ia < n := HPIA.out.2
              have hi2I : (0 : Int) ≤ (i2 : Int) ∧ (i2 : Int) < (n : Int) := by omega
              have hiaI : (0 : Int) ≤ (ia : Int) ∧ (ia : Int) < (n : Int) := by omega
              clear hpi hi2 hi2l hr
              gi_wp2
              have HS6 := Lib.hid (show _ ∧ _ from ⟨HS5.out.1.below ((Below.refl _ _).alloc (Nat.le_refl _) (.cells #[.int .i64 cx.a, .int .i64 cx.b, .int .i64 cx.c, .int .i64 cx.d] 103)), HS5.out.2.alloc (.cells #[.int .i64 cx.a, .int .i64 cx.b, .int .i64 cx.c, .int .i64 cx.d] 103)⟩)
              have HLB6 := Lib.hid (HLB5.out.alloc (.cells #[.int .i64 cx.a, .int .i64 cx.b, .int .i64 cx.c, .int .i64 cx.d] 103))
              have HCB6 : Hid (Blk (w5.alloc (.cells #[.int .i64 cx.a, .int .i64 cx.b, .int .i64 cx.c, .int .i64 cx.d] 103)) w5.heap.size 103 #[.int .i64 cx.a, .int .i64 cx.b, .int .i64 cx.c, .int .i64 cx.d]) := Lib.hid (Blk.new _ _ _)
              generalize (w5.alloc (.cells #[.int .i64 cx.a, .int .i64 cx.b, .int .i64 cx.c, .int .i64 cx.d] 103)) = w6 at *
              have hcb6 : w5.heap.size < w6.heap.size := HCB6.out.lt
              have hbe6 : be < w6.heap.size := by have := HS6.out.1.fb.lt; omega
              have htl6 : w.heap.size < w6.heap.size := HS6.out.1.tb.lt
              obtain ⟨s, hs⟩ : ∃ s, addC cx (entC r) = s := ⟨_, rfl⟩
              have HSS := Lib.hid hs
              clear hs
              by_cases hsc : s = cc
              · have HSC : Hid (decide (s = cc) = true) := Lib.hid (decide_eq_true hsc)
                clear hsc
                refine wpIn_region_old (AF := ?AF2) [0, 1, 2, 3, 4, 5, 6, 7, 8, 9, 10, 11, 12, 13, 14, 15, 16, 17] [] [true, true, true, true, true, true, true, true, true, true, true, true, true, true, true, true, true, true] [false, false, false, false, false, false, false, false, false, false, false, false, false, false, false, false, false, false] (by kernel_rfl) (by kernel_rfl) (by kernel_rfl) (by kernel_rfl) (by kernel_rfl) (below_drewN (Below.refl _ _) 1) ?hq2 ?ht2
                case hq2 =>
                  rintro σ hσ of hof hcl
                  have HOF := Lib.hid hof
                  have HCL := Lib.hid hcl
                  clear hof hcl
                  have q0 : ∀ z, (of z).cell? ⟨w5.heap.size, 0, none⟩ = some (.int .i64 cx.a) := fun z => (HCB6.out.below (HOF.out z) hcb6).cell 0
                  have q1 : ∀ z, (of z).cell? ⟨w5.heap.size, 1, none⟩ = some (.int .i64 cx.b) := fun z => (HCB6.out.below (HOF.out z) hcb6).cell 1
                  have q2 : ∀ z, (of z).cell? ⟨w5.heap.size, 2, none⟩ = some (.int .i64 cx.c) := fun z => (HCB6.out.below (HOF.out z) hcb6).cell 2
                  have q3 : ∀ z, (of z).cell? ⟨w5.heap.size, 3, none⟩ = some (.int .i64 cx.d) := fun z => (HCB6.out.below (HOF.out z) hcb6).cell 3
                  have t0 : ∀ z, (of z).cell? ⟨w.heap.size, 0, none⟩ = some (.slice A n c) := fun z => (HS6.out.1.tb.below (HOF.out z) htl6).cell 0
                  have t1 : ∀ z, (of z).cell? ⟨w.heap.size, 1, none⟩ = some (.slice (some ⟨b, off, none⟩) m d) := fun z => (HS6.out.1.tb.below (HOF.out z) htl6).cell 1
                  have v0 : ∀ z, (of z).cell? ⟨be, oe + i2 * 4, none⟩ = some (.int .i64 (entC r).a) := fun z => ((HS6.out.1.below (HOF.out z)).entry HR2.out).1
                  have v1 : ∀ z, (of z).cell? ⟨be, oe + i2 * 4 + 1, none⟩ = some (.int .i64 (entC r).b) := fun z => ((HS6.out.1.below (HOF.out z)).entry HR2.out).2.1
                  have v2 : ∀ z, (of z).cell? ⟨be, oe + i2 * 4 + 2, none⟩ = some (.int .i64 (entC r).c) := fun z => ((HS6.out.1.below (HOF.out z)).entry HR2.out).2.2.1
                  have v3 : ∀ z, (of z).cell? ⟨be, oe + i2 * 4 + 3, none⟩ = some (.int .i64 (entC r).d) := fun z => ((HS6.out.1.below (HOF.out z)).entry HR2.out).2.2.2
                  have u0 : ∀ z, (of z).cell? ⟨be, oe + ia * 4, none⟩ = some (.int .i64 cc.a) := fun z => ((HS6.out.1.below (HOF.out z)).entry HREL.out.2.1).1
                  have u1 : ∀ z, (of z).cell? ⟨be, oe + ia * 4 + 1, none⟩ = some (.int .i64 cc.b) := fun z => ((HS6.out.1.below (HOF.out z)).entry HREL.out.2.1).2.1
                  have u2 : ∀ z, (of z).cell? ⟨be, oe + ia * 4 + 2, none⟩ = some (.int .i64 cc.c) := fun z => ((HS6.out.1.below (HOF.out z)).entry HREL.out.2.1).2.2.1
                  have u3 : ∀ z, (of z).cell? ⟨be, oe + ia * 4 + 3, none⟩ = some (.int .i64 cc.d) := fun z => ((HS6.out.1.below (HOF.out z)).entry HREL.out.2.1).2.2.2
                  have hfw : ∀ f, Fence.wide.fn f := fun _ => trivial
                  simp only [pickB]
                  iterate 7 (gi_big_quiet_step (exact place_cls A n c (some ⟨b, off, none⟩) m d t v' i2 HPI2.out (by unfold maxLen; omega) w.heap.size HS6.out.1.bel.size (HA.out.below HS6.out.1.bel) HOF.out HCL.out _))
                  iterate 3 (gi_big_quiet_step (exact rplus_cls' cx (entC r) s HSS.out HSM.out.1 HSM.out.2 HOF.out HCL.out _))
                  iterate 6 (gi_big_quiet_step (exact place_cls A n c (some ⟨b, off, none⟩) m d t at_ ia HPIA.out.1 (by unfold maxLen; omega) w.heap.size HS6.out.1.bel.size (HA.out.below HS6.out.1.bel) HOF.out HCL.out _))
                  have hql : ∀ W : World, (binOp .eql 103 (.agg #[.int .i64 s.a, .int .i64 s.b, .int .i64 s.c, .int .i64 s.d]) (.agg #[.int .i64 cc.a, .int .i64 cc.b, .int .i64 cc.c, .int .i64 cc.d])).run Tryd.prog W = .ok (.bool true) W := fun W => (eql_cost s cc W).trans (by rw [HSC.out])
                  gi_big_quiet_step (fail)
                  gi_big_quiet_step (fail)
                  refine wpQuietIn_nil ?_
                  exact rfl
                case ht2 =>
                  intro W hb
                  have HS7 := Lib.hid (show _ ∧ _ from ⟨HS6.out.1.below hb, HS6.out.2.below hb (Nat.le_refl _)⟩)
                  have HLB7 := Lib.hid (HLB6.out.below hb HLB6.out.lt)
                  clear hb
                  simp only [pickB]
                  refine wpE_nil ?_
                  obtain ⟨d1, hd1⟩ : ∃ d1, r = some d1 := by
                    cases hr1 : r with
                    | some d1 => exact ⟨d1, rfl⟩
                    | none =>
                      exfalso
                      have h1 := HCX.out
                      have h2 : s.a = cx.a + 1000000000 := by rw [← HSS.out, hr1]; rfl
                      have h3 := of_decide_eq_true HSC.out
                      have h4 := (HL.out ia cc HREL.out.2.1).a
                      rw [h3] at h2
                      omega
                  have HD1 : Hid (E[i2]? = some (some d1)) := Lib.hid (by rw [HR2.out, hd1])
                  have HADD : Hid (addC cx d1 = cc) := Lib.hid (by
                    have h3 := of_decide_eq_true HSC.out
                    rw [← h3, ← HSS.out, hd1]
                    rfl)
                  have HAL : Hid (acc.length ≤ 2000) := Lib.hid (by
                    have h1 := HREL.out.2.2.1.bound HFI.out HFA.out
                    have h2 := (HL.out i0 k0 HR.out).d
                    have h3 := (HL.out ia cc HREL.out.2.1).d
                    have h4 : ca.d + cc.d = k0.d := by rw [← HREL.out.2.2.2.1]; rfl
                    omega)
                  have hal := HAL.out
                  have l0 := HLB7.out.cell 0
                  have HOW := Lib.hid (HS7.out.2.alloc (.cells #[.int .i64 x.id] 3))
                  have HOB : Hid (Blk (W.alloc (.cells #[.int .i64 x.id] 3)) W.heap.size 3 #[.int .i64 x.id]) := Lib.hid (Blk.new _ _ _)
                  have HSW := Lib.hid (HS7.out.1.below ((Below.refl _ _).alloc (Nat.le_refl _) (.cells #[.int .i64 x.id] 3)))
                  gi_wp2_with (first | (gi_at_builtin; refine wpListIn_append_any rfl (.tmp 73) (.tmp 76) (by rfl) elem_int rfl HOW.out rfl (one_int (x := x.id) HOB.out.lt (HOB.out.cell 0)) (ints_one _) (by unfold maxLen; omega) (by omega) HSW.out.fb.lt ?_) | fail)
                  rintro A8 c8 W8 hown hgr hA8
                  have hbV : Below (w2.heap.size + 1) (W.alloc (.cells #[.int .i64 x.id] 3)) W8 := below_of_grown hgr (fun k hk => own_row HOW.out hk) HSW.out.fb.lt
                  have HS8 := Lib.hid (HSW.out.low hbV)
                  have HOW8 := Lib.hid hown
                  clear hown hgr hA8 hbV l0
                  gi_wp2
                  gi_roundg (d1.c.toNat)
                  case rel =>
                    refine ⟨v', i2, addC ca cx, d1, acc ++ [x.id], A8, c8, rfl, by simp, rfl, Lib.hid ⟨HS8.out, HI2.out, HD1.out, HREL.out.2.2.1.snoc HXM.out HLD.out, by rw [addC_assoc, HADD.out]; exact HREL.out.2.2.2.1, fun c' r' hf => ?_, ?_⟩⟩
                    · have h1 := (greedy HC.out HFI.out HFA.out HREL.out.1 HREL.out.2.1 HNE.out).2 j x v' cx i2 d1 HX.out HLD.out HI2.out HD1.out HADD.out HNO.out c' r' hf
                      have h2 := HREL.out.2.2.2.2.1 _ _ h1
                      rw [addC_assoc, List.append_assoc]
                      exact h2
                    · have h := HOW8.out
                      simpa using h
                  case measure =>
                    have h1 := HCX.out
                    have h2 := (HL.out i2 d1 HD1.out).c
                    have h3 : cx.c + d1.c = cc.c := by rw [← HADD.out]; rfl
                    rw [hg]
                    omega
              · have HSC : Hid (decide (s = cc) = false) := Lib.hid (decide_eq_false hsc)
                clear hsc
                refine wpIn_region_old (AF := ?AF3) [0, 1, 2, 3, 4, 5, 6, 7, 8, 9, 10, 11, 12, 13, 14, 15, 16, 17] [] [true, true, true, true, true, true, true, true, true, true, true, true, true, true, true, true, true, true] [false, false, false, false, false, false, false, false, false, false, false, false, false, false, false, false, false, false] (by kernel_rfl) (by kernel_rfl) (by kernel_rfl) (by kernel_rfl) (by kernel_rfl) (below_drewN (Below.refl _ _) 1) ?hq3 ?ht3
                case hq3 =>
                  rintro σ hσ of hof hcl
                  have HOF := Lib.hid hof
                  have HCL := Lib.hid hcl
                  clear hof hcl
                  have q0 : ∀ z, (of z).cell? ⟨w5.heap.size, 0, none⟩ = some (.int .i64 cx.a) := fun z => (HCB6.out.below (HOF.out z) hcb6).cell 0
                  have q1 : ∀ z, (of z).cell? ⟨w5.heap.size, 1, none⟩ = some (.int .i64 cx.b) := fun z => (HCB6.out.below (HOF.out z) hcb6).cell 1
                  have q2 : ∀ z, (of z).cell? ⟨w5.heap.size, 2, none⟩ = some (.int .i64 cx.c) := fun z => (HCB6.out.below (HOF.out z) hcb6).cell 2
                  have q3 : ∀ z, (of z).cell? ⟨w5.heap.size, 3, none⟩ = some (.int .i64 cx.d) := fun z => (HCB6.out.below (HOF.out z) hcb6).cell 3
                  have t0 : ∀ z, (of z).cell? ⟨w.heap.size, 0, none⟩ = some (.slice A n c) := fun z => (HS6.out.1.tb.below (HOF.out z) htl6).cell 0
                  have t1 : ∀ z, (of z).cell? ⟨w.heap.size, 1, none⟩ = some (.slice (some ⟨b, off, none⟩) m d) := fun z => (HS6.out.1.tb.below (HOF.out z) htl6).cell 1
                  have v0 : ∀ z, (of z).cell? ⟨be, oe + i2 * 4, none⟩ = some (.int .i64 (entC r).a) := fun z => ((HS6.out.1.below (HOF.out z)).entry HR2.out).1
                  have v1 : ∀ z, (of z).cell? ⟨be, oe + i2 * 4 + 1, none⟩ = some (.int .i64 (entC r).b) := fun z => ((HS6.out.1.below (HOF.out z)).entry HR2.out).2.1
                  have v2 : ∀ z, (of z).cell? ⟨be, oe + i2 * 4 + 2, none⟩ = some (.int .i64 (entC r).c) := fun z => ((HS6.out.1.below (HOF.out z)).entry HR2.out).2.2.1
                  have v3 : ∀ z, (of z).cell? ⟨be, oe + i2 * 4 + 3, none⟩ = some (.int .i64 (entC r).d) := fun z => ((HS6.out.1.below (HOF.out z)).entry HR2.out).2.2.2
                  have u0 : ∀ z, (of z).cell? ⟨be, oe + ia * 4, none⟩ = some (.int .i64 cc.a) := fun z => ((HS6.out.1.below (HOF.out z)).entry HREL.out.2.1).1
                  have u1 : ∀ z, (of z).cell? ⟨be, oe + ia * 4 + 1, none⟩ = some (.int .i64 cc.b) := fun z => ((HS6.out.1.below (HOF.out z)).entry HREL.out.2.1).2.1
                  have u2 : ∀ z, (of z).cell? ⟨be, oe + ia * 4 + 2, none⟩ = some (.int .i64 cc.c) := fun z => ((HS6.out.1.below (HOF.out z)).entry HREL.out.2.1).2.2.1
                  have u3 : ∀ z, (of z).cell? ⟨be, oe + ia * 4 + 3, none⟩ = some (.int .i64 cc.d) := fun z => ((HS6.out.1.below (HOF.out z)).entry HREL.out.2.1).2.2.2
                  have hfw : ∀ f, Fence.wide.fn f := fun _ => trivial
                  simp only [pickB]
                  iterate 7 (gi_big_quiet_step (exact place_cls A n c (some ⟨b, off, none⟩) m d t v' i2 HPI2.out (by unfold maxLen; omega) w.heap.size HS6.out.1.bel.size (HA.out.below HS6.out.1.bel) HOF.out HCL.out _))
                  iterate 3 (gi_big_quiet_step (exact rplus_cls' cx (entC r) s HSS.out HSM.out.1 HSM.out.2 HOF.out HCL.out _))
                  iterate 6 (gi_big_quiet_step (exact place_cls A n c (some ⟨b, off, none⟩) m d t at_ ia HPIA.out.1 (by unfold maxLen; omega) w.heap.size HS6.out.1.bel.size (HA.out.below HS6.out.1.bel) HOF.out HCL.out _))
                  have hql : ∀ W : World, (binOp .eql 103 (.agg #[.int .i64 s.a, .int .i64 s.b, .int .i64 s.c, .int .i64 s.d]) (.agg #[.int .i64 cc.a, .int .i64 cc.b, .int .i64 cc.c, .int .i64 cc.d])).run Tryd.prog W = .ok (.bool false) W := fun W => (eql_cost s cc W).trans (by rw [HSC.out])
                  gi_big_quiet_step (fail)
                  gi_big_quiet_step (fail)
                  refine wpQuietIn_nil ?_
                  exact rfl
                case ht3 =>
                  intro W hb
                  have HS7 := Lib.hid (show _ ∧ _ from ⟨HS6.out.1.below hb, HS6.out.2.below hb (Nat.le_refl _)⟩)
                  clear hb
                  simp only [pickB]
                  refine wpE_nil ?_
                  gi_wp2
                  refine ⟨⟨j + 1, rfl, rfl, by rw [e1], by omega, Lib.hid ⟨HS7.out.1, HS7.out.2, fun y hy n' cy i' d' g1 g2 g3 => ?_⟩⟩, by simp [intOf]; omega⟩
                  rw [List.take_add_one, HX.out] at hy
                  rcases List.mem_append.1 hy with hy | hy
                  · exact HNO.out y hy n' cy i' d' g1 g2 g3
                  · obtain rfl : y = x := by simpa using hy
                    rw [HLD.out] at g1
                    cases g1
                    obtain rfl := HUQ.out i' g2
                    rw [HR2.out] at g3
                    cases g3
                    have h1 := of_decide_eq_false HSC.out
                    intro h2
                    exact h1 (HSS.out.symm.trans h2)
          · obtain rfl : j = m := by omega
            exfalso
            obtain ⟨x, hx, n', cx, i2, d', h1, h2, h3, h4⟩ := (greedy HC.out HFI.out HFA.out HREL.out.1 HREL.out.2.1 HNE.out).1
            exact HU.out.2.2 x (by rw [List.take_of_length_le (by rw [HLm.out]; exact Nat.le_refl _)]; exact hx) n' cx i2 d' h1 h2 h3 h4

theorem rfirst_any (A : Option Addr) (n c : Nat) (A' : Option Addr) (m d : Nat) (p : Price) (t : Town) (dk : Bool) (v to : Int) (w : World)
    (hm : m ≤ 20) (ha : IntsAt w w.heap.size A n t.places) (ht : LinksAt w w.heap.size A' m t.links) (hp : Cheap p) (hfine : Fine t) (hfair : Fair p) (hnd : t.places.Nodup) (hv : v ∈ t.places) :
    Calls Tryd.prog 57 #[.agg #[.slice A n c, .slice A' m d], .int .i64 v, .int .i64 to, .bool dk, .agg #[.int .i64 p.pace, .int .i64 p.up, .int .i64 p.step]] w (RFirstOut w (best t dk p v to)) :=
  callsIn_wide.1 (rfirst_in A n c A' m d p t dk v to w hm ha ht hp hfine hfair hnd hv)
end Go.Proofs.YtahkjagjcogeiaaDoor
/- The answer's Toil. -/
namespace Go.Proofs.YtahkjagjcogeiaaDoor
open Go.RowKit Go.Shelf
set_option linter.unusedVariables false

set_option maxRecDepth 100000 in
set_option maxHeartbeats 16000000 in
theorem rtoil_in (A : Option Addr) (n c : Nat) (A' : Option Addr) (m d : Nat) (t : Town) (u v : Int) (dk : Bool) (w : World)
    (hn : n ≤ 1000) (hm : m ≤ 1000) (ht : TownAt w w.heap.size A n A' m t) :
    CallsIn Fence.wide 9 Tryd.prog 36 #[.agg #[.slice A n c, .slice A' m d], .int .i64 u, .int .i64 v, .bool dk] w (ToilOut w (wayT t u v dk) (wayE t u v dk)) := by
  have HT := Lib.hid ht
  clear ht
  refine callsIn_of_wp Tryd.func36 rfl trivial ?_ rfl
  simp only [Tryd.ntmps36, List.size_toArray, List.length_cons, List.length_nil, Nat.reduceAdd, Nat.reduceSub, Array.replicate_succ, Array.replicate_zero, List.push_toArray, List.append_toArray, List.nil_append, List.cons_append]
  gi_wp2
  have HLay := Lib.hid (Lay.two w 25 #[.slice A n c, .slice A' m d] 59 #[.int .i64 0, .int .i64 0])
  generalize ((w.alloc (.cells #[.slice A n c, .slice A' m d] 25)).alloc (.cells #[.int .i64 0, .int .i64 0] 59)) = w0 at *
  refine ⟨trivial, (callsIn_wide.2 (rasked_any A n c A' m d t u v w0 hn hm ((HT.out.below HLay.out.1).more HLay.out.1.size))).mono ?_⟩
  rintro e W1 ⟨rfl, hb⟩
  replace HLay := Lib.hid (HLay.out.below hb)
  clear hb
  obtain ⟨ea, hea⟩ : ∃ ea, askE t [u, v] = ea := ⟨_, rfl⟩
  rw [hea]
  have HEA := Lib.hid hea
  clear hea
  have x0_0 := (HLay.out.blk 0 rfl).cell 0
  have x0_1 := (HLay.out.blk 0 rfl).cell 1
  have l0_ := HLay.out.lt 0 rfl
  have x1_0 := (HLay.out.blk 1 rfl).cell 0
  have z1_0 := (HLay.out.blk 1 rfl).frozen 0
  have x1_1 := (HLay.out.blk 1 rfl).cell 1
  have z1_1 := (HLay.out.blk 1 rfl).frozen 1
  have l1_ := HLay.out.lt 1 rfl
  by_cases h0 : ea = 0
  · subst h0
    obtain ⟨htb, hhas⟩ := askE_zero HEA.out
    have HG := Lib.hid (goodT htb)
    have HUV := Lib.hid (hasB_mem hhas)
    have hm20 : m ≤ 20 := by have := HG.out.links; have := HT.out.links.len; omega
    clear htb hhas
    gi_wp2
    clear x0_0 x0_1 l0_ x1_0 z1_0 x1_1 z1_1 l1_
    refine ⟨trivial, (callsIn_wide.2 (rfirst_any A n c A' m d freeP t dk u v W1 hm20 ((HT.out.places.below HLay.out.1).more HLay.out.1.size) ((HT.out.links.below HLay.out.1).more HLay.out.1.size) freeP_cheap HG.out.fine freeP_fair HG.out.nodup (HUV.out u (by simp)))).mono ?_⟩
    rintro e W2 ⟨AO, nO, cO, co, rfl, hno, hq, hfr, hb⟩
    replace HLay := Lib.hid (HLay.out.below hb)
    clear hb
    have HNO := Lib.hid hno
    have HQ := Lib.hid hq
    clear hno hq hfr
    obtain ⟨rr, hrr⟩ : ∃ rr, best t dk freeP u v = rr := ⟨_, rfl⟩
    rw [hrr] at HNO HQ ⊢
    have HBE := Lib.hid hrr
    clear hrr
    cases rr with
    | none =>
      obtain ⟨rfl, rfl, rfl, rfl⟩ := HNO.out rfl
      have x0_0 := (HLay.out.blk 0 rfl).cell 0
      have x0_1 := (HLay.out.blk 0 rfl).cell 1
      have l0_ := HLay.out.lt 0 rfl
      have x1_0 := (HLay.out.blk 1 rfl).cell 0
      have z1_0 := (HLay.out.blk 1 rfl).frozen 0
      have x1_1 := (HLay.out.blk 1 rfl).cell 1
      have z1_1 := (HLay.out.blk 1 rfl).frozen 1
      have l1_ := HLay.out.lt 1 rfl
      gi_wp2
      clear x0_0 x0_1 l0_ x1_0 z1_0 x1_1 z1_1 l1_
      obtain ⟨e1, e2, e3⟩ := way_none (t := t) (u := u) (v := v) (dk := dk) HEA.out HBE.out
      have R1 := ret2 (HLay.out.blk 1 rfl) HLay.out.1 (by omega) (.int .i64 (0)) (.int .i64 (0))
      have R2 := R1.1.alloc (.cells #[.int .i64 zeroC.a, .int .i64 zeroC.b, .int .i64 zeroC.c, .int .i64 zeroC.d] 103)
      have y0 := R2.cell 0
      have y1 := R2.cell 1
      exact bodyPost_ret (v := .tuple #[.agg #[.int .i64 (0), .int .i64 (0)], .int .i64 6]) (by simp [results, Tryd.results36, go_sem, y0, y1]) rfl ⟨by rw [e1, e3], R1.2.alloc R1.2.size _⟩
    | some q0 =>
      obtain ⟨q1, l⟩ := q0
      obtain ⟨rfl, hql⟩ := HQ.out _ rfl
      have HQL := Lib.hid (show IntsAt W2 W2.heap.size AO nO l from hql)
      clear hql
      have x0_0 := (HLay.out.blk 0 rfl).cell 0
      have x0_1 := (HLay.out.blk 0 rfl).cell 1
      have l0_ := HLay.out.lt 0 rfl
      have x1_0 := (HLay.out.blk 1 rfl).cell 0
      have z1_0 := (HLay.out.blk 1 rfl).frozen 0
      have x1_1 := (HLay.out.blk 1 rfl).cell 1
      have z1_1 := (HLay.out.blk 1 rfl).frozen 1
      have l1_ := HLay.out.lt 1 rfl
      gi_wp2
      clear x0_0 x0_1 l0_ x1_0 z1_0 x1_1 z1_1 l1_
      obtain ⟨e1, e2, e3⟩ := way_some (t := t) (u := u) (v := v) (dk := dk) HEA.out HBE.out
      have R1 := ret2 (HLay.out.blk 1 rfl) HLay.out.1 (by omega) (.int .i64 (q1.b)) (.int .i64 (q1.c))
      have R2 := R1.1.alloc (.cells #[.int .i64 q1.a, .int .i64 q1.b, .int .i64 q1.c, .int .i64 q1.d] 103)
      have y0 := R2.cell 0
      have y1 := R2.cell 1
      exact bodyPost_ret (v := .tuple #[.agg #[.int .i64 (q1.b), .int .i64 (q1.c)], .int .i64 0]) (by simp [results, Tryd.results36, go_sem, y0, y1]) rfl ⟨by rw [e1, e3], R1.2.alloc R1.2.size _⟩
  · have h1 : (ea != 0) = true := by simpa using h0
    have HE0 := Lib.hid h0
    clear h0
    gi_wp2
    clear x0_0 x0_1 l0_ x1_0 z1_0 x1_1 z1_1 l1_
    obtain ⟨e1, e2, e3⟩ := way_bad (t := t) (u := u) (v := v) (dk := dk) HEA.out HE0.out
    have R1 := ret2 (HLay.out.blk 1 rfl) HLay.out.1 (by omega) (.int .i64 (0)) (.int .i64 (0))
    have y0 := R1.1.cell 0
    have y1 := R1.1.cell 1
    exact bodyPost_ret (v := .tuple #[.agg #[.int .i64 (0), .int .i64 (0)], .int .i64 ea]) (by simp [results, Tryd.results36, go_sem, y0, y1]) rfl ⟨by rw [e1, e3], R1.2⟩

theorem rtoil_any (A : Option Addr) (n c : Nat) (A' : Option Addr) (m d : Nat) (t : Town) (u v : Int) (dk : Bool) (w : World)
    (hn : n ≤ 1000) (hm : m ≤ 1000) (ht : TownAt w w.heap.size A n A' m t) :
    Calls Tryd.prog 36 #[.agg #[.slice A n c, .slice A' m d], .int .i64 u, .int .i64 v, .bool dk] w (ToilOut w (wayT t u v dk) (wayE t u v dk)) :=
  callsIn_wide.1 (rtoil_in A n c A' m d t u v dk w hn hm ht)
end Go.Proofs.YtahkjagjcogeiaaDoor
/- The answer's ordered and Order: the toil of stops in an order. -/
namespace Go.Proofs.YtahkjagjcogeiaaDoor
open Go.RowKit Go.Shelf
set_option linter.unusedVariables false

theorem way_leg {t : Town} {u : Int} {st : List Int} (h : roundE t u st = 0) {a b : Int} (ha : a ∈ u :: st) (hb : b ∈ u :: st) (dk : Bool) : (legF t dk a b = some (wayT t a b dk) ∧ wayE t a b dk = 0) ∨ (legF t dk a b = none ∧ wayE t a b dk = 6 ∧ wayT t a b dk = (0, 0)) := by
  have h0 : askE t [u] = 0 := by
    unfold roundE at h
    split at h
    · assumption
    · rename_i h0; exact absurd h h0
  obtain ⟨_, _, hpl, _⟩ := roundE_zero h
  obtain ⟨htb, _⟩ := askE_zero h0
  have h1 : askE t [a, b] = 0 := by
    unfold askE
    rw [if_pos htb, hasB_two, memI_iff.2 (hpl a ha), memI_iff.2 (hpl b hb)]
    rfl
  unfold legF
  cases hbe : best t dk freeP a b with
  | none =>
    obtain ⟨h2, _, h3⟩ := way_none h1 hbe
    exact .inr ⟨rfl, h2, h3⟩
  | some q =>
    obtain ⟨c, l⟩ := q
    obtain ⟨h2, _, h3⟩ := way_some h1 hbe
    exact .inl ⟨by rw [h3]; rfl, h2⟩

def OrderedOut (w : World) (R : Option Leg) (e : Ending) (w' : World) : Prop := e = .returned (.tuple #[.agg #[.int .i64 (R.getD (0, 0)).1, .int .i64 (R.getD (0, 0)).2], .bool R.isSome]) ∧ Below w.heap.size w w'

set_option maxRecDepth 100000 in
set_option maxHeartbeats 16000000 in
theorem ordered_in (A : Option Addr) (n c : Nat) (A' : Option Addr) (m d : Nat) (t : Town) (u : Int) (A2 : Option Addr) (n2 c2 : Nat) (st : List Int) (dk : Bool) (w : World) (h0 : roundE t u st = 0)
    (hn : n ≤ 1000) (hm : m ≤ 1000) (ht : TownAt w w.heap.size A n A' m t) (hr : IntsAt w w.heap.size A2 n2 st) :
    CallsIn Fence.wide 9 Tryd.prog 104 #[.agg #[.slice A n c, .slice A' m d], .int .i64 u, .slice A2 n2 c2, .bool dk] w (OrderedOut w (ordG (legF t dk) u u (0, 0) st)) := by
  have HT := Lib.hid ht
  have HR := Lib.hid hr
  have HRL := Lib.hid hr.len
  have H0 := Lib.hid h0
  have hn6 : n2 ≤ 6 := by have := (roundE_zero h0).2.1; have := hr.len; omega
  clear ht hr h0
  refine callsIn_of_wp Tryd.func104 rfl trivial ?_ rfl
  simp only [Tryd.ntmps104, List.size_toArray, List.length_cons, List.length_nil, Nat.reduceAdd, Nat.reduceSub, Array.replicate_succ, Array.replicate_zero, List.push_toArray, List.append_toArray, List.nil_append, List.cons_append]
  gi_upto_region 3 with fail
  have HLay := Lib.hid (Lay.three w 25 #[.slice A n c, .slice A' m d] 59 #[.int .i64 0, .int .i64 0] 59 #[.int .i64 0, .int .i64 0])
  generalize (((w.alloc (.cells #[.slice A n c, .slice A' m d] 25)).alloc (.cells #[.int .i64 0, .int .i64 0] 59)).alloc (.cells #[.int .i64 0, .int .i64 0] 59)) = w0 at *
  have HGL := Lib.hid (HLay.out.lt 2 rfl)
  have hb1 : Below w0.heap.size w0 (w0.alloc (.cells #[] 3)) := (Below.refl _ _).alloc (Nat.le_refl _) _
  have HO0 := Lib.hid (own_empty w0)
  have HB1 := Lib.hid hb1
  have HR1 := Lib.hid ((HR.out.below (HLay.out.1.trans (hb1.mono HLay.out.1.size))).more (Nat.le_trans HLay.out.1.size hb1.size))
  clear hb1
  gi_wp2_with (first | (gi_at_builtin; refine wpListIn_append_any rfl (.tmp 18) (.tmp 19) (by rfl) elem_int rfl HO0.out rfl HR1.out (ints_one _) (by unfold maxLen; omega) (by omega) (by simp) ?_) | fail)
  rintro A8 q8 W1 hown hgr hA8
  have hO1 : Own W1 w0.heap.size 3 1 A8 n2 q8 (st.map (Value.int .i64)) := by simpa using hown
  have HB2 := Lib.hid (show Below w0.heap.size w0 (W1.alloc (.cells #[.int .i64 u] 3)) from (HB1.out.grown hgr HB1.out.size (fun j hj => own_row HO0.out hj)).alloc (HB1.out.grown hgr HB1.out.size (fun j hj => own_row HO0.out hj)).size _)
  have HO1 := Lib.hid (hO1.alloc (.cells #[.int .i64 u] 3))
  have HU1 : Hid (Blk (W1.alloc (.cells #[.int .i64 u] 3)) W1.heap.size 3 #[.int .i64 u]) := Lib.hid (Blk.new _ _ _)
  have hsz1 : w0.heap.size ≤ W1.heap.size := (HB1.out.grown hgr HB1.out.size (fun j hj => own_row HO0.out hj)).size
  clear hown hgr hA8 hO1
  try simp only [Nat.zero_add]
  gi_wp2_with (first | (gi_at_builtin; refine wpListIn_append_any rfl (.tmp 20) (.tmp 22) (by rfl) elem_int rfl HO1.out rfl (one_int HU1.out.lt (HU1.out.cell 0)) (ints_one _) (by unfold maxLen; omega) (by omega) (by simp; omega) ?_) | fail)
  rintro A9 q9 W3 hown hgr hA9
  have HO3 := Lib.hid (show Own W3 w0.heap.size 3 1 A9 (n2 + 1) q9 ((st ++ [u]).map (Value.int .i64)) from by rw [List.map_append]; exact hown)
  replace HLay := Lib.hid (HLay.out.below (HB2.out.grown hgr HB2.out.size (fun j hj => own_row HO1.out hj)))
  have hG1 : w.heap.size + 1 + 1 < w0.heap.size := HGL.out
  clear hown hgr hA9 HO0 HO1 HB1 HB2 HU1
  gi_wp2
  gi_loopw [10, 25] (fun v10 v25 wr => ∃ (i : Nat) (p : Int) (s1 s2 : Int), v10 = .int .i64 p ∧ v25 = .int .i64 i ∧ i ≤ n2 + 1 ∧ (0 ≤ s1 ∧ s1 ≤ 16000 * i) ∧ (0 ≤ s2 ∧ s2 ≤ 16000 * i) ∧ Hid (p ∈ u :: st ∧ (i ≤ n2 → ordG (legF t dk) u p (s1, s2) (st.drop i) = ordG (legF t dk) u u (0, 0) st) ∧ (i = n2 + 1 → ordG (legF t dk) u u (0, 0) st = some (s1, s2)) ∧ Lay w wr [(w.heap.size, 25, #[.slice A n c, .slice A' m d]), (w.heap.size + 1, 59, #[.int .i64 0, .int .i64 0]), (w.heap.size + 1 + 1, 59, #[.int .i64 s1, .int .i64 s2])] ∧ Own wr w0.heap.size 3 1 A9 (n2 + 1) q9 ((st ++ [u]).map (Value.int .i64))))
    (fun _ v25 _ => n2 + 1 - (intOf v25).toNat)
  case atStart => exact ⟨0, u, 0, 0, rfl, rfl, by omega, by omega, by omega, Lib.hid ⟨by simp, fun _ => by simp, fun h => by omega, HLay.out, HO3.out⟩⟩
  case round =>
    obtain ⟨i, p, s1, s2, rfl, rfl, hi, hs1, hs2, HS⟩ := hrel
    by_cases hlt : i < n2 + 1
    · obtain ⟨b, off, x, hA9, hbk, hx, hc⟩ := (ints_of_own HS.out.2.2.2.2 (Nat.le_refl _)).cell hlt
      subst hA9
      have hcc : wr.cell? ⟨b, off + i, none⟩ = some (.int .i64 x) := hc
      clear hc
      by_cases hi2 : i < n2
      · have hx0 : (st ++ [u])[i]? = some x := hx
        have hst : st[i]? = some x := by rw [← hx0, List.getElem?_append_left (by have := HRL.out; omega)]
        have HNM := Lib.hid (show x ∈ u :: st from List.mem_cons_of_mem _ (List.mem_of_getElem? hst))
        have HST := Lib.hid hst
        clear hx hx0 hst
        have c0 := (HS.out.2.2.2.1.blk 0 rfl).cell 0
        have c1 := (HS.out.2.2.2.1.blk 0 rfl).cell 1
        have cl := HS.out.2.2.2.1.lt 0 rfl
        gi_wp2
        refine ⟨trivial, (callsIn_wide.2 (rtoil_any A n c A' m d t p x dk wr hn hm ((HT.out.below HS.out.2.2.2.1.1).more HS.out.2.2.2.1.1.size))).mono ?_⟩
        rintro e W4 ⟨rfl, hb4⟩
        have HWL := Lib.hid (way_leg H0.out HS.out.1 HNM.out dk)
        obtain ⟨dd, hdd⟩ : ∃ dd, wayT t p x dk = dd := ⟨_, rfl⟩
        obtain ⟨ee, hee⟩ : ∃ ee, wayE t p x dk = ee := ⟨_, rfl⟩
        rw [hdd, hee] at HWL ⊢
        obtain ⟨da, db⟩ := dd
        have HL4 := Lib.hid (HS.out.2.2.2.1.below hb4)
        have HO4 := Lib.hid (HS.out.2.2.2.2.below hb4 (Nat.le_refl _))
        clear hb4 hdd hee c0 c1 cl hcc
        have hb5 : Below W4.heap.size W4 (W4.alloc (.cells #[.int .i64 da, .int .i64 db] 59)) := (Below.refl _ _).alloc (Nat.le_refl _) _
        have hgl := HL4.out.1.size
        have HL5 := Lib.hid (HL4.out.alloc 59 #[.int .i64 da, .int .i64 db])
        have HO5 := Lib.hid (HO4.out.below hb5 (Nat.le_refl _))
        have hw4 := HL4.out.lt 2 rfl
        clear hb5
        gi_upto_region 7 with fail
        generalize (W4.alloc (.cells #[.int .i64 da, .int .i64 db] 59)) = W5 at *
        generalize W4.heap.size = G5 at *
        have x1_0 := (HL5.out.blk 1 rfl).cell 0
        have z1_0 := (HL5.out.blk 1 rfl).frozen 0
        have x1_1 := (HL5.out.blk 1 rfl).cell 1
        have z1_1 := (HL5.out.blk 1 rfl).frozen 1
        have l1_ := HL5.out.lt 1 rfl
        have x2_0 := (HL5.out.blk 2 rfl).cell 0
        have z2_0 := (HL5.out.blk 2 rfl).frozen 0
        have x2_1 := (HL5.out.blk 2 rfl).cell 1
        have z2_1 := (HL5.out.blk 2 rfl).frozen 1
        have l2_ := HL5.out.lt 2 rfl
        have x3_0 := (HL5.out.blk 3 rfl).cell 0
        have x3_1 := (HL5.out.blk 3 rfl).cell 1
        have l3_ := HL5.out.lt 3 rfl
        rcases HWL.out with ⟨hdl, rfl⟩ | ⟨hdl, rfl, hz⟩
        · have HDL := Lib.hid hdl
          have hdb := legF_small (roundE_zero H0.out).1 hdl
          dsimp only at hdb
          clear hdl
          gi_wp2
          have R1 := ret2' (HL5.out.blk 2 rfl) HL5.out.1 (by omega) (.int .i64 (s1 + da)) (.int .i64 (s2 + db))
          go_roundw
          case rel =>
            refine ⟨i + 1, x, s1 + da, s2 + db, rfl, by go_num, by omega, by omega, by omega, Lib.hid ⟨HNM.out, ?_, ?_, ⟨R1.2.1, fun b hb => ?_⟩, HO5.out.grown R1.2.2 (fun a ha e => by have := (HO5.out.lt ha).1; have := Option.some.inj e; omega)⟩⟩
            · intro _
              rw [← HS.out.2.1 (by omega)]
              have hlx := (List.getElem?_eq_some_iff.1 HST.out).1
              rw [List.drop_eq_getElem_cons hlx, (List.getElem?_eq_some_iff.1 HST.out).2]
              simp only [ordG, HDL.out]
              try rfl
            · intro hi'
              omega
            · simp only [List.mem_cons, List.not_mem_nil, or_false] at hb
              rcases hb with rfl | rfl | rfl
              · exact ⟨(HL5.out.2 _ (by simp)).1, (HL5.out.blk 0 rfl).grown R1.2.2 (fun e => by have := Option.some.inj e; omega)⟩
              · exact ⟨(HL5.out.2 _ (by simp)).1, (HL5.out.blk 1 rfl).grown R1.2.2 (fun e => by have := Option.some.inj e; omega)⟩
              · exact ⟨HL5.out.ge 2 rfl, R1.1⟩
          case measure => simp [intOf] <;> omega
        · have HDL := Lib.hid hdl
          clear hdl hz
          gi_wp2
          have hno : ordG (legF t dk) u u (0, 0) st = none := by
            rw [← HS.out.2.1 (by omega)]
            have hlx := (List.getElem?_eq_some_iff.1 HST.out).1
            rw [List.drop_eq_getElem_cons hlx, (List.getElem?_eq_some_iff.1 HST.out).2]
            simp only [ordG, HDL.out]
            try rfl
          have R1 := ret2 (HL5.out.blk 1 rfl) HL5.out.1 (by omega) (.int .i64 0) (.int .i64 0)
          have y0 := R1.1.cell 0
          have y1 := R1.1.cell 1
          refine bodyPost_ret (v := .tuple #[.agg #[.int .i64 0, .int .i64 0], .bool false]) (by simp [results, Tryd.results104, go_sem, y0, y1]) rfl ⟨?_, R1.2⟩
          rw [hno]
          rfl
      · obtain rfl : i = n2 := by omega
        have hx0 : (st ++ [u])[i]? = some x := hx
        have hxu : x = u := by
          rw [List.getElem?_append_right (by have := HRL.out; omega), HRL.out, Nat.sub_self] at hx0
          simpa using hx0.symm
        subst hxu
        have HNM := Lib.hid (show x ∈ x :: st from List.mem_cons_self)
        clear hx hx0
        have c0 := (HS.out.2.2.2.1.blk 0 rfl).cell 0
        have c1 := (HS.out.2.2.2.1.blk 0 rfl).cell 1
        have cl := HS.out.2.2.2.1.lt 0 rfl
        gi_wp2
        refine ⟨trivial, (callsIn_wide.2 (rtoil_any A n c A' m d t p x dk wr hn hm ((HT.out.below HS.out.2.2.2.1.1).more HS.out.2.2.2.1.1.size))).mono ?_⟩
        rintro e W4 ⟨rfl, hb4⟩
        have HWL := Lib.hid (way_leg H0.out HS.out.1 HNM.out dk)
        obtain ⟨dd, hdd⟩ : ∃ dd, wayT t p x dk = dd := ⟨_, rfl⟩
        obtain ⟨ee, hee⟩ : ∃ ee, wayE t p x dk = ee := ⟨_, rfl⟩
        rw [hdd, hee] at HWL ⊢
        obtain ⟨da, db⟩ := dd
        have HL4 := Lib.hid (HS.out.2.2.2.1.below hb4)
        have HO4 := Lib.hid (HS.out.2.2.2.2.below hb4 (Nat.le_refl _))
        clear hb4 hdd hee c0 c1 cl hcc
        have hb5 : Below W4.heap.size W4 (W4.alloc (.cells #[.int .i64 da, .int .i64 db] 59)) := (Below.refl _ _).alloc (Nat.le_refl _) _
        have hgl := HL4.out.1.size
        have HL5 := Lib.hid (HL4.out.alloc 59 #[.int .i64 da, .int .i64 db])
        have HO5 := Lib.hid (HO4.out.below hb5 (Nat.le_refl _))
        have hw4 := HL4.out.lt 2 rfl
        clear hb5
        gi_upto_region 7 with fail
        generalize (W4.alloc (.cells #[.int .i64 da, .int .i64 db] 59)) = W5 at *
        generalize W4.heap.size = G5 at *
        have x1_0 := (HL5.out.blk 1 rfl).cell 0
        have z1_0 := (HL5.out.blk 1 rfl).frozen 0
        have x1_1 := (HL5.out.blk 1 rfl).cell 1
        have z1_1 := (HL5.out.blk 1 rfl).frozen 1
        have l1_ := HL5.out.lt 1 rfl
        have x2_0 := (HL5.out.blk 2 rfl).cell 0
        have z2_0 := (HL5.out.blk 2 rfl).frozen 0
        have x2_1 := (HL5.out.blk 2 rfl).cell 1
        have z2_1 := (HL5.out.blk 2 rfl).frozen 1
        have l2_ := HL5.out.lt 2 rfl
        have x3_0 := (HL5.out.blk 3 rfl).cell 0
        have x3_1 := (HL5.out.blk 3 rfl).cell 1
        have l3_ := HL5.out.lt 3 rfl
        rcases HWL.out with ⟨hdl, rfl⟩ | ⟨hdl, rfl, hz⟩
        · have HDL := Lib.hid hdl
          have hdb := legF_small (roundE_zero H0.out).1 hdl
          dsimp only at hdb
          clear hdl
          gi_wp2
          have R1 := ret2' (HL5.out.blk 2 rfl) HL5.out.1 (by omega) (.int .i64 (s1 + da)) (.int .i64 (s2 + db))
          go_roundw
          case rel =>
            refine ⟨i + 1, x, s1 + da, s2 + db, rfl, by go_num, by omega, by omega, by omega, Lib.hid ⟨HNM.out, ?_, ?_, ⟨R1.2.1, fun b hb => ?_⟩, HO5.out.grown R1.2.2 (fun a ha e => by have := (HO5.out.lt ha).1; have := Option.some.inj e; omega)⟩⟩
            · intro hi'
              omega
            · intro _
              rw [← HS.out.2.1 (by first | omega | trivial), List.drop_of_length_le (by have := HRL.out; omega)]
              simp only [ordG, HDL.out]
              try rfl
            · simp only [List.mem_cons, List.not_mem_nil, or_false] at hb
              rcases hb with rfl | rfl | rfl
              · exact ⟨(HL5.out.2 _ (by simp)).1, (HL5.out.blk 0 rfl).grown R1.2.2 (fun e => by have := Option.some.inj e; omega)⟩
              · exact ⟨(HL5.out.2 _ (by simp)).1, (HL5.out.blk 1 rfl).grown R1.2.2 (fun e => by have := Option.some.inj e; omega)⟩
              · exact ⟨HL5.out.ge 2 rfl, R1.1⟩
          case measure => simp [intOf] <;> omega
        · have HDL := Lib.hid hdl
          clear hdl hz
          gi_wp2
          have hno : ordG (legF t dk) x x (0, 0) st = none := by
            rw [← HS.out.2.1 (by first | omega | trivial), List.drop_of_length_le (by have := HRL.out; omega)]
            simp only [ordG, HDL.out]
            try rfl
          have R1 := ret2 (HL5.out.blk 1 rfl) HL5.out.1 (by omega) (.int .i64 0) (.int .i64 0)
          have y0 := R1.1.cell 0
          have y1 := R1.1.cell 1
          refine bodyPost_ret (v := .tuple #[.agg #[.int .i64 0, .int .i64 0], .bool false]) (by simp [results, Tryd.results104, go_sem, y0, y1]) rfl ⟨?_, R1.2⟩
          rw [hno]
          rfl
    · obtain rfl : i = n2 + 1 := by omega
      have x1_0 := (HS.out.2.2.2.1.blk 1 rfl).cell 0
      have z1_0 := (HS.out.2.2.2.1.blk 1 rfl).frozen 0
      have x1_1 := (HS.out.2.2.2.1.blk 1 rfl).cell 1
      have z1_1 := (HS.out.2.2.2.1.blk 1 rfl).frozen 1
      have l1_ := HS.out.2.2.2.1.lt 1 rfl
      have x2_0 := (HS.out.2.2.2.1.blk 2 rfl).cell 0
      have x2_1 := (HS.out.2.2.2.1.blk 2 rfl).cell 1
      have l2_ := HS.out.2.2.2.1.lt 2 rfl
      gi_wp2
      have R1 := ret2 (HS.out.2.2.2.1.blk 1 rfl) HS.out.2.2.2.1.1 (by omega) (.int .i64 s1) (.int .i64 s2)
      have y0 := R1.1.cell 0
      have y1 := R1.1.cell 1
      refine bodyPost_ret (v := .tuple #[.agg #[.int .i64 s1, .int .i64 s2], .bool true]) (by simp [results, Tryd.results104, go_sem, y0, y1]) rfl ⟨?_, R1.2⟩
      rw [HS.out.2.2.1 trivial]
      rfl

theorem ordered_any (A : Option Addr) (n c : Nat) (A' : Option Addr) (m d : Nat) (t : Town) (u : Int) (A2 : Option Addr) (n2 c2 : Nat) (st : List Int) (dk : Bool) (w : World) (h0 : roundE t u st = 0)
    (hn : n ≤ 1000) (hm : m ≤ 1000) (ht : TownAt w w.heap.size A n A' m t) (hr : IntsAt w w.heap.size A2 n2 st) :
    Calls Tryd.prog 104 #[.agg #[.slice A n c, .slice A' m d], .int .i64 u, .slice A2 n2 c2, .bool dk] w (OrderedOut w (ordG (legF t dk) u u (0, 0) st)) :=
  callsIn_wide.1 (ordered_in A n c A' m d t u A2 n2 c2 st dk w h0 hn hm ht hr)

set_option maxRecDepth 100000 in
set_option maxHeartbeats 16000000 in
theorem rorderT_in (A : Option Addr) (n c : Nat) (A' : Option Addr) (m d : Nat) (t : Town) (u : Int) (A2 : Option Addr) (n2 c2 : Nat) (st : List Int) (dk : Bool) (w : World)
    (hn : n ≤ 1000) (hm : m ≤ 1000) (hn2 : n2 ≤ 1000) (ht : TownAt w w.heap.size A n A' m t) (hr : IntsAt w w.heap.size A2 n2 st) :
    CallsIn Fence.wide 9 Tryd.prog 46 #[.agg #[.slice A n c, .slice A' m d], .int .i64 u, .slice A2 n2 c2, .bool dk] w (ToilOut w ((orderR t u st dk).getD (0, 0)) (orderE t u st dk)) := by
  have HT := Lib.hid ht
  have HR := Lib.hid hr
  clear ht hr
  refine callsIn_of_wp Tryd.func46 rfl trivial ?_ rfl
  simp only [Tryd.ntmps46, List.size_toArray, List.length_cons, List.length_nil, Nat.reduceAdd, Nat.reduceSub, Array.replicate_succ, Array.replicate_zero, List.push_toArray, List.append_toArray, List.nil_append, List.cons_append]
  gi_upto_region 1 with fail
  have HLay := Lib.hid (Lay.two w 25 #[.slice A n c, .slice A' m d] 59 #[.int .i64 0, .int .i64 0])
  generalize ((w.alloc (.cells #[.slice A n c, .slice A' m d] 25)).alloc (.cells #[.int .i64 0, .int .i64 0] 59)) = w0 at *
  have c0 := (HLay.out.blk 0 rfl).cell 0
  have c1 := (HLay.out.blk 0 rfl).cell 1
  have cl := HLay.out.lt 0 rfl
  gi_wp2
  refine ⟨trivial, (callsIn_wide.2 (rrounded_any A n c A' m d t u A2 n2 c2 st w0 hn hm hn2 ((HT.out.below HLay.out.1).more HLay.out.1.size) ((HR.out.below HLay.out.1).more HLay.out.1.size))).mono ?_⟩
  rintro e W1 ⟨rfl, hb1⟩
  replace HLay := Lib.hid (HLay.out.below hb1)
  clear hb1 c0 c1 cl
  obtain ⟨ee, hee⟩ : ∃ ee, roundE t u st = ee := ⟨_, rfl⟩
  rw [hee]
  have HEE := Lib.hid hee
  clear hee
  have c0 := (HLay.out.blk 0 rfl).cell 0
  have c1 := (HLay.out.blk 0 rfl).cell 1
  have cl := HLay.out.lt 0 rfl
  by_cases h0 : ee = 0
  · subst h0
    gi_wp2
    refine ⟨trivial, (callsIn_wide.2 (ordered_any A n c A' m d t u A2 n2 c2 st dk W1 HEE.out hn hm ((HT.out.below HLay.out.1).more HLay.out.1.size) ((HR.out.below HLay.out.1).more HLay.out.1.size))).mono ?_⟩
    unfold OrderedOut
    rintro e W2 ⟨rfl, hb2⟩
    have hR : orderR t u st dk = ordG (legF t dk) u u (0, 0) st := by unfold orderR; rw [if_pos HEE.out]
    have hE : orderE t u st dk = if (ordG (legF t dk) u u (0, 0) st).isSome then 0 else 6 := by unfold orderE; rw [if_pos HEE.out, hR]
    have HRR := Lib.hid hR
    have HER := Lib.hid hE
    clear hR hE c0 c1 cl
    generalize ordG (legF t dk) u u (0, 0) st = R at *
    obtain ⟨s, hs⟩ : ∃ s, R.getD (0, 0) = s := ⟨_, rfl⟩
    rw [hs]
    have HSS := Lib.hid hs
    obtain ⟨s1, s2⟩ := s
    clear hs
    replace HLay := Lib.hid ((HLay.out.below hb2).alloc 59 #[.int .i64 s1, .int .i64 s2])
    clear hb2
    gi_upto_region 5 with fail
    generalize (W2.alloc (.cells #[.int .i64 s1, .int .i64 s2] 59)) = W3 at *
    generalize W2.heap.size = g3 at *
    have x1_0 := (HLay.out.blk 1 rfl).cell 0
    have z1_0 := (HLay.out.blk 1 rfl).frozen 0
    have x1_1 := (HLay.out.blk 1 rfl).cell 1
    have z1_1 := (HLay.out.blk 1 rfl).frozen 1
    have l1_ := HLay.out.lt 1 rfl
    have x2_0 := (HLay.out.blk 2 rfl).cell 0
    have x2_1 := (HLay.out.blk 2 rfl).cell 1
    have l2_ := HLay.out.lt 2 rfl
    cases R with
    | none =>
      gi_wp2
      have R1 := ret2 (HLay.out.blk 1 rfl) HLay.out.1 (by omega) (.int .i64 0) (.int .i64 0)
      have y0 := R1.1.cell 0
      have y1 := R1.1.cell 1
      exact bodyPost_ret (v := .tuple #[.agg #[.int .i64 0, .int .i64 0], .int .i64 6]) (by simp [results, Tryd.results46, go_sem, y0, y1]) rfl ⟨by rw [HRR.out, HER.out]; rfl, R1.2⟩
    | some s =>
      gi_wp2
      have R1 := ret2 (HLay.out.blk 1 rfl) HLay.out.1 (by omega) (.int .i64 s1) (.int .i64 s2)
      have y0 := R1.1.cell 0
      have y1 := R1.1.cell 1
      exact bodyPost_ret (v := .tuple #[.agg #[.int .i64 s1, .int .i64 s2], .int .i64 0]) (by simp [results, Tryd.results46, go_sem, y0, y1]) rfl ⟨by rw [HRR.out, HER.out, HSS.out]; rfl, R1.2⟩
  · have h1 : (ee != 0) = true := by simpa using h0
    have H0 := Lib.hid h0
    clear h0
    have x1_0 := (HLay.out.blk 1 rfl).cell 0
    have z1_0 := (HLay.out.blk 1 rfl).frozen 0
    have x1_1 := (HLay.out.blk 1 rfl).cell 1
    have z1_1 := (HLay.out.blk 1 rfl).frozen 1
    have l1_ := HLay.out.lt 1 rfl
    gi_wp2
    have R1 := ret2 (HLay.out.blk 1 rfl) HLay.out.1 (by omega) (.int .i64 0) (.int .i64 0)
    have y0 := R1.1.cell 0
    have y1 := R1.1.cell 1
    have h2 : orderR t u st dk = none := by unfold orderR; rw [HEE.out, if_neg H0.out]
    have h3 : orderE t u st dk = ee := by unfold orderE; rw [HEE.out, if_neg H0.out]
    exact bodyPost_ret (v := .tuple #[.agg #[.int .i64 0, .int .i64 0], .int .i64 ee]) (by simp [results, Tryd.results46, go_sem, y0, y1]) rfl ⟨by rw [h2, h3]; rfl, R1.2⟩

theorem rorderT_any (A : Option Addr) (n c : Nat) (A' : Option Addr) (m d : Nat) (t : Town) (u : Int) (A2 : Option Addr) (n2 c2 : Nat) (st : List Int) (dk : Bool) (w : World)
    (hn : n ≤ 1000) (hm : m ≤ 1000) (hn2 : n2 ≤ 1000) (ht : TownAt w w.heap.size A n A' m t) (hr : IntsAt w w.heap.size A2 n2 st) :
    Calls Tryd.prog 46 #[.agg #[.slice A n c, .slice A' m d], .int .i64 u, .slice A2 n2 c2, .bool dk] w (ToilOut w ((orderR t u st dk).getD (0, 0)) (orderE t u st dk)) :=
  callsIn_wide.1 (rorderT_in A n c A' m d t u A2 n2 c2 st dk w hn hm hn2 ht hr)
end Go.Proofs.YtahkjagjcogeiaaDoor
/- The answer's legs: the toils of all ways between some places, row by row. -/
namespace Go.Proofs.YtahkjagjcogeiaaDoor
open Go.RowKit Go.Shelf
set_option linter.unusedVariables false

def legVals (x : Leg) : List Value := [.int .i64 x.1, .int .i64 x.2]
theorem legVals_len (x : Leg) : (legVals x).length = 2 := rfl
theorem legVals_one (l : List Leg) : ∀ u ∈ l.flatMap legVals, u.oneCell' = true := by
  intro u hu
  obtain ⟨x, _, hx⟩ := List.mem_flatMap.1 hu
  simp [legVals] at hx
  rcases hx with rfl | rfl <;> rfl
theorem info_leg : (Tryd.prog.info? 59).map (fun i => (i.zero, i.size, i.bytes)) = some (some zeroLeg, 2, 16) := by kernel_rfl
theorem elem_leg : ElemAt Tryd.prog 207 59 zeroLeg 2 16 := by
  obtain ⟨i, hi, h0, h1, h2⟩ := info_parts info_leg
  exact ⟨i, Tryd.underlying207, hi, h0, h1, h2, rfl, by decide⟩
theorem info_row : (Tryd.prog.info? 207).map (fun i => (i.zero, i.size, i.bytes)) = some (some (.slice none 0 0), 1, 24) := by kernel_rfl
theorem elem_row : ElemAt Tryd.prog 174 207 (.slice none 0 0) 1 24 := by
  obtain ⟨i, hi, h0, h1, h2⟩ := info_parts info_row
  exact ⟨i, Tryd.underlying174, hi, h0, h1, h2, rfl, by decide⟩
/-- Where a row lies. -/
structure RowD where
  A : Option Addr
  n : Nat
  c : Nat
def RowD.val (d : RowD) : Value := .slice d.A d.n d.c
theorem rowd_one (l : List RowD) : ∀ u ∈ l.map RowD.val, u.oneCell' = true := by
  intro u hu
  obtain ⟨x, _, rfl⟩ := List.mem_map.1 hu
  rfl
/-- Rows, below a block. -/
def RowsIn (w : World) (B : Nat) (ds : List RowD) (L : List (List Leg)) : Prop := ds.length = L.length ∧ ∀ (i : Nat) d row, ds[i]? = some d → L[i]? = some row → Reads w B 2 d.A d.n (row.flatMap legVals)
structure RowsAt (w : World) (B : Nat) (A : Option Addr) (n : Nat) (L : List (List Leg)) : Prop where
  out : ∃ ds : List RowD, Reads w B 1 A n (ds.map RowD.val) ∧ RowsIn w B ds L
theorem RowsIn.below {w w' : World} {B : Nat} {ds : List RowD} {L : List (List Leg)} (h : RowsIn w B ds L) (hb : Below B w w') : RowsIn w' B ds L := ⟨h.1, fun i d row h1 h2 => (h.2 i d row h1 h2).below hb⟩
theorem RowsIn.more {w : World} {B B' : Nat} {ds : List RowD} {L : List (List Leg)} (h : RowsIn w B ds L) (hb : B ≤ B') : RowsIn w B' ds L := ⟨h.1, fun i d row h1 h2 => (h.2 i d row h1 h2).more hb⟩
theorem RowsAt.below {w w' : World} {B n : Nat} {A : Option Addr} {L : List (List Leg)} (h : RowsAt w B A n L) (hb : Below B w w') : RowsAt w' B A n L := by
  obtain ⟨ds, h1, h2⟩ := h.out
  exact ⟨ds, h1.below hb, h2.below hb⟩
theorem RowsAt.more {w : World} {B B' n : Nat} {A : Option Addr} {L : List (List Leg)} (h : RowsAt w B A n L) (hb : B ≤ B') : RowsAt w B' A n L := by
  obtain ⟨ds, h1, h2⟩ := h.out
  exact ⟨ds, h1.more hb, h2.more hb⟩
theorem RowsIn.snoc {w : World} {B : Nat} {ds : List RowD} {L : List (List Leg)} {d : RowD} {row : List Leg} (h : RowsIn w B ds L) (hr : Reads w B 2 d.A d.n (row.flatMap legVals)) : RowsIn w B (ds ++ [d]) (L ++ [row]) := by
  refine ⟨by simp [h.1], fun i d' row' h1 h2 => ?_⟩
  have hl := h.1
  by_cases hi : i < ds.length
  · rw [List.getElem?_append_left hi] at h1
    rw [List.getElem?_append_left (by omega)] at h2
    exact h.2 i d' row' h1 h2
  · rw [List.getElem?_append_right (by omega)] at h1
    rw [List.getElem?_append_right (by omega)] at h2
    have e : i - ds.length = 0 := by
      have := (List.getElem?_eq_some_iff.1 h1).1
      simp at this
      omega
    have e' : i - L.length = 0 := by omega
    rw [e] at h1
    rw [e'] at h2
    simp at h1 h2
    subst h1 h2
    exact hr
/-- No way: a number of paces that is none. -/
def legX (t : Town) (dk : Bool) (a b : Int) : Leg := (legF t dk a b).getD (0, -1)
def legsM (t : Town) (dk : Bool) (al : List Int) : List (List Leg) := al.map fun a => al.map fun b => legX t dk a b

theorem one_row {W : World} {g : Nat} {t : TypeId} {d : RowD} (h : Blk W g t #[.slice d.A d.n d.c]) : Reads W W.heap.size 1 (some ⟨g, 0, none⟩) 1 ([d].map RowD.val) :=
  ⟨rfl, fun _ => ⟨_, rfl, h.lt, fun j u hu => by
    match j, hu with
    | 0, hu => simp [RowD.val] at hu; rw [← hu]; simpa [Addr.add] using h.cell 0
    | (j + 1), hu => simp at hu⟩⟩
theorem one_leg {W : World} {g : Nat} {t : TypeId} {a b : Int} (h : Blk W g t #[.int .i64 a, .int .i64 b]) : Reads W W.heap.size 2 (some ⟨g, 0, none⟩) 1 ([((a, b) : Leg)].flatMap legVals) :=
  ⟨rfl, fun _ => ⟨_, rfl, h.lt, fun j u hu => by
    match j, hu with
    | 0, hu => simp [legVals] at hu; rw [← hu]; simpa [Addr.add] using h.cell 0
    | 1, hu => simp [legVals] at hu; rw [← hu]; simpa [Addr.add] using h.cell 1
    | (j + 2), hu => simp [legVals] at hu⟩⟩

set_option maxRecDepth 100000 in
set_option maxHeartbeats 16000000 in
theorem rlegs_in (A : Option Addr) (n c : Nat) (A' : Option Addr) (m d : Nat) (t : Town) (u : Int) (st : List Int) (A2 : Option Addr) (n2 c2 : Nat) (al : List Int) (dk : Bool) (w : World) (h0 : roundE t u st = 0) (hal : ∀ v ∈ al, v ∈ u :: st)
    (hn : n ≤ 1000) (hm : m ≤ 1000) (hn2 : n2 ≤ 7) (ht : TownAt w w.heap.size A n A' m t) (hr : IntsAt w w.heap.size A2 n2 al) :
    CallsIn Fence.wide 9 Tryd.prog 103 #[.agg #[.slice A n c, .slice A' m d], .slice A2 n2 c2, .bool dk] w fun e w' => ∃ B q, e = .returned (.slice B n2 q) ∧ RowsAt w' w'.heap.size B n2 (legsM t dk al) ∧ Below w.heap.size w w' := by
  have HT := Lib.hid ht
  have HR := Lib.hid hr
  have HRL := Lib.hid hr.len
  have H0 := Lib.hid h0
  have HAL := Lib.hid hal
  clear ht hr h0 hal
  refine callsIn_of_wp Tryd.func103 rfl trivial ?_ rfl
  simp only [Tryd.ntmps103, List.size_toArray, List.length_cons, List.length_nil, Nat.reduceAdd, Nat.reduceSub, Array.replicate_succ, Array.replicate_zero, List.push_toArray, List.append_toArray, List.nil_append, List.cons_append]
  gi_upto_region 1 with fail
  have HLay := Lib.hid (Lay.one w 25 #[.slice A n c, .slice A' m d])
  generalize (w.alloc (.cells #[.slice A n c, .slice A' m d] 25)) = w0 at *
  have hw0 : w.heap.size < w0.heap.size := HLay.out.lt 0 rfl
  gi_wp2
  gi_loopw [7, 17] (fun v7 v17 wr => ∃ (i : Nat) (BO : Option Addr) (qO : Nat) (ds : List RowD), v7 = .slice BO i qO ∧ v17 = .int .i64 i ∧ i ≤ n2 ∧ Hid (Lay w wr [(w.heap.size, 25, #[.slice A n c, .slice A' m d])] ∧ Own wr w0.heap.size 207 1 BO i qO (ds.map RowD.val) ∧
      RowsIn wr wr.heap.size ds ((al.take i).map fun a => al.map fun b => legX t dk a b) ∧ (∀ d ∈ ds, ∀ a, d.A = some a → a.block < wr.heap.size ∧ ∀ b, BO = some b → a.block ≠ b.block) ∧ w0.heap.size ≤ wr.heap.size))
    (fun _ v17 _ => n2 - (intOf v17).toNat)
  case atStart => exact ⟨0, none, 0, [], rfl, rfl, Nat.zero_le _, Lib.hid ⟨HLay.out, Own.none_ _ _ _ _, ⟨rfl, fun i d row h => by simp at h⟩, (fun d hd => by cases hd), Nat.le_refl _⟩⟩
  case round =>
    obtain ⟨i, BO, qO, ds, rfl, rfl, hi, HS⟩ := hrel
    by_cases hlt : i < n2
    · obtain ⟨b, off, x, hA2, hb, hx, hc⟩ := ((HR.out.below HS.out.1.1).more HS.out.1.1.size).cell hlt
      subst hA2
      have HX := Lib.hid hx
      have hcc : wr.cell? ⟨b, off + i, none⟩ = some (.int .i64 x) := hc
      have HXA := Lib.hid (HAL.out x (List.mem_of_getElem? hx))
      clear hx hc
      gi_wp2
      clear hcc
      generalize hWS : wr = WS at *
      gi_loopw [10, 23] (fun v10 v23 wr2 => ∃ (j : Nat) (BR : Option Addr) (qR : Nat), v10 = .slice BR j qR ∧ v23 = .int .i64 j ∧ j ≤ n2 ∧ Hid (Below WS.heap.size WS wr2 ∧ Own wr2 WS.heap.size 59 2 BR j qR (((al.take j).map fun b => legX t dk x b).flatMap legVals)))
        (fun _ v23 _ => n2 - (intOf v23).toNat)
      case atStart => exact ⟨0, none, 0, rfl, rfl, Nat.zero_le _, Lib.hid ⟨Below.refl _ _, Own.none_ _ _ _ _⟩⟩
      case round =>
        obtain ⟨j, BR, qR, rfl, rfl, hj, HS2⟩ := hrel
        have HL2 := Lib.hid (HS.out.1.below HS2.out.1)
        by_cases hltj : j < n2
        · obtain ⟨b2, off2, y, hA2', hb2, hy, hc2⟩ := ((HR.out.below HL2.out.1).more HL2.out.1.size).cell hltj
          cases hA2'
          have HY := Lib.hid hy
          have HYA := Lib.hid (HAL.out y (List.mem_of_getElem? hy))
          have hcc2 : wr.cell? ⟨b, off + j, none⟩ = some (.int .i64 y) := hc2
          have c0 := (HL2.out.blk 0 rfl).cell 0
          have c1 := (HL2.out.blk 0 rfl).cell 1
          have cl := HL2.out.lt 0 rfl
          clear hy hc2
          gi_wp2
          refine ⟨trivial, (callsIn_wide.2 (rtoil_any A n c A' m d t x y dk wr hn hm ((HT.out.below HL2.out.1).more HL2.out.1.size))).mono ?_⟩
          rintro e W4 ⟨rfl, hb4⟩
          have HWL := Lib.hid (way_leg H0.out HXA.out HYA.out dk)
          obtain ⟨dd, hdd⟩ : ∃ dd, wayT t x y dk = dd := ⟨_, rfl⟩
          obtain ⟨ee, hee⟩ : ∃ ee, wayE t x y dk = ee := ⟨_, rfl⟩
          rw [hdd, hee] at HWL ⊢
          obtain ⟨da, db⟩ := dd
          have HB4 := Lib.hid (HS2.out.1.trans (hb4.mono HS2.out.1.size))
          have HO4 := Lib.hid (HS2.out.2.below hb4 (Nat.le_refl _))
          clear hb4 hdd hee c0 c1 cl hcc2
          have HB5 := Lib.hid (HB4.out.alloc HB4.out.size (.cells #[.int .i64 da, .int .i64 db] 59))
          have HX5 := Lib.hid (Blk.new W4 59 #[.int .i64 da, .int .i64 db])
          have HO5 := Lib.hid (HO4.out.alloc (.cells #[.int .i64 da, .int .i64 db] 59))
          have hs4 := HB4.out.size
          have HLT4 := Lib.hid (fun a (ha : BR = some a) => (HO4.out.lt ha).2)
          gi_upto_region 10 with fail
          generalize (W4.alloc (.cells #[.int .i64 da, .int .i64 db] 59)) = W5 at *
          generalize W4.heap.size = G5 at *
          have x0 := HX5.out.cell 0
          have x1 := HX5.out.cell 1
          have z0 := HX5.out.frozen 0
          have z1 := HX5.out.frozen 1
          have lx := HX5.out.lt
          rcases HWL.out with ⟨hdl, rfl⟩ | ⟨hdl, rfl, hz⟩
          · have HXV := Lib.hid (show legX t dk x y = (da, db) from by unfold legX; rw [hdl]; rfl)
            clear hdl
            have HB7 := Lib.hid (HB5.out.alloc HB5.out.size (.cells #[.int .i64 da, .int .i64 db] 59))
            have HX7 : Hid (Blk (W5.alloc (.cells #[.int .i64 da, .int .i64 db] 59)) W5.heap.size 59 #[.int .i64 da, .int .i64 db]) := Lib.hid (Blk.new _ _ _)
            have HO7 := Lib.hid (HO5.out.alloc (.cells #[.int .i64 da, .int .i64 db] 59))
            have hs7 := HB5.out.size
            have HRD := Lib.hid (show Reads (W5.alloc (.cells #[.int .i64 da, .int .i64 db] 59)) (W5.alloc (.cells #[.int .i64 da, .int .i64 db] 59)).heap.size 2 (some ⟨W5.heap.size, 0, none⟩) 1 ([((da, db) : Leg)].flatMap legVals) from one_leg HX7.out)
            gi_wp2_with (first | (gi_at_builtin; refine wpListIn_append_any rfl (.tmp 38) (.tmp 40) (by rfl) elem_leg rfl HO7.out rfl HRD.out (legVals_one _) (by unfold maxLen; omega) (by omega) (by simp; omega) ?_) | fail)
            rintro A8 q8 W8 hown hgr hA8
            have HB8 := Lib.hid (HB7.out.grown hgr HB7.out.size (fun j hj => own_row HO7.out hj))
            have HO8 := Lib.hid (show Own W8 WS.heap.size 59 2 A8 (j + 1) q8 (((al.take (j + 1)).map fun b => legX t dk x b).flatMap legVals) from by
              rw [← take_snocI HY.out, List.map_append, List.flatMap_append]
              have h := hown
              rw [show [y].map (fun b => legX t dk x b) = [((da, db) : Leg)] from by rw [List.map_cons, HXV.out]; rfl]
              simpa [List.map_take] using h)
            clear hown hgr hA8
            gi_wp2
            go_roundw
            case rel => exact ⟨j + 1, A8, q8, by first | rfl | go_num, by go_num, by omega, Lib.hid ⟨HB8.out, HO8.out⟩⟩
            case measure => simp [intOf] <;> omega
          · have HXV := Lib.hid (show legX t dk x y = (0, -1) from by unfold legX; rw [hdl]; rfl)
            have R1 := ret2' HX5.out HB5.out hs4 (.int .i64 0) (.int .i64 (-1))
            have HX6 := Lib.hid R1.1
            have HB6 := Lib.hid R1.2.1
            have HO6 := Lib.hid (HO5.out.grown R1.2.2 (fun a ha e => by have h1 := HLT4.out a ha; have h2 := Option.some.inj e; omega))
            clear hdl hz R1
            gi_upto_region 12 with fail
            generalize ((W5.setCell ⟨G5, 0, none⟩ (.int .i64 0)).setCell ⟨G5, 1, none⟩ (.int .i64 (-1))) = W6 at *
            clear x0 x1 z0 z1 lx
            have x0 := HX6.out.cell 0
            have x1 := HX6.out.cell 1
            have lx := HX6.out.lt
            have HB7 := Lib.hid (HB6.out.alloc HB6.out.size (.cells #[.int .i64 0, .int .i64 (-1)] 59))
            have HX7 : Hid (Blk (W6.alloc (.cells #[.int .i64 0, .int .i64 (-1)] 59)) W6.heap.size 59 #[.int .i64 0, .int .i64 (-1)]) := Lib.hid (Blk.new _ _ _)
            have HO7 := Lib.hid (HO6.out.alloc (.cells #[.int .i64 0, .int .i64 (-1)] 59))
            have hs7 := HB6.out.size
            have HRD := Lib.hid (show Reads (W6.alloc (.cells #[.int .i64 0, .int .i64 (-1)] 59)) (W6.alloc (.cells #[.int .i64 0, .int .i64 (-1)] 59)).heap.size 2 (some ⟨W6.heap.size, 0, none⟩) 1 ([((0, -1) : Leg)].flatMap legVals) from one_leg HX7.out)
            gi_wp2_with (first | (gi_at_builtin; refine wpListIn_append_any rfl (.tmp 38) (.tmp 40) (by rfl) elem_leg rfl HO7.out rfl HRD.out (legVals_one _) (by unfold maxLen; omega) (by omega) (by simp; omega) ?_) | fail)
            rintro A8 q8 W8 hown hgr hA8
            have HB8 := Lib.hid (HB7.out.grown hgr HB7.out.size (fun j hj => own_row HO7.out hj))
            have HO8 := Lib.hid (show Own W8 WS.heap.size 59 2 A8 (j + 1) q8 (((al.take (j + 1)).map fun b => legX t dk x b).flatMap legVals) from by
              rw [← take_snocI HY.out, List.map_append, List.flatMap_append]
              have h := hown
              rw [show [y].map (fun b => legX t dk x b) = [((0, -1) : Leg)] from by rw [List.map_cons, HXV.out]; rfl]
              simpa [List.map_take] using h)
            clear hown hgr hA8
            gi_wp2
            go_roundw
            case rel => exact ⟨j + 1, A8, q8, by first | rfl | go_num, by go_num, by omega, Lib.hid ⟨HB8.out, HO8.out⟩⟩
            case measure => simp [intOf] <;> omega
        · obtain rfl : j = n2 := by omega
          have hrow := HS2.out.2
          rw [List.take_of_length_le (by rw [HRL.out]; exact Nat.le_refl _)] at hrow
          have HROW := Lib.hid hrow
          have HOO := Lib.hid ((HS.out.2.1.below HS2.out.1 (Nat.le_refl _)).alloc (.cells #[.slice BR j qR] 207))
          have HB7 := Lib.hid (HS2.out.1.alloc HS2.out.1.size (.cells #[.slice BR j qR] 207))
          have HX7 : Hid (Blk (wr.alloc (.cells #[.slice BR j qR] 207)) wr.heap.size 207 #[.slice BR j qR]) := Lib.hid (Blk.new _ _ _)
          have hs7 := HS2.out.1.size
          have hwW := HS.out.1.1.size
          have hwX := HS.out.2.2.2.2
          have HRD := Lib.hid (show Reads (wr.alloc (.cells #[.slice BR j qR] 207)) (wr.alloc (.cells #[.slice BR j qR] 207)).heap.size 1 (some ⟨wr.heap.size, 0, none⟩) 1 ([(⟨BR, j, qR⟩ : RowD)].map RowD.val) from one_row HX7.out)
          have HRW := Lib.hid (HROW.out.alloc (.cells #[.slice BR j qR] 207))
          clear hrow
          gi_wp2_with (first | (gi_at_builtin; refine wpListIn_append_any rfl (.tmp 43) (.tmp 45) (by rfl) elem_row rfl HOO.out rfl HRD.out (rowd_one _) (by unfold maxLen; omega) (by omega) (by simp; omega) ?_) | fail)
          rintro A8 q8 W8 hown hgr hA8
          have hBO : ∀ k, BO.map (·.block) = some k → w0.heap.size ≤ k := fun k hk => own_row HOO.out hk
          have hnew : ∀ a b, BR = some a → A8 = some b → a.block ≠ b.block := by
            intro a b ha hb8
            have h1 := (HROW.out.lt ha)
            rcases hA8 with rfl | rfl
            · have h2 := (HS.out.2.1.lt hb8).2
              omega
            · cases hb8
              show a.block ≠ wr.heap.size + 1
              omega
          have hold : ∀ d ∈ ds, ∀ a, d.A = some a → a.block < W8.heap.size ∧ ∀ b, A8 = some b → a.block ≠ b.block := by
            intro d hd a ha
            have h1 := HS.out.2.2.2.1 d hd a ha
            have h2 := hgr.size
            simp only [World.size_alloc] at h2
            refine ⟨by omega, fun b hb8 => ?_⟩
            rcases hA8 with rfl | rfl
            · exact h1.2 b hb8
            · cases hb8
              have h3 := h1.1
              show a.block ≠ wr.heap.size + 1
              omega
          have hb8 : Below w.heap.size WS W8 := (HB7.out.mono hwW).grown hgr (by simp; omega) (fun k hk => Nat.le_trans (Nat.le_of_lt hw0) (hBO k hk))
          have hrows : RowsIn W8 W8.heap.size ds ((al.take i).map fun a => al.map fun b => legX t dk a b) := by
            refine ⟨HS.out.2.2.1.1, fun i' d row h1 h2 => ?_⟩
            have h3 := (HS.out.2.2.1.2 i' d row h1 h2).below HB7.out
            refine (Reads.grown h3 hgr (by simp; omega) (fun a ha e => ?_)).more (by have := hgr.size; simp only [World.size_alloc] at this; omega)
            cases hBv : BO with
            | none => rw [hBv] at e; cases e
            | some b' =>
              rw [hBv] at e
              exact (HS.out.2.2.2.1 d (List.mem_of_getElem? h1) a ha).2 b' hBv (Option.some.inj e)
          have hrow8 : Reads W8 W8.heap.size 2 BR j ((al.map fun b => legX t dk x b).flatMap legVals) :=
            ((HRW.out.grown hgr (fun a ha e => by
              cases hBv : BO with
              | none => rw [hBv] at e; cases e
              | some b' =>
                rw [hBv] at e
                have h1 := (HROW.out.lt ha).1
                have h2 := (HS.out.2.1.lt hBv).2
                have h3 : a.block = b'.block := Option.some.inj e
                omega)).reads (Nat.le_refl _))
          have HL8 := Lib.hid (show Lay w W8 [(w.heap.size, 25, #[.slice A n c, .slice A' m d])] from ⟨HS.out.1.1.trans hb8, fun b hb => by
            obtain rfl := List.mem_singleton.1 hb
            refine ⟨Nat.le_refl _, ?_⟩
            have h1 := ((HS.out.1.blk 0 rfl).below HB7.out (HS.out.1.blk 0 rfl).lt)
            refine h1.grown hgr (fun e => ?_)
            have h2 := hBO w.heap.size e.symm
            omega⟩)
          have HRI := Lib.hid (hrows.snoc (d := ⟨BR, j, qR⟩) hrow8)
          have HSEP := Lib.hid (show ∀ d ∈ ds ++ [(⟨BR, j, qR⟩ : RowD)], ∀ a, d.A = some a → a.block < W8.heap.size ∧ ∀ b, A8 = some b → a.block ≠ b.block from fun d hd a ha => by
            rcases List.mem_append.1 hd with hd | hd
            · exact hold d hd a ha
            · rw [List.mem_singleton.1 hd] at ha
              refine ⟨?_, fun b hb => hnew a b ha hb⟩
              have h1 := (HROW.out.lt ha).2
              have h2 := hgr.size
              simp only [World.size_alloc] at h2
              omega)
          have HOW := Lib.hid (show Own W8 w0.heap.size 207 1 A8 (i + 1) q8 ((ds ++ [(⟨BR, j, qR⟩ : RowD)]).map RowD.val) from by rw [List.map_append]; exact hown)
          have HSZ8 := Lib.hid (show w0.heap.size ≤ W8.heap.size from by have h2 := hgr.size; simp only [World.size_alloc] at h2; omega)
          clear hown hgr hA8 hBO hnew hold hb8 hrows hrow8
          gi_wp2
          go_roundw
          case rel =>
            refine ⟨i + 1, A8, q8, ds ++ [⟨BR, j, qR⟩], by first | rfl | go_num, by go_num, by omega, Lib.hid ⟨HL8.out, HOW.out, ?_, HSEP.out, HSZ8.out⟩⟩
            have h := HRI.out
            rw [← take_snocI HX.out, List.map_append]
            exact h
          case measure => simp [intOf]; omega
    · obtain rfl : i = n2 := by omega
      gi_wp2
      refine bodyPost_ret (v := .slice BO i qO) (by simp [results, Tryd.results103, go_sem]) rfl ⟨BO, qO, rfl, ⟨ds, HS.out.2.1.reads (Nat.le_refl _), ?_⟩, HS.out.1.1⟩
      have h := HS.out.2.2.1
      rwa [List.take_of_length_le (by rw [HRL.out]; exact Nat.le_refl _)] at h

theorem rlegs_any (A : Option Addr) (n c : Nat) (A' : Option Addr) (m d : Nat) (t : Town) (u : Int) (st : List Int) (A2 : Option Addr) (n2 c2 : Nat) (al : List Int) (dk : Bool) (w : World) (h0 : roundE t u st = 0) (hal : ∀ v ∈ al, v ∈ u :: st)
    (hn : n ≤ 1000) (hm : m ≤ 1000) (hn2 : n2 ≤ 7) (ht : TownAt w w.heap.size A n A' m t) (hr : IntsAt w w.heap.size A2 n2 al) :
    Calls Tryd.prog 103 #[.agg #[.slice A n c, .slice A' m d], .slice A2 n2 c2, .bool dk] w fun e w' => ∃ B q, e = .returned (.slice B n2 q) ∧ RowsAt w' w'.heap.size B n2 (legsM t dk al) ∧ Below w.heap.size w w' :=
  callsIn_wide.1 (rlegs_in A n c A' m d t u st A2 n2 c2 al dk w h0 hal hn hm hn2 ht hr)
end Go.Proofs.YtahkjagjcogeiaaDoor
/- The answer's search for rounds, by indices, plain Lean: the same rounds in the same order. -/
namespace Go.Proofs.YtahkjagjcogeiaaDoor
set_option linter.unusedVariables false

abbrev RndI := List Nat × Leg
def at2 (L : List (List Leg)) (i j : Nat) : Leg := ((L[i]?.getD [])[j]?).getD (0, -1)
def dfsI (L : List (List Leg)) (m : Nat) : Nat → List Nat → Nat → Leg → List RndI
  | 0, o, p, s => if (at2 L p 0).2 < 0 then [] else [(o, addG s (at2 L p 0))]
  | k + 1, o, p, s => (List.range' 1 m).flatMap fun i => if i ∈ o ∨ (at2 L p i).2 < 0 then [] else dfsI L m k (o ++ [i]) i (addG s (at2 L p i))
def stepI (b : Option RndI) (x : RndI) : Option RndI := match b with
  | none => some x
  | some y => if lessG x.2 y.2 then some x else some y
def betterI (L : List (List Leg)) (m k : Nat) (o : List Nat) (p : Nat) (s : Leg) (b : Option RndI) : Option RndI := (dfsI L m k o p s).foldl stepI b
def toR (pl : Nat → Int) (r : RndI) : Rnd := (r.1.map pl, r.2)
theorem step_map (pl : Nat → Int) (b : Option RndI) (x : RndI) : (stepI b x).map (toR pl) = stepR (b.map (toR pl)) (toR pl x) := by
  cases b with
  | none => rfl
  | some y =>
    by_cases h : lessG x.2 y.2 = true
    · have e1 : stepI (some y) x = some x := by unfold stepI; exact if_pos h
      have e2 : stepR (some (toR pl y)) (toR pl x) = some (toR pl x) := by unfold stepR; exact if_pos h
      rw [e1]; exact e2.symm
    · have e1 : stepI (some y) x = some y := by unfold stepI; exact if_neg h
      have e2 : stepR (some (toR pl y)) (toR pl x) = some (toR pl y) := by unfold stepR; exact if_neg h
      rw [e1]; exact e2.symm
theorem fold_map (pl : Nat → Int) : ∀ (l : List RndI) (b : Option RndI), (l.foldl stepI b).map (toR pl) = (l.map (toR pl)).foldl stepR (b.map (toR pl))
  | [], b => rfl
  | x :: l, b => by rw [List.foldl_cons, List.map_cons, List.foldl_cons, fold_map pl l, step_map]

structure Same (T : Int → Int → Option Leg) (L : List (List Leg)) (u : Int) (srt : List Int) (m : Nat) (pl : Nat → Int) : Prop where
  len : srt.length = m
  zero : pl 0 = u
  list : srt = (List.range' 1 m).map pl
  inj : ∀ i j, i ≤ m → j ≤ m → pl i = pl j → i = j
  leg : ∀ i j, i ≤ m → j ≤ m → at2 L i j = (T (pl i) (pl j)).getD (0, -1)
  pos : ∀ a b d, T a b = some d → 0 ≤ d.2
theorem dfs_same {T : Int → Int → Option Leg} {L : List (List Leg)} {u : Int} {srt : List Int} {m : Nat} {pl : Nat → Int} (h : Same T L u srt m pl) (hnd : srt.Nodup) :
    ∀ (k : Nat) (o : List Nat) (p : Nat) (s : Leg), (∀ i ∈ o, i ≤ m) → p ≤ m → (dfsI L m k o p s).map (toR pl) = dfs T u k (o.map pl) (pl p) s (srt.filter fun x => decide (x ∉ o.map pl))
  | 0, o, p, s, ho, hp => by
    unfold dfsI dfs
    rw [h.leg p 0 hp (Nat.zero_le _), h.zero]
    cases hT : T (pl p) u with
    | none => rfl
    | some d =>
      have := h.pos _ _ _ hT
      simp only [Option.getD_some]
      rw [if_neg (by omega)]
      rfl
  | k + 1, o, p, s, ho, hp => by
    unfold dfsI
    rw [dfs, List.map_flatMap]
    have hf : (srt.filter fun x => decide (x ∉ o.map pl)) = ((List.range' 1 m).filter fun i => decide (pl i ∉ o.map pl)).map pl := by
      conv => lhs; rw [h.list]
      rw [List.filter_map]
      rfl
    have key : ∀ i, i ∈ List.range' 1 m → (if i ∈ o ∨ (at2 L p i).2 < 0 then [] else dfsI L m k (o ++ [i]) i (addG s (at2 L p i))).map (toR pl) =
        if pl i ∈ o.map pl then [] else (match T (pl p) (pl i) with
          | none => []
          | some d => dfs T u k (o.map pl ++ [pl i]) (pl i) (addG s d) ((srt.filter fun x => decide (x ∉ o.map pl)).erase (pl i))) := by
      intro i hi
      have hi2 : i ≤ m := by
        have := List.mem_range'.1 hi
        obtain ⟨q, h1, h2⟩ := this
        omega
      by_cases hio : i ∈ o
      · rw [if_pos (.inl hio), if_pos (List.mem_map.2 ⟨i, hio, rfl⟩)]
        rfl
      · have hno : pl i ∉ o.map pl := fun hm => by
          obtain ⟨q, h1, h2⟩ := List.mem_map.1 hm
          have := h.inj q i (ho q h1) hi2 h2
          subst this
          exact hio h1
        rw [if_neg hno, h.leg p i hp hi2]
        cases hT : T (pl p) (pl i) with
        | none =>
          simp
        | some d =>
          have hd := h.pos _ _ _ hT
          simp only [Option.getD_some]
          rw [if_neg (fun hc => by rcases hc with hc | hc; exact hio hc; omega)]
          rw [dfs_same h hnd k (o ++ [i]) i (addG s d) (fun q hq => by
            rcases List.mem_append.1 hq with hq | hq
            · exact ho q hq
            · rw [List.mem_singleton.1 hq]; exact hi2) hi2]
          rw [List.map_append]
          congr 1
          rw [(hnd.sublist List.filter_sublist).erase_eq_filter, List.filter_filter]
          apply List.filter_congr
          intro x hx
          simp only [List.map_cons, List.map_nil, List.mem_append, List.mem_singleton, decide_not, Bool.decide_or, Bool.not_or]
          by_cases e1 : x = pl i <;> by_cases e2 : x ∈ o.map pl <;> simp [e1, e2]
    have e1 : ((List.range' 1 m).flatMap fun i => (if i ∈ o ∨ (at2 L p i).2 < 0 then [] else dfsI L m k (o ++ [i]) i (addG s (at2 L p i))).map (toR pl)) = (List.range' 1 m).flatMap fun i => if pl i ∈ o.map pl then [] else (match T (pl p) (pl i) with
          | none => []
          | some d => dfs T u k (o.map pl ++ [pl i]) (pl i) (addG s d) ((srt.filter fun x => decide (x ∉ o.map pl)).erase (pl i))) :=
      flatMap_congr' _ _ _ key
    rw [e1]
    conv => rhs; rw [show (srt.filter fun x => decide (x ∉ o.map pl)) = ((List.range' 1 m).filter fun i => decide (pl i ∉ o.map pl)).map pl from hf]
    rw [List.flatMap_map, ← hf]
    exact (flatMap_filter' _ _ _).symm
where
  flatMap_congr' {α β : Type} (l : List α) (f g : α → List β) (h : ∀ x, x ∈ l → f x = g x) : l.flatMap f = l.flatMap g := by
    induction l with
    | nil => rfl
    | cons x l ih => rw [List.flatMap_cons, List.flatMap_cons, h x (by simp), ih (fun y hy => h y (by simp [hy]))]
  flatMap_filter' {α β : Type} (l : List α) (q : α → Prop) [DecidablePred q] (f : α → List β) : (l.filter fun i => decide (¬ q i)).flatMap f = l.flatMap fun i => if q i then [] else f i := by
    induction l with
    | nil => rfl
    | cons x l ih =>
      by_cases hx : q x
      · rw [List.filter_cons_of_neg (by simpa using hx), List.flatMap_cons, if_pos hx, ih]; rfl
      · rw [List.filter_cons_of_pos (by simpa using hx), List.flatMap_cons, List.flatMap_cons, if_neg hx, ih]
theorem best_same {T : Int → Int → Option Leg} {L : List (List Leg)} {u : Int} {srt : List Int} {m : Nat} {pl : Nat → Int} (h : Same T L u srt m pl) (hnd : srt.Nodup) : (betterI L m m [] 0 (0, 0) none).map (toR pl) = bestG T u srt := by
  unfold betterI bestG
  rw [fold_map, dfs_same h hnd m [] 0 (0, 0) (fun i hi => by cases hi) (Nat.zero_le _), h.len, h.zero]
  have e : (srt.filter fun x => decide (x ∉ ([] : List Nat).map pl)) = srt := List.filter_eq_self.2 (fun x hx => by simp)
  rw [e]
  rfl
end Go.Proofs.YtahkjagjcogeiaaDoor
/- The answer's Less. -/
namespace Go.Proofs.YtahkjagjcogeiaaDoor
open Go.RowKit
set_option linter.unusedVariables false

set_option maxRecDepth 100000 in
set_option maxHeartbeats 4000000 in
theorem lessToil_any (a1 a2 b1 b2 : Int) (w : World) :
    Calls Tryd.prog 82 #[.agg #[.int .i64 a1, .int .i64 a2], .agg #[.int .i64 b1, .int .i64 b2]] w fun e w' => e = .returned (.bool (lessP a1 a2 b1 b2)) ∧ Below w.heap.size w w' := by
  have hb : Below w.heap.size w ((w.alloc (.cells #[.int .i64 a1, .int .i64 a2] 59)).alloc (.cells #[.int .i64 b1, .int .i64 b2] 59)) := ((Below.refl _ _).alloc (Nat.le_refl _) _).alloc (by simp) _
  by_cases h1 : a1 < b1
  · have e : lessP a1 a2 b1 b2 = true := by unfold lessP; simp [h1]
    have HE := Lib.hid e
    have HB := Lib.hid hb
    clear e hb
    go_enter Tryd.func82, Tryd.ntmps82
    go_wp2_with fail
    go_ret
    exact ⟨ret_bool HE.out.symm, HB.out⟩
  · by_cases h2 : a1 = b1
    · subst h2
      have e : lessP a1 a2 a1 b2 = decide (a2 < b2) := by unfold lessP; simp
      have HE := Lib.hid e
      have HB := Lib.hid hb
      clear e hb h1
      go_enter Tryd.func82, Tryd.ntmps82
      go_wp2_with fail
      go_ret
      exact ⟨ret_bool HE.out.symm, HB.out⟩
    · have e : lessP a1 a2 b1 b2 = false := by unfold lessP; simp [h1, h2]
      have h2' : (a1 == b1) = false := by simpa using h2
      have HE := Lib.hid e
      have HB := Lib.hid hb
      clear e hb h2
      go_enter Tryd.func82, Tryd.ntmps82
      go_wp2_with fail
      go_ret
      exact ⟨ret_bool HE.out.symm, HB.out⟩
end Go.Proofs.YtahkjagjcogeiaaDoor
