/- ClimbWet: whatever the arguments, the law answers true. The row, and the card. -/
import Derived.Test.YtahkjagjcogeiaaGreatDoorRows
import Derived.ProofKit
import Derived.LaidMore
import Derived.LaidHandle
import Derived.Stop.Joined
import Derived.ChangeSame
import Derived.OpenShut
import Derived.Lib.SmallJoins
import Derived.ChangeArms
import Derived.SevenTiedAt
import Derived.Test.YtahkjagjcogeiaaGreatDoorCards
import Derived.Test.YtahkjagjcogeiaaGreatDoorTie
import Derived.Test.YtahkjagjcogeiaaGreatDoorZxWet11
set_option linter.unusedVariables false
/- The answer's first: the first walk out of the least costs. -/
namespace Go.Proofs.YtahkjagjcogeiaaGreatDoor
section
open Go.RowKit Go.Shelf
theorem EAt.cell {w : World} {B : Nat} {A : Option Addr} {n : Nat} {E : List (Option Cost)} (h : EAt w B A n E) {k : Nat} {r : Option Cost} (hk : E[k]? = some r) : ∃ b off, A = some ⟨b, off, none⟩ ∧ b < B ∧
  w.cell? ⟨b, off + k * 4, none⟩ = some (.int .i64 (entC r).a) ∧ w.cell? ⟨b, off + k * 4 + 1, none⟩ = some (.int .i64 (entC r).b) ∧ w.cell? ⟨b, off + k * 4 + 2, none⟩ = some (.int .i64 (entC r).c) ∧ w.cell? ⟨b, off + k * 4 + 3, none⟩ = some (.int .i64 (entC r).d) := by
 have hk' := (List.getElem?_eq_some_iff.1 hk).1
 obtain ⟨b, off, e, hb, hc⟩ := Reads.plain h (by rw [eVals_len]; omega)
 exact ⟨b, off, e, hb, hc (k * 4) _ (eVals_at (j := 0) hk (by omega)), hc (k * 4 + 1) _ (eVals_at (j := 1) hk (by omega)), hc (k * 4 + 2) _ (eVals_at (j := 2) hk (by omega)), hc (k * 4 + 3) _ (eVals_at (j := 3) hk (by omega))⟩
def RFirstOut (w : World) (r : Option (Cost × List Int)) (e : Ending) (w' : World) : Prop :=
 ∃ (A : Option Addr) (n cap : Nat) (co : Cost), e = .returned (.tuple #[.slice A n cap, costV co, .bool r.isSome]) ∧ (r = none → A = none ∧ n = 0 ∧ cap = 0 ∧ co = zeroC) ∧ (∀ q, r = some q → q.1 = co ∧ IntsAt w' w'.heap.size A n q.2) ∧ (∀ a, A = some a → w.heap.size ≤ a.block ∧ a.block < w'.heap.size) ∧ Below w.heap.size w w'
structure RFSt (w : World) (T : Array Value) (p : Price) (A : Option Addr) (n : Nat) (E : List (Option Cost)) (B : Nat) (c0 : Cost) (W : World) : Prop where
 bel : Below w.heap.size w W
 tb : Blk W w.heap.size 25 T
 pb : Blk W (w.heap.size + 1) 122 #[.int .i64 p.pace, .int .i64 p.up, .int .i64 p.step]
 rb : Blk W (w.heap.size + 1 + 1) 118 #[.int .i64 0, .int .i64 0, .int .i64 0, .int .i64 0]
 ea : EAt W B A n E
 eb : w.heap.size + 1 + 1 < B
 fb : Blk W B 118 #[.int .i64 c0.a, .int .i64 c0.b, .int .i64 c0.c, .int .i64 c0.d]
theorem RFSt.below {w W W' : World} {T : Array Value} {p : Price} {A : Option Addr} {n B : Nat} {E : List (Option Cost)} {c0 : Cost} (h : RFSt w T p A n E B c0 W) (hb : Below W.heap.size W W') : RFSt w T p A n E B c0 W' :=
 ⟨h.bel.trans (hb.mono h.bel.size), h.tb.below hb h.tb.lt, h.pb.below hb h.pb.lt, h.rb.below hb h.rb.lt, h.ea.below (hb.mono (Nat.le_of_lt h.fb.lt)), h.eb, h.fb.below hb h.fb.lt⟩
theorem RFSt.low {w W W' : World} {T : Array Value} {p : Price} {A : Option Addr} {n B : Nat} {E : List (Option Cost)} {c0 : Cost} (h : RFSt w T p A n E B c0 W) (hb : Below (B + 1) W W') : RFSt w T p A n E B c0 W' := by
 have h1 := h.eb
 have h2 := h.fb.lt
 exact ⟨h.bel.trans (hb.mono (by omega)), h.tb.below hb (by omega), h.pb.below hb (by omega), h.rb.below hb (by omega), h.ea.below (hb.mono (by omega)), h.eb, h.fb.below hb (by omega)⟩
theorem RFSt.entry {w W : World} {T : Array Value} {p : Price} {be oe n B : Nat} {E : List (Option Cost)} {c0 : Cost} (h : RFSt w T p (some ⟨be, oe, none⟩) n E B c0 W) {k : Nat} {r : Option Cost} (hk : E[k]? = some r) :
  W.cell? ⟨be, oe + k * 4, none⟩ = some (.int .i64 (entC r).a) ∧ W.cell? ⟨be, oe + k * 4 + 1, none⟩ = some (.int .i64 (entC r).b) ∧ W.cell? ⟨be, oe + k * 4 + 2, none⟩ = some (.int .i64 (entC r).c) ∧ W.cell? ⟨be, oe + k * 4 + 3, none⟩ = some (.int .i64 (entC r).d) := by
 obtain ⟨b, off, e, _, h1, h2, h3, h4⟩ := h.ea.cell hk
 cases e
 exact ⟨h1, h2, h3, h4⟩
theorem rplus_cls' {W : World} {n : Nat} (x y s : Cost) (hs : addC x y = s) (hx : Small x) (hy : Small y) {σ : Type} {of : σ → World} (h1 : ∀ z, Below W.heap.size W (of z)) (h2 : ∀ z W', Below (of z).heap.size (of z) W' → Cls of W') (z : σ) :
  CallsIn Fence.wide n Tryz.prog 113 #[.agg #[.int .i64 x.a, .int .i64 x.b, .int .i64 x.c, .int .i64 x.d], .agg #[.int .i64 y.a, .int .i64 y.b, .int .i64 y.c, .int .i64 y.d]] (of z) fun e w'' => e = .returned (.agg #[.int .i64 s.a, .int .i64 s.b, .int .i64 s.c, .int .i64 s.d]) ∧ Cls of w'' := by
 subst hs
 exact rplus_cls x y hx hy h1 h2 z
theorem Cost.ext_list {c d : Cost} (h : c.list = d.list) : c = d := by
 obtain ⟨a, b, e, f⟩ := c
 obtain ⟨a', b', e', f'⟩ := d
 simp only [Cost.list, List.cons.injEq, and_true] at h
 obtain ⟨rfl, rfl, rfl, rfl⟩ := h
 rfl
theorem first_here {t : Town} {dk : Bool} {p : Price} (ht : Fine t) (hp : Fair p) (u : Int) : First t dk p u u (some (zeroC, [])) := by
 refine ⟨.nil u, fun c' l' h => ?_⟩
 have hb := h.bound ht hp
 rw [cmp_key]
 by_cases hl : l' = []
 ·subst hl
  cases h
  rw [if_pos (cmpL_refl _), cmpL_refl]
  exact Int.le_refl _
 ·have h1 : 0 < l'.length := List.length_pos_iff.2 hl
  have h2 : cmpL zeroC.list c'.list = -1 := by
   rw [cmpC_unf]
   have za : zeroC.a = 0 := rfl
   have zb : zeroC.b = 0 := rfl
   have zc : zeroC.c = 0 := rfl
   by_cases ha : zeroC.a < c'.a
   ·rw [if_pos ha]
   ·rw [if_neg ha, if_neg (by omega)]
    by_cases hb' : zeroC.b < c'.b
    ·rw [if_pos hb']
    ·rw [if_neg hb', if_neg (by omega), if_pos (by omega)]
  rw [h2, if_neg (by omega)]
  omega
theorem first_end {t : Town} {dk : Bool} {p : Price} {v to : Int} {E : List (Option Cost)} {ia : Nat} {ca cc k0 : Cost} {acc : List Int} (hC : Costs t dk p to E) (ht : Fine t) (hp : Fair p) (hia : t.places[ia]? = some to) (hcc : E[ia]? = some (some cc)) (hk : addC ca cc = k0)
  (hF : ∀ c' r, First t dk p to to (some (c', r)) → First t dk p v to (some (addC ca c', acc ++ r))) : best t dk p v to = some (k0, acc) := by
 have h0 := first_here (dk := dk) ht hp to
 have h1 := hF _ _ h0
 rw [List.append_nil, addC_zero] at h1
 have h2 := hC.2 ia to hia _ hcc
 obtain ⟨⟨l, hw⟩, hmin⟩ := h2
 have h3 := key_cost (h0.2 _ _ hw)
 have h4 := hmin _ _ (.nil to)
 have h5 : cc = zeroC := Cost.ext_list (cmpL_antisymm h4 h3)
 rw [h5, addC_zero] at hk
 subst hk
 exact ((first_iff ht hp).1 h1).symm
theorem Own.keepB {w w' : World} {base n cap size : Nat} {e : TypeId} {A : Option Addr} {xs : List Value} (o : Own w base e size A n cap xs) (hk : ∀ g : Nat, base ≤ g → g < w.heap.size → w'.heap[g]? = w.heap[g]?) : Own w' base e size A n cap xs := by
 refine ⟨o.1, ?_⟩
 rcases o.2 with h' | ⟨g, cap', cur, hv, hb, hg, hr⟩
 ·exact .inl h'
 ·exact .inr ⟨g, cap', cur, hv, hb, (hk g hb (Array.getElem?_eq_some_iff.1 hg).1).trans hg, hr⟩
set_option maxRecDepth 100000 in
set_option maxHeartbeats 16000000 in
theorem rfirst_in (A : Option Addr) (n c : Nat) (A' : Option Addr) (m d : Nat) (p : Price) (t : Town) (dk : Bool) (v to : Int) (w : World)
  (hm : m ≤ 20) (ha : IntsAt w w.heap.size A n t.places) (ht : LinksAt w w.heap.size A' m t.links) (hp : Cheap p) (hfine : Fine t) (hfair : Fair p) (hnd : t.places.Nodup) (hv : v ∈ t.places) :
  CallsIn Fence.wide 9 Tryz.prog 70 #[.agg #[.slice A n c, .slice A' m d], .int .i64 v, .int .i64 to, .bool dk, .agg #[.int .i64 p.pace, .int .i64 p.up, .int .i64 p.step]] w (RFirstOut w (best t dk p v to)) := by
 have HT := lh ht
 have HP := lh hp
 have HA := lh ha
 have HFI := lh hfine
 have HFA := lh hfair
 have HND := lh hnd
 have HLm := lh ht.len
 have HLn := lh ha.len
 have hn9 : n ≤ 9 := by have := hfine.size; have := ha.len; omega
 obtain ⟨i0, hpi, hi0, hi0l⟩ := placeI_at hv
 have HPI := lh hpi
 have HI0 := lh hi0
 have hi0n : i0 < n := by have := HLn.out; omega
 clear ha ht hp hfine hfair hnd hpi hi0 hv
 refine callsIn_of_wp Tryz.func70 rfl trivial ?_ rfl
 simp only [Tryz.ntmps70, List.size_toArray, List.length_cons, List.length_nil, Nat.reduceAdd, Nat.reduceSub, Array.replicate_succ, Array.replicate_zero, List.push_toArray, List.append_toArray, List.nil_append, List.cons_append]
 gi_wp2
 have B0 : Below w.heap.size w (((w.alloc (.cells #[.slice A n c, .slice A' m d] 25)).alloc (.cells #[.int .i64 p.pace, .int .i64 p.up, .int .i64 p.step] 122)).alloc (.cells #[.int .i64 0, .int .i64 0, .int .i64 0, .int .i64 0] 118)) :=
  (((Below.refl w.heap.size w).alloc (Nat.le_refl _) (.cells #[.slice A n c, .slice A' m d] 25)).alloc (by simp) (.cells #[.int .i64 p.pace, .int .i64 p.up, .int .i64 p.step] 122)).alloc (by simp; omega) (.cells #[.int .i64 0, .int .i64 0, .int .i64 0, .int .i64 0] 118)
 have T0 := ((Blk.new w 25 #[.slice A n c, .slice A' m d]).alloc (.cells #[.int .i64 p.pace, .int .i64 p.up, .int .i64 p.step] 122)).alloc (.cells #[.int .i64 0, .int .i64 0, .int .i64 0, .int .i64 0] 118)
 have P0 := (Blk.new (w.alloc (.cells #[.slice A n c, .slice A' m d] 25)) 122 #[.int .i64 p.pace, .int .i64 p.up, .int .i64 p.step]).alloc (.cells #[.int .i64 0, .int .i64 0, .int .i64 0, .int .i64 0] 118)
 have R0 := Blk.new ((w.alloc (.cells #[.slice A n c, .slice A' m d] 25)).alloc (.cells #[.int .i64 p.pace, .int .i64 p.up, .int .i64 p.step] 122)) 118 #[.int .i64 0, .int .i64 0, .int .i64 0, .int .i64 0]
 rw [World.size_alloc] at P0
 rw [World.size_alloc, World.size_alloc] at R0
 have HB0 := lh B0
 have HT0 := lh T0
 have HP0 := lh P0
 have HR0 := lh R0
 clear B0 T0 P0 R0
 generalize (((w.alloc (.cells #[.slice A n c, .slice A' m d] 25)).alloc (.cells #[.int .i64 p.pace, .int .i64 p.up, .int .i64 p.step] 122)).alloc (.cells #[.int .i64 0, .int .i64 0, .int .i64 0, .int .i64 0] 118)) = w0 at *
 refine ⟨trivial, (callsIn_wide.2 (rcosts_any A n c A' m d p t dk to w0 hm ((HA.out.below HB0.out).more HB0.out.size) ((HT.out.below HB0.out).more HB0.out.size) HP.out HFI.out HFA.out HND.out)).mono ?_⟩
 rintro e w1 ⟨AE, E, rfl, hea, hC, hL, hb1⟩
 have HEA := lh hea
 have HC := lh hC
 have HL := lh hL
 have HB1 := lh hb1
 have HT1 := lh (HT0.out.below hb1 HT0.out.lt)
 have HP1 := lh (HP0.out.below hb1 HP0.out.lt)
 have HR1 := lh (HR0.out.below hb1 HR0.out.lt)
 have BB1 := lh (HB0.out.trans (hb1.mono HB0.out.size))
 clear hea hC hL hb1 HT0 HP0 HR0
 have t0 := HT1.out.cell 0
 have t1 := HT1.out.cell 1
 gi_wp2
 refine ⟨trivial, (callsIn_wide.2 (place_any A n c A' m d t v w1 (by unfold maxLen; omega) ((HA.out.below BB1.out).more BB1.out.size))).mono ?_⟩
 rintro e w2 ⟨rfl, hb2⟩
 rw [HPI.out]
 have HEA2 : Hid (EAt w2 w1.heap.size AE n E) := lh (Reads.below HEA.out hb2)
 have HT2 := lh (HT1.out.below hb2 HT1.out.lt)
 have HP2 := lh (HP1.out.below hb2 HP1.out.lt)
 have HR2 := lh (HR1.out.below hb2 HR1.out.lt)
 have BB2 := lh (BB1.out.trans (hb2.mono BB1.out.size))
 have hsz2 := hb2.size
 clear hb2 t0 t1 HT1 HP1 HR1
 obtain ⟨r, hr⟩ : ∃ r, E[i0]? = some r := ⟨_, List.getElem?_eq_getElem (by rw [HC.out.1]; exact hi0l)⟩
 have HR := lh hr
 clear hr
 obtain ⟨be, oe, rfl, hbe, c0, c1, c2, c3⟩ := HEA2.out.cell HR.out
 have hbel : be < w2.heap.size := Nat.lt_of_lt_of_le hbe hsz2
 have f0 := HR2.out.cell 0
 have f1 := HR2.out.cell 1
 have f2 := HR2.out.cell 2
 have f3 := HR2.out.cell 3
 have z0 := HR2.out.frozen 0
 have z1 := HR2.out.frozen 1
 have z2 := HR2.out.frozen 2
 have z3 := HR2.out.frozen 3
 have hrl : w.heap.size + 1 + 1 < w2.heap.size := HR2.out.lt
 cases r with
 | none =>
  have hge : decide ((1000000000 : Int) ≤ (entC none).a) = true := by simp [entC, infC]
  gi_wp2
  have R4 := ret4 HR2.out BB2.out (by omega) (.int .i64 0) (.int .i64 0) (.int .i64 0) (.int .i64 0)
  have R5 := R4.1.alloc (.cells #[.int .i64 (entC none).a, .int .i64 (entC none).b, .int .i64 (entC none).c, .int .i64 (entC none).d] 118)
  have y0 := R5.cell 0
  have y1 := R5.cell 1
  have y2 := R5.cell 2
  have y3 := R5.cell 3
  refine bodyPost_ret (v := .tuple #[.slice none 0 0, costV zeroC, .bool false]) (by simp [results, Tryz.results70, go_sem, y0, y1, y2, y3, zeroC]) rfl ?_
  have hno : best t dk p v to = none := by
   have h := HC.out.2 i0 v HI0.out none HR.out
   exact ((first_iff HFI.out HFA.out (r := none)).1 h).symm
  rw [hno]
  exact ⟨none, 0, 0, zeroC, rfl, fun _ => ⟨rfl, rfl, rfl, rfl⟩, (fun q hq => by cases hq), (fun a ha => by cases ha), R4.2.alloc R4.2.size _⟩
 | some k0 =>
  have hge : decide ((1000000000 : Int) ≤ (entC (some k0)).a) = false := by
   have := (HL.out i0 k0 HR.out).a
   exact decide_eq_false (show ¬ (1000000000 : Int) ≤ k0.a by omega)
  gi_wp2
  have hbW : Below w2.heap.size w2 (w2.alloc (.cells #[.int .i64 (entC (some k0)).a, .int .i64 (entC (some k0)).b, .int .i64 (entC (some k0)).c, .int .i64 (entC (some k0)).d] 118)) := (Below.refl _ _).alloc (Nat.le_refl _) _
  have HS3 : Hid (RFSt w #[.slice A n c, .slice A' m d] p (some ⟨be, oe, none⟩) n E w2.heap.size k0 (w2.alloc (.cells #[.int .i64 (entC (some k0)).a, .int .i64 (entC (some k0)).b, .int .i64 (entC (some k0)).c, .int .i64 (entC (some k0)).d] 118))) := lh
   ⟨BB2.out.trans (hbW.mono BB2.out.size), HT2.out.below hbW HT2.out.lt, HP2.out.below hbW HP2.out.lt, HR2.out.below hbW HR2.out.lt, (HEA2.out.more hsz2).below hbW, hrl, Blk.new _ _ _⟩
  generalize (w2.alloc (.cells #[.int .i64 (entC (some k0)).a, .int .i64 (entC (some k0)).b, .int .i64 (entC (some k0)).c, .int .i64 (entC (some k0)).d] 118)) = w3 at *
  clear hbW c0 c1 c2 c3 f0 f1 f2 f3 z0 z1 z2 z3
  gi_loopg [1, 15] k0.c.toNat (fun g v1 v15 wr => ∃ (at_ : Int) (ia : Nat) (ca cc : Cost) (acc : List Int) (AO : Option Addr) (capO : Nat), v1 = .int .i64 at_ ∧ v15 = .slice AO acc.length capO ∧ g = cc.c.toNat ∧ Hid (RFSt w #[.slice A n c, .slice A' m d] p (some ⟨be, oe, none⟩) n E w2.heap.size k0 wr ∧ t.places[ia]? = some at_ ∧ E[ia]? = some (some cc) ∧ Walk t dk p v at_ ca acc ∧ addC ca cc = k0 ∧ (∀ c' r, First t dk p at_ to (some (c', r)) → First t dk p v to (some (addC ca c', acc ++ r))) ∧ Own wr (w2.heap.size + 1) 3 1 AO acc.length capO (acc.map (Value.int .i64))))
  case atStart =>
   exact ⟨v, i0, zeroC, k0, [], none, 0, rfl, rfl, rfl, lh ⟨HS3.out, HI0.out, HR.out, .nil _, zero_addC k0, fun c' r h => by rw [zero_addC]; exact h, Own.none_ _ _ _ _⟩⟩
  case round =>
   obtain ⟨at_, ia, ca, cc, acc, AO, capO, rfl, rfl, hg, HS⟩ := hrel
   clear HS3
   by_cases hne : at_ = to
   ·have HNE := lh hne
    subst hne
    have s0 := HS.out.1.rb.cell 0
    have s1 := HS.out.1.rb.cell 1
    have s2 := HS.out.1.rb.cell 2
    have s3 := HS.out.1.rb.cell 3
    have z0 := HS.out.1.rb.frozen 0
    have z1 := HS.out.1.rb.frozen 1
    have z2 := HS.out.1.rb.frozen 2
    have z3 := HS.out.1.rb.frozen 3
    have f0 := HS.out.1.fb.cell 0
    have f1 := HS.out.1.fb.cell 1
    have f2 := HS.out.1.fb.cell 2
    have f3 := HS.out.1.fb.cell 3
    have HEND := lh (first_end HC.out HFI.out HFA.out HS.out.2.1 HS.out.2.2.1 HS.out.2.2.2.2.1 HS.out.2.2.2.2.2.1)
    gi_wp2
    gi_region
    all_goals
     gi_wp2
     have R4 := ret4 (w := w) HS.out.1.rb (HS.out.1.bel) (by omega) (.int .i64 k0.a) (.int .i64 k0.b) (.int .i64 k0.c) (.int .i64 k0.d)
     have L4 := (ret4 (w := wr) (B := w.heap.size + 1 + 1) HS.out.1.rb (Below.refl _ _) (Nat.le_refl _) (.int .i64 k0.a) (.int .i64 k0.b) (.int .i64 k0.c) (.int .i64 k0.d))
     have y0 := R4.1.cell 0
     have y1 := R4.1.cell 1
     have y2 := R4.1.cell 2
     have y3 := R4.1.cell 3
     refine bodyPost_ret (v := .tuple #[.slice AO acc.length capO, costV k0, .bool true]) (by simp [results, Tryz.results70, go_sem, y0, y1, y2, y3]) rfl ?_
     rw [HEND.out]
     have hown := HS.out.2.2.2.2.2.2.keepB (w' := ((((wr.setCell ⟨w.heap.size + 1 + 1, 0, none⟩ (.int .i64 k0.a)).setCell ⟨w.heap.size + 1 + 1, 1, none⟩ (.int .i64 k0.b)).setCell ⟨w.heap.size + 1 + 1, 2, none⟩ (.int .i64 k0.c)).setCell ⟨w.heap.size + 1 + 1, 3, none⟩ (.int .i64 k0.d))) (fun g hg _ => by
      have hne : g ≠ w.heap.size + 1 + 1 := by omega
      exact (Below.heap_setCell _ ⟨w.heap.size + 1 + 1, 3, none⟩ _ g hne).trans ((Below.heap_setCell _ ⟨w.heap.size + 1 + 1, 2, none⟩ _ g hne).trans ((Below.heap_setCell _ ⟨w.heap.size + 1 + 1, 1, none⟩ _ g hne).trans (Below.heap_setCell _ ⟨w.heap.size + 1 + 1, 0, none⟩ _ g hne))))
     exact ⟨AO, acc.length, capO, k0, rfl, (fun h => by cases h), (fun q hq => by cases hq; exact ⟨rfl, hown.reads (Nat.le_refl _)⟩), (fun a ha => ⟨by have := (hown.lt ha).1; omega, (hown.lt ha).2⟩), below_drewN R4.2 1⟩
   ·have HNE := lh hne
    have t0 := HS.out.1.tb.cell 0
    have t1 := HS.out.1.tb.cell 1
    have hnb : (at_ != to) = true := by simpa using HNE.out
    gi_wp2
    gi_loopw [1, 15, 42] (fun v1 v15 vj wr => ∃ j : Nat, v1 = .int .i64 at_ ∧ v15 = .slice AO acc.length capO ∧ vj = .int .i64 j ∧ j ≤ m ∧ Hid (RFSt w #[.slice A n c, .slice A' m d] p (some ⟨be, oe, none⟩) n E w2.heap.size k0 wr ∧ Own wr (w2.heap.size + 1) 3 1 AO acc.length capO (acc.map (Value.int .i64)) ∧
     ∀ y ∈ t.links.take j, ∀ n' cy (i' : Nat) d', leads dk p y at_ = some (n', cy) → t.places[i']? = some n' → E[i']? = some (some d') → addC cy d' ≠ cc)) (fun _ _ vj _ => m - (intOf vj).toNat)
    case atStart => exact ⟨0, rfl, rfl, rfl, Nat.zero_le _, lh ⟨HS.out.1, HS.out.2.2.2.2.2.2, fun y hy => by simp at hy⟩⟩
    case round =>
     obtain ⟨j, rfl, rfl, rfl, hjm, HU⟩ := hrel
     have HREL := lh HS.out.2
     clear HS
     by_cases hjl : j < m
     ·obtain ⟨b, off, x, rfl, hb, hx, l0, l1, l2, l3, l4⟩ := (HT.out.below HU.out.1.bel).cell hjl
      have hbl : b < wr.heap.size := Nat.lt_of_lt_of_le hb HU.out.1.bel.size
      have HX := lh hx
      clear hx hb t0 t1
      have p0 := HU.out.1.pb.cell 0
      have p1 := HU.out.1.pb.cell 1
      have p2 := HU.out.1.pb.cell 2
      have hpl := HU.out.1.pb.lt
      have htl := HU.out.1.tb.lt
      gi_wp2
      have HS4 : Hid (RFSt w #[.slice A n c, .slice (some ⟨b, off, none⟩) m d] p (some ⟨be, oe, none⟩) n E w2.heap.size k0 (wr.alloc (.cells #[.int .i64 x.id, .int .i64 x.fr, .int .i64 x.to, .int .i64 x.steps, .int .i64 x.paces] 52)) ∧ Own (wr.alloc (.cells #[.int .i64 x.id, .int .i64 x.fr, .int .i64 x.to, .int .i64 x.steps, .int .i64 x.paces] 52)) (w2.heap.size + 1) 3 1 AO acc.length capO (acc.map (Value.int .i64))) := lh ⟨HU.out.1.below ((Below.refl _ _).alloc (Nat.le_refl _) _), HU.out.2.1.alloc _⟩
      have HLB4 : Hid (Blk (wr.alloc (.cells #[.int .i64 x.id, .int .i64 x.fr, .int .i64 x.to, .int .i64 x.steps, .int .i64 x.paces] 52)) wr.heap.size 52 #[.int .i64 x.id, .int .i64 x.fr, .int .i64 x.to, .int .i64 x.steps, .int .i64 x.paces]) := lh (Blk.new _ _ _)
      have HNO := lh HU.out.2.2
      have HLO : Hid (w2.heap.size + 1 ≤ wr.heap.size) := lh (HU.out.1.fb.lt)
      have HXM : Hid (x ∈ t.links) := lh (List.mem_of_getElem? HX.out)
      have HFit : Hid (Fit x) := lh ⟨HFI.out.steps x HXM.out, HFI.out.paces x HXM.out⟩
      clear HU p0 p1 p2 l0 l1 l2 l3 l4 hbl hpl htl
      generalize (wr.alloc (.cells #[.int .i64 x.id, .int .i64 x.fr, .int .i64 x.to, .int .i64 x.steps, .int .i64 x.paces] 52)) = w4 at *
      have e1 : ((j + 1 : Nat) : Int) = (j : Int) + 1 := by omega
      refine ⟨trivial, (callsIn_wide.2 (leads_any x at_ dk p w4 HFit.out HP.out)).mono ?_⟩
      rcases hld : leads dk p x at_ with _ | ⟨v', cx⟩
      ·rintro e w5 ⟨he, hb5⟩
       obtain rfl : e = .returned (.tuple #[.int .i64 0, .agg #[.int .i64 0, .int .i64 0, .int .i64 0, .int .i64 0], .bool false]) := he
       have HLD := lh hld
       have HS5 := lh (show _ ∧ _ from ⟨HS4.out.1.below hb5, HS4.out.2.below hb5 (Nat.le_refl _)⟩)
       clear hld hb5
       gi_wp2
       have HS6 := lh (show _ ∧ _ from ⟨HS5.out.1.below ((Below.refl _ _).alloc (Nat.le_refl _) (.cells #[.int .i64 0, .int .i64 0, .int .i64 0, .int .i64 0] 118)), HS5.out.2.alloc (.cells #[.int .i64 0, .int .i64 0, .int .i64 0, .int .i64 0] 118)⟩)
       generalize (w5.alloc (.cells #[.int .i64 0, .int .i64 0, .int .i64 0, .int .i64 0] 118)) = w6 at *
       refine wpIn_region_old (AF := ?AF1) [0, 1, 2, 3, 4, 5, 6, 7, 8, 9, 10, 11, 12, 13, 14, 15, 16, 17] [] [true, true, true, true, true, true, true, true, true, true, true, true, true, true, true, true, true, true] [false, false, false, false, false, false, false, false, false, false, false, false, false, false, false, false, false, false] (by kernel_rfl) (by kernel_rfl) (by kernel_rfl) (by kernel_rfl) (by kernel_rfl) (below_drewN (Below.refl _ _) 1) ?hq1 ?ht1
       case hq1 =>
        rintro σ hσ of hof hcl
        have HOF := lh hof
        have HCL := lh hcl
        clear hof hcl
        have hfw := hfT
        simp only [pickB]
        repeat (gi_big_quiet_step (fail))
        refine wpQuietIn_nil ?_
        exact rfl
       case ht1 =>
        intro W hb
        have HS7 := lh (show _ ∧ _ from ⟨HS6.out.1.below hb, HS6.out.2.below hb (Nat.le_refl _)⟩)
        clear hb
        simp only [pickB]
        refine wpE_nil ?_
        gi_wp2
        refine ⟨⟨j + 1, rfl, rfl, by rw [e1], by omega, lh ⟨HS7.out.1, HS7.out.2, fun y hy n' cy i' d' g1 g2 g3 => ?_⟩⟩, by simp [intOf]; omega⟩
        rw [List.take_add_one, HX.out] at hy
        rcases List.mem_append.1 hy with hy | hy
        ·exact HNO.out y hy n' cy i' d' g1 g2 g3
        ·obtain rfl : y = x := by simpa using hy
         rw [HLD.out] at g1
         cases g1
      ·rintro e w5 ⟨he, hb5⟩
       obtain rfl : e = .returned (.tuple #[.int .i64 v', .agg #[.int .i64 cx.a, .int .i64 cx.b, .int .i64 cx.c, .int .i64 cx.d], .bool true]) := he
       have HLD := lh hld
       have HS5 := lh (show _ ∧ _ from ⟨HS4.out.1.below hb5, HS4.out.2.below hb5 (Nat.le_refl _)⟩)
       have HLB5 := lh (HLB4.out.below hb5 HLB4.out.lt)
       clear hld hb5
       obtain ⟨i2, hpi, hi2, hi2l⟩ := placeI_at (leads_ends HXM.out HFI.out HLD.out).2
       have HPI2 := lh hpi
       have HI2 := lh hi2
       have hi2n : i2 < n := by have := HLn.out; omega
       obtain ⟨r, hr⟩ : ∃ r, E[i2]? = some r := ⟨_, List.getElem?_eq_getElem (by rw [HC.out.1]; exact hi2l)⟩
       have HR2 := lh hr
       have HCX := lh (leads_cost HXM.out HFI.out HFA.out HLD.out)
       have HSM : Hid (Small cx ∧ Small (entC r)) := lh ⟨by
        have h1 := HCX.out
        exact ⟨by omega, by omega, by omega, by omega⟩, Small.ent fun d hd => HL.out i2 d (by rw [HR2.out, hd])⟩
       have HUQ : Hid (∀ (i' : Nat), t.places[i']? = some v' → i' = i2) := lh (fun i' h => by
        have hl := (List.getElem?_eq_some_iff.1 h).1
        exact (List.getElem?_inj hl HND.out).1 (h.trans HI2.out.symm))
       have HPIA : Hid (placeI t.places at_ = ia ∧ ia < n) := lh (by
        obtain ⟨i', h1, h2, h3⟩ := placeI_at (List.mem_of_getElem? HREL.out.1)
        have h4 : i' = ia := (List.getElem?_inj h3 HND.out).1 (h2.trans HREL.out.1.symm)
        rw [← h4]
        exact ⟨h1, by have := HLn.out; omega⟩)
       have hian : ia < n := HPIA.out.2
       have hi2I : (0 : Int) ≤ (i2 : Int) ∧ (i2 : Int) < (n : Int) := by omega
       have hiaI : (0 : Int) ≤ (ia : Int) ∧ (ia : Int) < (n : Int) := by omega
       clear hpi hi2 hi2l hr
       gi_wp2
       have HS6 := lh (show _ ∧ _ from ⟨HS5.out.1.below ((Below.refl _ _).alloc (Nat.le_refl _) (.cells #[.int .i64 cx.a, .int .i64 cx.b, .int .i64 cx.c, .int .i64 cx.d] 118)), HS5.out.2.alloc (.cells #[.int .i64 cx.a, .int .i64 cx.b, .int .i64 cx.c, .int .i64 cx.d] 118)⟩)
       have HLB6 := lh (HLB5.out.alloc (.cells #[.int .i64 cx.a, .int .i64 cx.b, .int .i64 cx.c, .int .i64 cx.d] 118))
       have HCB6 : Hid (Blk (w5.alloc (.cells #[.int .i64 cx.a, .int .i64 cx.b, .int .i64 cx.c, .int .i64 cx.d] 118)) w5.heap.size 118 #[.int .i64 cx.a, .int .i64 cx.b, .int .i64 cx.c, .int .i64 cx.d]) := lh (Blk.new _ _ _)
       generalize (w5.alloc (.cells #[.int .i64 cx.a, .int .i64 cx.b, .int .i64 cx.c, .int .i64 cx.d] 118)) = w6 at *
       have hcb6 : w5.heap.size < w6.heap.size := HCB6.out.lt
       have hbe6 : be < w6.heap.size := by have := HS6.out.1.fb.lt; omega
       have htl6 : w.heap.size < w6.heap.size := HS6.out.1.tb.lt
       obtain ⟨s, hs⟩ : ∃ s, addC cx (entC r) = s := ⟨_, rfl⟩
       have HSS := lh hs
       clear hs
       by_cases hsc : s = cc
       ·have HSC : Hid (decide (s = cc) = true) := lh (decide_eq_true hsc)
        clear hsc
        refine wpIn_region_old (AF := ?AF2) [0, 1, 2, 3, 4, 5, 6, 7, 8, 9, 10, 11, 12, 13, 14, 15, 16, 17] [] [true, true, true, true, true, true, true, true, true, true, true, true, true, true, true, true, true, true] [false, false, false, false, false, false, false, false, false, false, false, false, false, false, false, false, false, false] (by kernel_rfl) (by kernel_rfl) (by kernel_rfl) (by kernel_rfl) (by kernel_rfl) (below_drewN (Below.refl _ _) 1) ?hq2 ?ht2
        case hq2 =>
         rintro σ hσ of hof hcl
         have HOF := lh hof
         have HCL := lh hcl
         clear hof hcl
         have q0 : ∀ z, (of z).cell? ⟨w5.heap.size, 0, none⟩ = some (.int .i64 cx.a) := fun z => (HCB6.out.below (HOF.out z) hcb6).cell 0
         have q1 : ∀ z, (of z).cell? ⟨w5.heap.size, 1, none⟩ = some (.int .i64 cx.b) := fun z => (HCB6.out.below (HOF.out z) hcb6).cell 1
         have q2 : ∀ z, (of z).cell? ⟨w5.heap.size, 2, none⟩ = some (.int .i64 cx.c) := fun z => (HCB6.out.below (HOF.out z) hcb6).cell 2
         have q3 : ∀ z, (of z).cell? ⟨w5.heap.size, 3, none⟩ = some (.int .i64 cx.d) := fun z => (HCB6.out.below (HOF.out z) hcb6).cell 3
         have t0 : ∀ z, (of z).cell? ⟨w.heap.size, 0, none⟩ = some (.slice A n c) := fun z => (HS6.out.1.tb.below (HOF.out z) htl6).cell 0
         have t1 : ∀ z, (of z).cell? ⟨w.heap.size, 1, none⟩ = some (.slice (some ⟨b, off, none⟩) m d) := fun z => (HS6.out.1.tb.below (HOF.out z) htl6).cell 1
         have v0 : ∀ z, (of z).cell? ⟨be, oe + i2 * 4, none⟩ = some (.int .i64 (entC r).a) := fun z => ((HS6.out.1.below (HOF.out z)).entry HR2.out).1
         have v1 : ∀ z, (of z).cell? ⟨be, oe + i2 * 4 + 1, none⟩ = some (.int .i64 (entC r).b) := fun z => ((HS6.out.1.below (HOF.out z)).entry HR2.out).2.1
         have v2 : ∀ z, (of z).cell? ⟨be, oe + i2 * 4 + 2, none⟩ = some (.int .i64 (entC r).c) := fun z => ((HS6.out.1.below (HOF.out z)).entry HR2.out).2.2.1
         have v3 : ∀ z, (of z).cell? ⟨be, oe + i2 * 4 + 3, none⟩ = some (.int .i64 (entC r).d) := fun z => ((HS6.out.1.below (HOF.out z)).entry HR2.out).2.2.2
         have u0 : ∀ z, (of z).cell? ⟨be, oe + ia * 4, none⟩ = some (.int .i64 cc.a) := fun z => ((HS6.out.1.below (HOF.out z)).entry HREL.out.2.1).1
         have u1 : ∀ z, (of z).cell? ⟨be, oe + ia * 4 + 1, none⟩ = some (.int .i64 cc.b) := fun z => ((HS6.out.1.below (HOF.out z)).entry HREL.out.2.1).2.1
         have u2 : ∀ z, (of z).cell? ⟨be, oe + ia * 4 + 2, none⟩ = some (.int .i64 cc.c) := fun z => ((HS6.out.1.below (HOF.out z)).entry HREL.out.2.1).2.2.1
         have u3 : ∀ z, (of z).cell? ⟨be, oe + ia * 4 + 3, none⟩ = some (.int .i64 cc.d) := fun z => ((HS6.out.1.below (HOF.out z)).entry HREL.out.2.1).2.2.2
         have hfw := hfT
         simp only [pickB]
         iterate 7 (gi_big_quiet_step (exact place_cls A n c (some ⟨b, off, none⟩) m d t v' i2 HPI2.out (by unfold maxLen; omega) w.heap.size HS6.out.1.bel.size (HA.out.below HS6.out.1.bel) HOF.out HCL.out _))
         iterate 3 (gi_big_quiet_step (exact rplus_cls' cx (entC r) s HSS.out HSM.out.1 HSM.out.2 HOF.out HCL.out _))
         iterate 6 (gi_big_quiet_step (exact place_cls A n c (some ⟨b, off, none⟩) m d t at_ ia HPIA.out.1 (by unfold maxLen; omega) w.heap.size HS6.out.1.bel.size (HA.out.below HS6.out.1.bel) HOF.out HCL.out _))
         have hql : ∀ W : World, (binOp .eql 118 (.agg #[.int .i64 s.a, .int .i64 s.b, .int .i64 s.c, .int .i64 s.d]) (.agg #[.int .i64 cc.a, .int .i64 cc.b, .int .i64 cc.c, .int .i64 cc.d])).run Tryz.prog W = .ok (.bool true) W := fun W => (eql_cost s cc W).trans (by rw [HSC.out])
         gi_big_quiet_step (fail)
         gi_big_quiet_step (fail)
         refine wpQuietIn_nil ?_
         exact rfl
        case ht2 =>
         intro W hb
         have HS7 := lh (show _ ∧ _ from ⟨HS6.out.1.below hb, HS6.out.2.below hb (Nat.le_refl _)⟩)
         have HLB7 := lh (HLB6.out.below hb HLB6.out.lt)
         clear hb
         simp only [pickB]
         refine wpE_nil ?_
         obtain ⟨d1, hd1⟩ : ∃ d1, r = some d1 := by
          cases hr1 : r with
          | some d1 => exact ⟨d1, rfl⟩
          | none =>
           exfalso
           have h1 := HCX.out
           have h2 : s.a = cx.a + 1000000000 := by rw [← HSS.out, hr1]; rfl
           have h3 := of_decide_eq_true HSC.out
           have h4 := (HL.out ia cc HREL.out.2.1).a
           rw [h3] at h2
           omega
         have HD1 : Hid (E[i2]? = some (some d1)) := lh (by rw [HR2.out, hd1])
         have HADD : Hid (addC cx d1 = cc) := lh (by
          have h3 := of_decide_eq_true HSC.out
          rw [← h3, ← HSS.out, hd1]
          rfl)
         have HAL : Hid (acc.length ≤ 2000) := lh (by
          have h1 := HREL.out.2.2.1.bound HFI.out HFA.out
          have h2 := (HL.out i0 k0 HR.out).d
          have h3 := (HL.out ia cc HREL.out.2.1).d
          have h4 : ca.d + cc.d = k0.d := by rw [← HREL.out.2.2.2.1]; rfl
          omega)
         have hal := HAL.out
         have l0 := HLB7.out.cell 0
         have HOW := lh (HS7.out.2.alloc (.cells #[.int .i64 x.id] 3))
         have HOB : Hid (Blk (W.alloc (.cells #[.int .i64 x.id] 3)) W.heap.size 3 #[.int .i64 x.id]) := lh (Blk.new _ _ _)
         have HSW := lh (HS7.out.1.below ((Below.refl _ _).alloc (Nat.le_refl _) (.cells #[.int .i64 x.id] 3)))
         gi_wp2_with (first | (gi_at_builtin; refine wpListIn_append_any rfl (.tmp 73) (.tmp 76) (by rfl) elem_int rfl HOW.out rfl (one_int (x := x.id) HOB.out.lt (HOB.out.cell 0)) (ints_one _) (by unfold maxLen; omega) (by omega) HSW.out.fb.lt ?_) | fail)
         rintro A8 c8 W8 hown hgr hA8
         have hbV : Below (w2.heap.size + 1) (W.alloc (.cells #[.int .i64 x.id] 3)) W8 := below_of_grown hgr (fun k hk => own_row HOW.out hk) HSW.out.fb.lt
         have HS8 := lh (HSW.out.low hbV)
         have HOW8 := lh hown
         clear hown hgr hA8 hbV l0
         gi_wp2
         gi_roundg (d1.c.toNat)
         case rel =>
          refine ⟨v', i2, addC ca cx, d1, acc ++ [x.id], A8, c8, rfl, by simp, rfl, lh ⟨HS8.out, HI2.out, HD1.out, HREL.out.2.2.1.snoc HXM.out HLD.out, by rw [addC_assoc, HADD.out]; exact HREL.out.2.2.2.1, fun c' r' hf => ?_, ?_⟩⟩
          ·have h1 := (greedy HC.out HFI.out HFA.out HREL.out.1 HREL.out.2.1 HNE.out).2 j x v' cx i2 d1 HX.out HLD.out HI2.out HD1.out HADD.out HNO.out c' r' hf
           have h2 := HREL.out.2.2.2.2.1 _ _ h1
           rw [addC_assoc, List.append_assoc]
           exact h2
          ·have h := HOW8.out
           simpa using h
         case measure =>
          have h1 := HCX.out
          have h2 := (HL.out i2 d1 HD1.out).c
          have h3 : cx.c + d1.c = cc.c := by rw [← HADD.out]; rfl
          rw [hg]
          omega
       ·have HSC : Hid (decide (s = cc) = false) := lh (decide_eq_false hsc)
        clear hsc
        refine wpIn_region_old (AF := ?AF3) [0, 1, 2, 3, 4, 5, 6, 7, 8, 9, 10, 11, 12, 13, 14, 15, 16, 17] [] [true, true, true, true, true, true, true, true, true, true, true, true, true, true, true, true, true, true] [false, false, false, false, false, false, false, false, false, false, false, false, false, false, false, false, false, false] (by kernel_rfl) (by kernel_rfl) (by kernel_rfl) (by kernel_rfl) (by kernel_rfl) (below_drewN (Below.refl _ _) 1) ?hq3 ?ht3
        case hq3 =>
         rintro σ hσ of hof hcl
         have HOF := lh hof
         have HCL := lh hcl
         clear hof hcl
         have q0 : ∀ z, (of z).cell? ⟨w5.heap.size, 0, none⟩ = some (.int .i64 cx.a) := fun z => (HCB6.out.below (HOF.out z) hcb6).cell 0
         have q1 : ∀ z, (of z).cell? ⟨w5.heap.size, 1, none⟩ = some (.int .i64 cx.b) := fun z => (HCB6.out.below (HOF.out z) hcb6).cell 1
         have q2 : ∀ z, (of z).cell? ⟨w5.heap.size, 2, none⟩ = some (.int .i64 cx.c) := fun z => (HCB6.out.below (HOF.out z) hcb6).cell 2
         have q3 : ∀ z, (of z).cell? ⟨w5.heap.size, 3, none⟩ = some (.int .i64 cx.d) := fun z => (HCB6.out.below (HOF.out z) hcb6).cell 3
         have t0 : ∀ z, (of z).cell? ⟨w.heap.size, 0, none⟩ = some (.slice A n c) := fun z => (HS6.out.1.tb.below (HOF.out z) htl6).cell 0
         have t1 : ∀ z, (of z).cell? ⟨w.heap.size, 1, none⟩ = some (.slice (some ⟨b, off, none⟩) m d) := fun z => (HS6.out.1.tb.below (HOF.out z) htl6).cell 1
         have v0 : ∀ z, (of z).cell? ⟨be, oe + i2 * 4, none⟩ = some (.int .i64 (entC r).a) := fun z => ((HS6.out.1.below (HOF.out z)).entry HR2.out).1
         have v1 : ∀ z, (of z).cell? ⟨be, oe + i2 * 4 + 1, none⟩ = some (.int .i64 (entC r).b) := fun z => ((HS6.out.1.below (HOF.out z)).entry HR2.out).2.1
         have v2 : ∀ z, (of z).cell? ⟨be, oe + i2 * 4 + 2, none⟩ = some (.int .i64 (entC r).c) := fun z => ((HS6.out.1.below (HOF.out z)).entry HR2.out).2.2.1
         have v3 : ∀ z, (of z).cell? ⟨be, oe + i2 * 4 + 3, none⟩ = some (.int .i64 (entC r).d) := fun z => ((HS6.out.1.below (HOF.out z)).entry HR2.out).2.2.2
         have u0 : ∀ z, (of z).cell? ⟨be, oe + ia * 4, none⟩ = some (.int .i64 cc.a) := fun z => ((HS6.out.1.below (HOF.out z)).entry HREL.out.2.1).1
         have u1 : ∀ z, (of z).cell? ⟨be, oe + ia * 4 + 1, none⟩ = some (.int .i64 cc.b) := fun z => ((HS6.out.1.below (HOF.out z)).entry HREL.out.2.1).2.1
         have u2 : ∀ z, (of z).cell? ⟨be, oe + ia * 4 + 2, none⟩ = some (.int .i64 cc.c) := fun z => ((HS6.out.1.below (HOF.out z)).entry HREL.out.2.1).2.2.1
         have u3 : ∀ z, (of z).cell? ⟨be, oe + ia * 4 + 3, none⟩ = some (.int .i64 cc.d) := fun z => ((HS6.out.1.below (HOF.out z)).entry HREL.out.2.1).2.2.2
         have hfw := hfT
         simp only [pickB]
         iterate 7 (gi_big_quiet_step (exact place_cls A n c (some ⟨b, off, none⟩) m d t v' i2 HPI2.out (by unfold maxLen; omega) w.heap.size HS6.out.1.bel.size (HA.out.below HS6.out.1.bel) HOF.out HCL.out _))
         iterate 3 (gi_big_quiet_step (exact rplus_cls' cx (entC r) s HSS.out HSM.out.1 HSM.out.2 HOF.out HCL.out _))
         iterate 6 (gi_big_quiet_step (exact place_cls A n c (some ⟨b, off, none⟩) m d t at_ ia HPIA.out.1 (by unfold maxLen; omega) w.heap.size HS6.out.1.bel.size (HA.out.below HS6.out.1.bel) HOF.out HCL.out _))
         have hql : ∀ W : World, (binOp .eql 118 (.agg #[.int .i64 s.a, .int .i64 s.b, .int .i64 s.c, .int .i64 s.d]) (.agg #[.int .i64 cc.a, .int .i64 cc.b, .int .i64 cc.c, .int .i64 cc.d])).run Tryz.prog W = .ok (.bool false) W := fun W => (eql_cost s cc W).trans (by rw [HSC.out])
         gi_big_quiet_step (fail)
         gi_big_quiet_step (fail)
         refine wpQuietIn_nil ?_
         exact rfl
        case ht3 =>
         intro W hb
         have HS7 := lh (show _ ∧ _ from ⟨HS6.out.1.below hb, HS6.out.2.below hb (Nat.le_refl _)⟩)
         clear hb
         simp only [pickB]
         refine wpE_nil ?_
         gi_wp2
         refine ⟨⟨j + 1, rfl, rfl, by rw [e1], by omega, lh ⟨HS7.out.1, HS7.out.2, fun y hy n' cy i' d' g1 g2 g3 => ?_⟩⟩, by simp [intOf]; omega⟩
         rw [List.take_add_one, HX.out] at hy
         rcases List.mem_append.1 hy with hy | hy
         ·exact HNO.out y hy n' cy i' d' g1 g2 g3
         ·obtain rfl : y = x := by simpa using hy
          rw [HLD.out] at g1
          cases g1
          obtain rfl := HUQ.out i' g2
          rw [HR2.out] at g3
          cases g3
          have h1 := of_decide_eq_false HSC.out
          intro h2
          exact h1 (HSS.out.symm.trans h2)
     ·obtain rfl : j = m := by omega
      exfalso
      obtain ⟨x, hx, n', cx, i2, d', h1, h2, h3, h4⟩ := (greedy HC.out HFI.out HFA.out HREL.out.1 HREL.out.2.1 HNE.out).1
      exact HU.out.2.2 x (by rw [List.take_of_length_le (by rw [HLm.out]; exact Nat.le_refl _)]; exact hx) n' cx i2 d' h1 h2 h3 h4
theorem rfirst_any (A : Option Addr) (n c : Nat) (A' : Option Addr) (m d : Nat) (p : Price) (t : Town) (dk : Bool) (v to : Int) (w : World)
  (hm : m ≤ 20) (ha : IntsAt w w.heap.size A n t.places) (ht : LinksAt w w.heap.size A' m t.links) (hp : Cheap p) (hfine : Fine t) (hfair : Fair p) (hnd : t.places.Nodup) (hv : v ∈ t.places) :
  Calls Tryz.prog 70 #[.agg #[.slice A n c, .slice A' m d], .int .i64 v, .int .i64 to, .bool dk, .agg #[.int .i64 p.pace, .int .i64 p.up, .int .i64 p.step]] w (RFirstOut w (best t dk p v to)) :=
 callsIn_wide.1 (rfirst_in A n c A' m d p t dk v to w hm ha ht hp hfine hfair hnd hv)
end
section
open Go.RowKit Go.Shelf
set_option maxRecDepth 100000 in
set_option maxHeartbeats 16000000 in
theorem rhas_in (A : Option Addr) (n c : Nat) (A' : Option Addr) (m d : Nat) (t : Town) (u v : Int) (dk : Bool) (w : World)
  (hm : m ≤ 20) (ht : TownAt w w.heap.size A n A' m t) (hg : GoodT t) (hu : u ∈ t.places) :
  CallsIn Fence.wide 9 Tryz.prog 27 #[.agg #[.slice A n c, .slice A' m d], .int .i64 u, .int .i64 v, .bool dk] w (fun x w' => x = .returned (.bool (best t dk freeP u v).isSome) ∧ Below w.heap.size w w') := by
 have HT := lh ht
 have HG := lh hg
 clear ht hg
 refine callsIn_of_wp Tryz.func27 rfl trivial ?_ rfl
 simp only [Tryz.ntmps27, List.size_toArray, List.length_cons, List.length_nil, Nat.reduceAdd, Nat.reduceSub, Array.replicate_succ, Array.replicate_zero, List.push_toArray, List.append_toArray, List.nil_append, List.cons_append]
 gi_wp2
 have Ly := lh (Lay.one w 25 #[.slice A n c, .slice A' m d])
 generalize (w.alloc (.cells #[.slice A n c, .slice A' m d] 25)) = w0 at *
 refine ⟨trivial, (callsIn_wide.2 (rfirst_any A n c A' m d freeP t dk u v w0 hm ((HT.out.places.below Ly.out.1).more Ly.out.1.size) ((HT.out.links.below Ly.out.1).more Ly.out.1.size) freeP_cheap HG.out.fine freeP_fair HG.out.nodup hu)).mono ?_⟩
 rintro e W1 ⟨AO, nO, cO, co, rfl, hno, hq, hfr, hb⟩
 replace Ly := lyb Ly hb
 clear hb
 clear hno hq hfr
 gi_wp2
 exact bodyPost_ret (v := .bool (best t dk freeP u v).isSome) (by simp [results, Tryz.results27, go_sem]) rfl ⟨rfl, Ly.out.1.alloc Ly.out.1.size _⟩
theorem rhas_any (A : Option Addr) (n c : Nat) (A' : Option Addr) (m d : Nat) (t : Town) (u v : Int) (dk : Bool) (w : World)
  (hm : m ≤ 20) (ht : TownAt w w.heap.size A n A' m t) (hg : GoodT t) (hu : u ∈ t.places) :
  Calls Tryz.prog 27 #[.agg #[.slice A n c, .slice A' m d], .int .i64 u, .int .i64 v, .bool dk] w (fun x w' => x = .returned (.bool (best t dk freeP u v).isSome) ∧ Below w.heap.size w w') :=
 callsIn_wide.1 (rhas_in A n c A' m d t u v dk w hm ht hg hu)
end
section
open Go.RowKit Go.Shelf
set_option maxRecDepth 100000 in
set_option maxHeartbeats 16000000 in
theorem zwet_walk_in (A : Option Addr) (n c : Nat) (A' : Option Addr) (m d : Nat) (t : Town) (s : Skin) (fr : Nat) (to_ : Nat) (dk : Bool) (by_A : Option Addr) (by_n by_c : Nat) (by_ : List Nat) (w : World) (hn : n ≤ maxLen) (hm : m ≤ maxLen) (hfr : fr ≤ 255) (hto_ : to_ ≤ 255) (hby_ : by_n ≤ maxLen) (ht : TownAt w w.heap.size A n A' m t) (rby_ : BytesAt w w.heap.size by_A by_n by_) (hL : Laid w) :
  CallsIn Fence.wide 9 Tryz.prog 7 #[.agg #[.slice A n c, .slice A' m d], .agg #[.int .i64 s.drops, .int .i64 s.pace.lo, .int .i64 s.pace.hi, .int .i64 s.step.lo, .int .i64 s.step.hi], .int .u8 fr, .int .u8 to_, .bool dk, .slice by_A by_n by_c] w fun e w' => e = .returned (.bool true) ∧ Below w.heap.size w w' := by
 have HR := lh rby_
 clear rby_
 unfold maxLen at hby_
 have HT := lh ht
 have HL := lh hL
 have hl0 := hL.2.2.2
 have HLn := lh ht.places.len
 have HLm := lh ht.links.len
 clear ht hL
 unfold maxLen at hn hm
 refine callsIn_of_wp Tryz.func7 rfl trivial ?_ rfl
 simp only [Tryz.ntmps7, List.size_toArray, List.length_cons, List.length_nil, Nat.reduceAdd, Nat.reduceSub, Array.replicate_succ, Array.replicate_zero, List.push_toArray, List.append_toArray, List.nil_append, List.cons_append]
 gi_wp2
 have Ly := lh (Lay.two w 25 #[.slice A n c, .slice A' m d] 65 #[.int .i64 s.drops, .int .i64 s.pace.lo, .int .i64 s.pace.hi, .int .i64 s.step.lo, .int .i64 s.step.hi])
 generalize ((w.alloc (.cells #[.slice A n c, .slice A' m d] 25)).alloc (.cells #[.int .i64 s.drops, .int .i64 s.pace.lo, .int .i64 s.pace.hi, .int .i64 s.step.lo, .int .i64 s.step.hi] 65)) = w0 at *
 refine ⟨trivial, (callsIn_wide.2 (alive_any w0 (HL.out.below Ly.out.bel hl0))).mono ?_⟩
 rintro e W1 ⟨rfl, hb⟩
 replace Ly := lyb Ly hb
 clear hb
 have x0_0 := lyc Ly 0 rfl 0
 have x0_1 := lyc Ly 0 rfl 1
 have l0_ := Ly.out.lt 0 rfl
 gi_wp2
 clear x0_0 x0_1 l0_
 refine ⟨trivial, (callsIn_wide.2 (ready_any A n c A' m d t W1 ((HT.out.below Ly.out.bel).more Ly.out.bel.size))).mono ?_⟩
 rintro e W2 ⟨rfl, hb⟩
 replace Ly := lyb Ly hb
 clear hb
 cases hrd : readyB n m t with
 | false =>
  clear hrd
  gi_wp2
  refine ⟨trivial, ?_⟩
  gi_wp2
  exact bodyPost_ret (v := .bool true) (by simp [results, Tryz.results7, go_sem]) rfl ⟨rfl, Ly.out.bel⟩
 | true =>
 have htb : townB t = true := by unfold readyB at hrd; simp at hrd; exact hrd.2
 have HTB := lh htb
 have HG := lh (goodT htb)
 have hm20 : m ≤ 20 := by have := HG.out.links; have := HLm.out; omega
 have hn9 : n ≤ 9 := by have := HG.out.fine.size; have := HLn.out; omega
 have hn1 : 1 ≤ n := by have := townB_one htb; have := HLn.out; omega
 have HP1 : Hid (1 ≤ t.places.length) := lh (townB_one htb)
 clear hrd htb
 have x1_0 := lyc Ly 1 rfl 0
 have x1_1 := lyc Ly 1 rfl 1
 have x1_2 := lyc Ly 1 rfl 2
 have x1_3 := lyc Ly 1 rfl 3
 have x1_4 := lyc Ly 1 rfl 4
 have l1_ := Ly.out.lt 1 rfl
 gi_wp2
 clear x1_0 x1_1 x1_2 x1_3 x1_4 l1_
 refine ⟨trivial, (callsIn_wide.2 (rskin_any s W2)).mono ?_⟩
 rintro e W3 ⟨rfl, hb⟩
 replace Ly := lyb Ly hb
 clear hb
 cases hgt : skinB s with
 | false =>
  clear hgt
  gi_wp2
  exact bodyPost_ret (v := .bool true) (by simp [results, Tryz.results7, go_sem]) rfl ⟨rfl, Ly.out.bel⟩
 | true =>
 have HGT := lh hgt
 have HGG := lh (goodS hgt)
 clear hgt
 gi_wp2
 refine wpIn_flow_old [([true, true, false, true, true], 2), ([], 5)] [false, false, false, false, false, false, true, true] [] (by kernel_rfl) (by kernel_rfl) (by kernel_rfl) (below_drewN (Below.refl _ _) 1) ?_
 refine wpFlow_cons (A := ?AF1) rfl ?hq1 ?_
 case hq1 =>
  rintro σ hσ of hof hcl
  have HOF := lh hof
  have HCL := lh hcl
  clear hof hcl
  have c0_ : ∀ z, (of z).cell? ⟨w.heap.size, 0, none⟩ = some (.slice A n c) := lyz Ly HOF 0 rfl 0
  have c1_ : ∀ z, (of z).cell? ⟨w.heap.size, 1, none⟩ = some (.slice A' m d) := lyz Ly HOF 0 rfl 1
  have hfw := hfT
  simp only [pickB]
  repeat (gi_big_quiet_step (fail))
  refine wpQuietIn_nil ?_
  exact rfl
 intro W4 hW
 replace Ly := lyb Ly hW
 clear hW
 have hlw := (Ly.out.blk 0 rfl).lt
 gi_wp2
 refine ⟨trivial, (callsIn_wide.2 (lplace_any A n c A' m d t fr W4 hn1 (by omega) hfr ((HT.out.places.below Ly.out.bel).more Ly.out.bel.size))).mono ?_⟩
 rintro e W5 ⟨rfl, hb⟩
 replace Ly := lyb Ly hb
 obtain ⟨u, hu⟩ : ∃ u, plN t fr = u := ⟨_, rfl⟩
 rw [hu]
 have Hu := lh (show u ∈ t.places from hu ▸ plN_mem HP1.out fr)
 clear hu
 gi_wp2
 refine ⟨trivial, hb, ?_⟩
 clear hb
 clear hlw
 refine wpFlow_cons rfl Quietly.none ?_
 intro W6 hW
 replace Ly := lyb Ly hW
 clear hW
 have hlw := (Ly.out.blk 0 rfl).lt
 gi_wp2
 refine ⟨trivial, (callsIn_wide.2 (lplace_any A n c A' m d t to_ W6 hn1 (by omega) hto_ ((HT.out.places.below Ly.out.bel).more Ly.out.bel.size))).mono ?_⟩
 rintro e W7 ⟨rfl, hb⟩
 replace Ly := lyb Ly hb
 obtain ⟨v, hv⟩ : ∃ v, plN t to_ = v := ⟨_, rfl⟩
 rw [hv]
 have Hv := lh (show v ∈ t.places from hv ▸ plN_mem HP1.out to_)
 clear hv
 gi_wp2
 refine ⟨trivial, hb, ?_⟩
 clear hb
 clear hlw
 refine wpFlow_nil (A := ?AF2) ?hq2 ?_
 case hq2 =>
  rintro σ hσ of hof hcl
  have HOF := lh hof
  have HCL := lh hcl
  clear hof hcl
  have c0_ : ∀ z, (of z).cell? ⟨w.heap.size, 0, none⟩ = some (.slice A n c) := lyz Ly HOF 0 rfl 0
  have c1_ : ∀ z, (of z).cell? ⟨w.heap.size, 1, none⟩ = some (.slice A' m d) := lyz Ly HOF 0 rfl 1
  have hfw := hfT
  simp only [pickB]
  repeat (gi_big_quiet_step (fail))
  refine wpQuietIn_nil ?_
  exact rfl
 intro W8 hW
 replace Ly := lyb Ly hW
 clear hW
 simp only [pickB]
 refine wpT_nil ?_
 have HA2 := lh (askE_two HTB.out Hu.out Hv.out)
 have HA1 := lh (askE_one HTB.out Hu.out)
 have HTP := lh (lossP_fair (a := s.pace.hi) (b := s.step.hi) ⟨by have := HGG.out.pace; omega, by have := HGG.out.pace; omega⟩ ⟨by have := HGG.out.step; omega, by have := HGG.out.step; omega⟩)
 cases hbo : best t dk (lossP s.pace.hi s.step.hi) u v with
 | none =>
  have HBO := lh hbo
  clear hbo
  have HQ := lh (wet_none HA2.out HGT.out HBO.out)
  have HBF := lh (show best t dk freeP u v = none from by have h := best_same_some (t := t) (dk := dk) (u := u) (v := v) HG.out.fine HTP.out freeP_fair; rw [HBO.out] at h; cases hx : best t dk freeP u v with
   | none => rfl
   | some r => rw [hx] at h; cases h)
  have x0_0 := lyc Ly 0 rfl 0
  have x0_1 := lyc Ly 0 rfl 1
  have l0_ := Ly.out.lt 0 rfl
  have x1_0 := lyc Ly 1 rfl 0
  have x1_1 := lyc Ly 1 rfl 1
  have x1_2 := lyc Ly 1 rfl 2
  have x1_3 := lyc Ly 1 rfl 3
  have x1_4 := lyc Ly 1 rfl 4
  have l1_ := Ly.out.lt 1 rfl
  gi_wp2
  clear x0_0 x0_1 l0_ x1_0 x1_1 x1_2 x1_3 x1_4 l1_
  refine ⟨trivial, (callsIn_wide.2 (wet_any A n c A' m d t s u v dk W8 (by omega) (by omega) ((HT.out.below Ly.out.bel).more Ly.out.bel.size) (HL.out.below Ly.out.bel hl0))).mono ?_⟩
  rintro e W9 ⟨AQ, nAQ, cAQ, rfl, hi, hb⟩
  replace Ly := lyb Ly hb
  clear hb
  rw [HQ.out] at hi ⊢
  have HAQ := lh hi
  clear hi
  obtain rfl : nAQ = 0 := HAQ.out.len.symm
  have x0_0 := lyc Ly 0 rfl 0
  have x0_1 := lyc Ly 0 rfl 1
  have l0_ := Ly.out.lt 0 rfl
  gi_wp2
  clear x0_0 x0_1 l0_
  refine ⟨trivial, (callsIn_wide.2 (stroll_any A n c A' m d t u v dk by_A by_n by_c by_ W9 hm20 (by unfold maxLen; omega) ((HT.out.links.below Ly.out.bel).more Ly.out.bel.size) HG.out.fine ((HR.out.below Ly.out.bel).more Ly.out.bel.size))).mono ?_⟩
  rintro e W10 ⟨⟨ga, gp, gu, gs, gl⟩, lm, AM, cAM, rfl, hst, hi, hb, hcapAM⟩
  replace Ly := lyb Ly hb
  replace HAQ := lh ((HAQ.out.below hb).more hb.size)
  clear hb
  have HSTg := lh hst
  have HAM := lh hi
  clear hst hi
  have HGS := lh (gw_small HG.out.fine HSTg.out.1 HSTg.out.2.1)
  have HSG := lh (end_gw HG.out.fine HSTg.out.1 HSTg.out.2.1 HA1.out HGT.out)
  have hlm40 := HSTg.out.2.1
  gi_upto_region 7 with fail
  obtain ⟨V11, hV⟩ : ∃ V, (W10.alloc (.cells #[.int .i64 ga, .int .i64 gu, .int .i64 gp, .int .i64 gp, .int .i64 gu, .int .i64 gs, .int .i64 gl] 39)) = V := ⟨_, rfl⟩
  rw [hV]
  have hb := fbox_bel hV
  have hnew := fbox_blk hV
  have hge := Ly.out.bel.size
  replace Ly := lyb Ly hb
  replace HAQ := lh ((HAQ.out.below hb).more hb.size)
  replace HAM := lh ((HAM.out.below hb).more hb.size)
  replace Ly := lh (Ly.out.add hge hnew)
  clear hnew hge hb hV
  obtain ⟨G12, hG⟩ : ∃ g, W10.heap.size = g := ⟨_, rfl⟩
  rw [hG] at Ly ⊢
  clear hG
  have x0_0 := lyc Ly 0 rfl 0
  have x0_1 := lyc Ly 0 rfl 1
  have l0_ := Ly.out.lt 0 rfl
  have x1_0 := lyc Ly 1 rfl 0
  have x1_1 := lyc Ly 1 rfl 1
  have x1_2 := lyc Ly 1 rfl 2
  have x1_3 := lyc Ly 1 rfl 3
  have x1_4 := lyc Ly 1 rfl 4
  have l1_ := Ly.out.lt 1 rfl
  gi_wp2
  clear x0_0 x0_1 l0_ x1_0 x1_1 x1_2 x1_3 x1_4 l1_
  refine ⟨trivial, (callsIn_wide.2 (end_any A n c A' m d t s u AM lm.length cAM lm V11 (by omega) (by omega) (by omega) ((HT.out.below Ly.out.bel).more Ly.out.bel.size) HAM.out (HL.out.below Ly.out.bel hl0))).mono ?_⟩
  rintro e W13 ⟨rfl, hb⟩
  replace Ly := lyb Ly hb
  replace HAQ := lh ((HAQ.out.below hb).more hb.size)
  replace HAM := lh ((HAM.out.below hb).more hb.size)
  clear hb
  rw [HSG.out.1, HSG.out.2]
  gi_upto_region 8 with fail
  obtain ⟨V14, hV⟩ : ∃ V, (W13.alloc (.cells #[.int .i64 (max 0 (s.drops - gp * s.pace.hi - gs * s.step.hi)), .int .i64 (max 0 (s.drops - gp * s.pace.lo - gs * s.step.lo))] 63)) = V := ⟨_, rfl⟩
  rw [hV]
  have hb := fbox_bel hV
  have hnew := fbox_blk hV
  have hge := Ly.out.bel.size
  replace Ly := lyb Ly hb
  replace HAQ := lh ((HAQ.out.below hb).more hb.size)
  replace HAM := lh ((HAM.out.below hb).more hb.size)
  replace Ly := lh (Ly.out.add hge hnew)
  clear hnew hge hb hV
  obtain ⟨G15, hG⟩ : ∃ g, W13.heap.size = g := ⟨_, rfl⟩
  rw [hG] at Ly ⊢
  clear hG
  have PG0 := (mul_small HGS.out.1 (n := 50) ⟨by have := HGG.out.pace; omega, by have := HGG.out.pace; omega⟩ : 0 ≤ gp * s.pace.lo ∧ gp * s.pace.lo ≤ 80000 * 50)
  have PG1 := (mul_small HGS.out.2.2 (n := 50) ⟨by have := HGG.out.step; omega, by have := HGG.out.step; omega⟩ : 0 ≤ gs * s.step.lo ∧ gs * s.step.lo ≤ 20000 * 50)
  have PG2 := (mul_small HGS.out.1 (n := 50) ⟨by have := HGG.out.pace; omega, by have := HGG.out.pace; omega⟩ : 0 ≤ gp * s.pace.hi ∧ gp * s.pace.hi ≤ 80000 * 50)
  have PG3 := (mul_small HGS.out.2.2 (n := 50) ⟨by have := HGG.out.step; omega, by have := HGG.out.step; omega⟩ : 0 ≤ gs * s.step.hi ∧ gs * s.step.hi ≤ 20000 * 50)
  have hdr := HGG.out.drops
  have x0_0 := lyc Ly 0 rfl 0
  have x0_1 := lyc Ly 0 rfl 1
  have l0_ := Ly.out.lt 0 rfl
  have x1_0 := lyc Ly 1 rfl 0
  have x1_1 := lyc Ly 1 rfl 1
  have x1_2 := lyc Ly 1 rfl 2
  have x1_3 := lyc Ly 1 rfl 3
  have x1_4 := lyc Ly 1 rfl 4
  have l1_ := Ly.out.lt 1 rfl
  have x2_0 := lyc Ly 2 rfl 0
  have x2_1 := lyc Ly 2 rfl 1
  have x2_2 := lyc Ly 2 rfl 2
  have x2_3 := lyc Ly 2 rfl 3
  have x2_4 := lyc Ly 2 rfl 4
  have x2_5 := lyc Ly 2 rfl 5
  have x2_6 := lyc Ly 2 rfl 6
  have l2_ := Ly.out.lt 2 rfl
  have x3_0 := lyc Ly 3 rfl 0
  have x3_1 := lyc Ly 3 rfl 1
  have l3_ := Ly.out.lt 3 rfl
  gi_upto_region 10 with fail
  clear x0_0 x0_1 l0_ x1_0 x1_1 x1_2 x1_3 x1_4 l1_ x2_0 x2_1 x2_2 x2_3 x2_4 x2_5 x2_6 l2_ x3_0 x3_1 l3_
  clear PG0 PG1 PG2 PG3
  have x0_0 := lyc Ly 0 rfl 0
  have x0_1 := lyc Ly 0 rfl 1
  have l0_ := Ly.out.lt 0 rfl
  gi_wp2
  clear x0_0 x0_1 l0_
  refine ⟨trivial, (callsIn_wide.2 (rhas_any A n c A' m d t u v dk V14 hm20 ((HT.out.below Ly.out.bel).more Ly.out.bel.size) HG.out Hu.out)).mono ?_⟩
  rintro e W16 ⟨rfl, hb⟩
  replace Ly := lyb Ly hb
  replace HAQ := lh ((HAQ.out.below hb).more hb.size)
  replace HAM := lh ((HAM.out.below hb).more hb.size)
  clear hb
  rw [HBF.out]
  gi_wp2
  exact bodyPost_ret (v := .bool true) (by simp [results, Tryz.results7, go_sem]) rfl ⟨rfl, Ly.out.bel⟩
 | some rb =>
  obtain ⟨⟨ca, cb, cc, cd⟩, lw⟩ := rb
  have HBO := lh hbo
  clear hbo
  obtain ⟨⟨xa, xp, xu, xs, xl⟩, hfo, hgw, hgv, hgc⟩ := best_gone HG.out.fine HTP.out HBO.out
  obtain rfl : v = xa := hgv.symm
  have hlw9 := best_len HG.out.fine HTP.out HBO.out
  have hca : ca = xp * s.pace.hi + xs * s.step.hi := by rw [show ca = (Cost.mk ca cb cc cd).a from rfl, ← hgc, cost_loss]
  have HFO := lh hfo
  have HQ := lh (show wetF t s u v dk = (lw, max 0 (s.drops - (xp * s.pace.hi + xs * s.step.hi)), 0) from by rw [← hca]; exact wet_some HA2.out HGT.out HBO.out)
  have HXS := lh (gw_small HG.out.fine hgw (by omega))
  clear hfo hgw hgc hca
  have x0_0 := lyc Ly 0 rfl 0
  have x0_1 := lyc Ly 0 rfl 1
  have l0_ := Ly.out.lt 0 rfl
  have x1_0 := lyc Ly 1 rfl 0
  have x1_1 := lyc Ly 1 rfl 1
  have x1_2 := lyc Ly 1 rfl 2
  have x1_3 := lyc Ly 1 rfl 3
  have x1_4 := lyc Ly 1 rfl 4
  have l1_ := Ly.out.lt 1 rfl
  gi_wp2
  clear x0_0 x0_1 l0_ x1_0 x1_1 x1_2 x1_3 x1_4 l1_
  refine ⟨trivial, (callsIn_wide.2 (wet_any A n c A' m d t s u v dk W8 (by omega) (by omega) ((HT.out.below Ly.out.bel).more Ly.out.bel.size) (HL.out.below Ly.out.bel hl0))).mono ?_⟩
  rintro e W17 ⟨AQ, nAQ, cAQ, rfl, hi, hb⟩
  replace Ly := lyb Ly hb
  clear hb
  rw [HQ.out] at hi ⊢
  have HAQ := lh hi
  clear hi
  obtain rfl : nAQ = lw.length := HAQ.out.len.symm
  have x0_0 := lyc Ly 0 rfl 0
  have x0_1 := lyc Ly 0 rfl 1
  have l0_ := Ly.out.lt 0 rfl
  gi_wp2
  clear x0_0 x0_1 l0_
  refine ⟨trivial, (callsIn_wide.2 (stroll_any A n c A' m d t u v dk by_A by_n by_c by_ W17 hm20 (by unfold maxLen; omega) ((HT.out.links.below Ly.out.bel).more Ly.out.bel.size) HG.out.fine ((HR.out.below Ly.out.bel).more Ly.out.bel.size))).mono ?_⟩
  rintro e W18 ⟨⟨ga, gp, gu, gs, gl⟩, lm, AM, cAM, rfl, hst, hi, hb, hcapAM⟩
  replace Ly := lyb Ly hb
  replace HAQ := lh ((HAQ.out.below hb).more hb.size)
  clear hb
  have HSTg := lh hst
  have HAM := lh hi
  clear hst hi
  have HGS := lh (gw_small HG.out.fine HSTg.out.1 HSTg.out.2.1)
  have HSG := lh (end_gw HG.out.fine HSTg.out.1 HSTg.out.2.1 HA1.out HGT.out)
  have hlm40 := HSTg.out.2.1
  gi_upto_region 7 with fail
  obtain ⟨V19, hV⟩ : ∃ V, (W18.alloc (.cells #[.int .i64 ga, .int .i64 gu, .int .i64 gp, .int .i64 gp, .int .i64 gu, .int .i64 gs, .int .i64 gl] 39)) = V := ⟨_, rfl⟩
  rw [hV]
  have hb := fbox_bel hV
  have hnew := fbox_blk hV
  have hge := Ly.out.bel.size
  replace Ly := lyb Ly hb
  replace HAQ := lh ((HAQ.out.below hb).more hb.size)
  replace HAM := lh ((HAM.out.below hb).more hb.size)
  replace Ly := lh (Ly.out.add hge hnew)
  clear hnew hge hb hV
  obtain ⟨G20, hG⟩ : ∃ g, W18.heap.size = g := ⟨_, rfl⟩
  rw [hG] at Ly ⊢
  clear hG
  have x0_0 := lyc Ly 0 rfl 0
  have x0_1 := lyc Ly 0 rfl 1
  have l0_ := Ly.out.lt 0 rfl
  have x1_0 := lyc Ly 1 rfl 0
  have x1_1 := lyc Ly 1 rfl 1
  have x1_2 := lyc Ly 1 rfl 2
  have x1_3 := lyc Ly 1 rfl 3
  have x1_4 := lyc Ly 1 rfl 4
  have l1_ := Ly.out.lt 1 rfl
  gi_wp2
  clear x0_0 x0_1 l0_ x1_0 x1_1 x1_2 x1_3 x1_4 l1_
  refine ⟨trivial, (callsIn_wide.2 (end_any A n c A' m d t s u AM lm.length cAM lm V19 (by omega) (by omega) (by omega) ((HT.out.below Ly.out.bel).more Ly.out.bel.size) HAM.out (HL.out.below Ly.out.bel hl0))).mono ?_⟩
  rintro e W21 ⟨rfl, hb⟩
  replace Ly := lyb Ly hb
  replace HAQ := lh ((HAQ.out.below hb).more hb.size)
  replace HAM := lh ((HAM.out.below hb).more hb.size)
  clear hb
  rw [HSG.out.1, HSG.out.2]
  gi_upto_region 8 with fail
  obtain ⟨V22, hV⟩ : ∃ V, (W21.alloc (.cells #[.int .i64 (max 0 (s.drops - gp * s.pace.hi - gs * s.step.hi)), .int .i64 (max 0 (s.drops - gp * s.pace.lo - gs * s.step.lo))] 63)) = V := ⟨_, rfl⟩
  rw [hV]
  have hb := fbox_bel hV
  have hnew := fbox_blk hV
  have hge := Ly.out.bel.size
  replace Ly := lyb Ly hb
  replace HAQ := lh ((HAQ.out.below hb).more hb.size)
  replace HAM := lh ((HAM.out.below hb).more hb.size)
  replace Ly := lh (Ly.out.add hge hnew)
  clear hnew hge hb hV
  obtain ⟨G23, hG⟩ : ∃ g, W21.heap.size = g := ⟨_, rfl⟩
  rw [hG] at Ly ⊢
  clear hG
  have PG0 := (mul_small HGS.out.1 (n := 50) ⟨by have := HGG.out.pace; omega, by have := HGG.out.pace; omega⟩ : 0 ≤ gp * s.pace.lo ∧ gp * s.pace.lo ≤ 80000 * 50)
  have PG1 := (mul_small HGS.out.2.2 (n := 50) ⟨by have := HGG.out.step; omega, by have := HGG.out.step; omega⟩ : 0 ≤ gs * s.step.lo ∧ gs * s.step.lo ≤ 20000 * 50)
  have PG2 := (mul_small HGS.out.1 (n := 50) ⟨by have := HGG.out.pace; omega, by have := HGG.out.pace; omega⟩ : 0 ≤ gp * s.pace.hi ∧ gp * s.pace.hi ≤ 80000 * 50)
  have PG3 := (mul_small HGS.out.2.2 (n := 50) ⟨by have := HGG.out.step; omega, by have := HGG.out.step; omega⟩ : 0 ≤ gs * s.step.hi ∧ gs * s.step.hi ≤ 20000 * 50)
  have hdr := HGG.out.drops
  have x0_0 := lyc Ly 0 rfl 0
  have x0_1 := lyc Ly 0 rfl 1
  have l0_ := Ly.out.lt 0 rfl
  have x1_0 := lyc Ly 1 rfl 0
  have x1_1 := lyc Ly 1 rfl 1
  have x1_2 := lyc Ly 1 rfl 2
  have x1_3 := lyc Ly 1 rfl 3
  have x1_4 := lyc Ly 1 rfl 4
  have l1_ := Ly.out.lt 1 rfl
  have x2_0 := lyc Ly 2 rfl 0
  have x2_1 := lyc Ly 2 rfl 1
  have x2_2 := lyc Ly 2 rfl 2
  have x2_3 := lyc Ly 2 rfl 3
  have x2_4 := lyc Ly 2 rfl 4
  have x2_5 := lyc Ly 2 rfl 5
  have x2_6 := lyc Ly 2 rfl 6
  have l2_ := Ly.out.lt 2 rfl
  have x3_0 := lyc Ly 3 rfl 0
  have x3_1 := lyc Ly 3 rfl 1
  have l3_ := Ly.out.lt 3 rfl
  gi_upto_region 10 with fail
  clear x0_0 x0_1 l0_ x1_0 x1_1 x1_2 x1_3 x1_4 l1_ x2_0 x2_1 x2_2 x2_3 x2_4 x2_5 x2_6 l2_ x3_0 x3_1 l3_
  clear PG0 PG1 PG2 PG3
  have x0_0 := lyc Ly 0 rfl 0
  have x0_1 := lyc Ly 0 rfl 1
  have l0_ := Ly.out.lt 0 rfl
  gi_wp2
  clear x0_0 x0_1 l0_
  refine ⟨trivial, (callsIn_wide.2 (follow_any A n c A' m d t u AQ lw.length cAQ lw dk V22 hm20 (by omega) ((HT.out.links.below Ly.out.bel).more Ly.out.bel.size) HG.out.fine HAQ.out)).mono ?_⟩
  rintro e W24 ⟨rfl, hb⟩
  replace Ly := lyb Ly hb
  replace HAQ := lh ((HAQ.out.below hb).more hb.size)
  replace HAM := lh ((HAM.out.below hb).more hb.size)
  clear hb
  rw [HFO.out]
  gi_upto_region 13 with fail
  obtain ⟨V25, hV⟩ : ∃ V, (W24.alloc (.cells #[.int .i64 v, .int .i64 xu, .int .i64 xp, .int .i64 xp, .int .i64 xu, .int .i64 xs, .int .i64 xl] 39)) = V := ⟨_, rfl⟩
  rw [hV]
  have hb := fbox_bel hV
  have hnew := fbox_blk hV
  have hge := Ly.out.bel.size
  replace Ly := lyb Ly hb
  replace HAQ := lh ((HAQ.out.below hb).more hb.size)
  replace HAM := lh ((HAM.out.below hb).more hb.size)
  replace Ly := lh (Ly.out.add hge hnew)
  clear hnew hge hb hV
  obtain ⟨G26, hG⟩ : ∃ g, W24.heap.size = g := ⟨_, rfl⟩
  rw [hG] at Ly ⊢
  clear hG
  have PX2 := (mul_small HXS.out.1 (n := 50) ⟨by have := HGG.out.pace; omega, by have := HGG.out.pace; omega⟩ : 0 ≤ xp * s.pace.hi ∧ xp * s.pace.hi ≤ 80000 * 50)
  have PX3 := (mul_small HXS.out.2.2 (n := 50) ⟨by have := HGG.out.step; omega, by have := HGG.out.step; omega⟩ : 0 ≤ xs * s.step.hi ∧ xs * s.step.hi ≤ 20000 * 50)
  have x1_0 := lyc Ly 1 rfl 0
  have x1_1 := lyc Ly 1 rfl 1
  have x1_2 := lyc Ly 1 rfl 2
  have x1_3 := lyc Ly 1 rfl 3
  have x1_4 := lyc Ly 1 rfl 4
  have l1_ := Ly.out.lt 1 rfl
  have x4_0 := lyc Ly 4 rfl 0
  have x4_1 := lyc Ly 4 rfl 1
  have x4_2 := lyc Ly 4 rfl 2
  have x4_3 := lyc Ly 4 rfl 3
  have x4_4 := lyc Ly 4 rfl 4
  have x4_5 := lyc Ly 4 rfl 5
  have x4_6 := lyc Ly 4 rfl 6
  have l4_ := Ly.out.lt 4 rfl
  gi_upto_region 16 with fail
  clear x1_0 x1_1 x1_2 x1_3 x1_4 l1_ x4_0 x4_1 x4_2 x4_3 x4_4 x4_5 x4_6 l4_
  by_cases hgo : v = ga
  ·subst hgo
   have PG2 := (mul_small HGS.out.1 (n := 50) ⟨by have := HGG.out.pace; omega, by have := HGG.out.pace; omega⟩ : 0 ≤ gp * s.pace.hi ∧ gp * s.pace.hi ≤ 80000 * 50)
   have PG3 := (mul_small HGS.out.2.2 (n := 50) ⟨by have := HGG.out.step; omega, by have := HGG.out.step; omega⟩ : 0 ≤ gs * s.step.hi ∧ gs * s.step.hi ≤ 20000 * 50)
   have HBL := lh (show xp * s.pace.hi + xs * s.step.hi < gp * s.pace.hi + gs * s.step.hi ∨ (xp * s.pace.hi + xs * s.step.hi = gp * s.pace.hi + gs * s.step.hi ∧ (lessP xu xp gu gp = true ∨ (xu = gu ∧ xp = gp ∧ (lw.length < lm.length ∨ (lw.length = lm.length ∧ aheadF lm lw = false))))) from by have h := before_law HG.out.fine HTP.out HBO.out HFO.out HSTg.out.1 rfl; rw [cost_loss, cost_loss] at h; exact h)
   have HLE := lh (before_fst HBL.out)
   have x1_0 := lyc Ly 1 rfl 0
   have x1_1 := lyc Ly 1 rfl 1
   have x1_2 := lyc Ly 1 rfl 2
   have x1_3 := lyc Ly 1 rfl 3
   have x1_4 := lyc Ly 1 rfl 4
   have l1_ := Ly.out.lt 1 rfl
   have x2_0 := lyc Ly 2 rfl 0
   have x2_1 := lyc Ly 2 rfl 1
   have x2_2 := lyc Ly 2 rfl 2
   have x2_3 := lyc Ly 2 rfl 3
   have x2_4 := lyc Ly 2 rfl 4
   have x2_5 := lyc Ly 2 rfl 5
   have x2_6 := lyc Ly 2 rfl 6
   have l2_ := Ly.out.lt 2 rfl
   gi_upto_region 19 with fail
   clear x1_0 x1_1 x1_2 x1_3 x1_4 l1_ x2_0 x2_1 x2_2 x2_3 x2_4 x2_5 x2_6 l2_
   clear PX2 PX3 PG2 PG3
   obtain ⟨lo1, hlo1⟩ : ∃ x, xp * s.pace.hi + xs * s.step.hi = x := ⟨_, rfl⟩
   obtain ⟨lo2, hlo2⟩ : ∃ x, gp * s.pace.hi + gs * s.step.hi = x := ⟨_, rfl⟩
   rw [hlo1, hlo2] at HBL HLE
   rw [hlo1, hlo2]
   clear hlo1 hlo2
   by_cases hlt0 : lo1 < lo2
   ·have n1 : (lo1 != lo2) = true := by simp; omega
    have n2 : decide (lo1 < lo2) = true := by simp; exact hlt0
    have x4_0 := lyc Ly 4 rfl 0
    have x4_1 := lyc Ly 4 rfl 1
    have x4_2 := lyc Ly 4 rfl 2
    have x4_3 := lyc Ly 4 rfl 3
    have x4_4 := lyc Ly 4 rfl 4
    have x4_5 := lyc Ly 4 rfl 5
    have x4_6 := lyc Ly 4 rfl 6
    have l4_ := Ly.out.lt 4 rfl
    have x2_0 := lyc Ly 2 rfl 0
    have x2_1 := lyc Ly 2 rfl 1
    have x2_2 := lyc Ly 2 rfl 2
    have x2_3 := lyc Ly 2 rfl 3
    have x2_4 := lyc Ly 2 rfl 4
    have x2_5 := lyc Ly 2 rfl 5
    have x2_6 := lyc Ly 2 rfl 6
    have l2_ := Ly.out.lt 2 rfl
    gi_wp2
    all_goals try (rename_i hA hB; exact undef_ne hA)
    clear x4_0 x4_1 x4_2 x4_3 x4_4 x4_5 x4_6 l4_ x2_0 x2_1 x2_2 x2_3 x2_4 x2_5 x2_6 l2_
    refine ⟨trivial, ?_⟩
    gi_wp2
    exact bodyPost_ret (v := .bool true) (by simp [results, Tryz.results7, go_sem]) rfl ⟨rfl, Ly.out.bel⟩
   ·have HNL := lh hlt0
    have hle := HLE.out
    obtain rfl : lo1 = lo2 := by omega
    clear hle hlt0
    by_cases heq : xu = gu ∧ xp = gp
    ·have HEQ := lh heq
     have hte := fun w => eqToil_yes heq w
     have HLL := lh (before_same2 HBL.out heq HNL.out)
     clear heq
     have hll : decide (lw.length ≤ lm.length) = true := by have := HLL.out; simp; omega
     by_cases hlt : lw.length < lm.length
     ·have hlt2 : decide (lw.length < lm.length) = true := by simp; omega
      have x2_0 := lyc Ly 2 rfl 0
      have x2_1 := lyc Ly 2 rfl 1
      have x2_2 := lyc Ly 2 rfl 2
      have x2_3 := lyc Ly 2 rfl 3
      have x2_4 := lyc Ly 2 rfl 4
      have x2_5 := lyc Ly 2 rfl 5
      have x2_6 := lyc Ly 2 rfl 6
      have l2_ := Ly.out.lt 2 rfl
      have x4_0 := lyc Ly 4 rfl 0
      have x4_1 := lyc Ly 4 rfl 1
      have x4_2 := lyc Ly 4 rfl 2
      have x4_3 := lyc Ly 4 rfl 3
      have x4_4 := lyc Ly 4 rfl 4
      have x4_5 := lyc Ly 4 rfl 5
      have x4_6 := lyc Ly 4 rfl 6
      have l4_ := Ly.out.lt 4 rfl
      gi_wp2
      clear x2_0 x2_1 x2_2 x2_3 x2_4 x2_5 x2_6 l2_ x4_0 x4_1 x4_2 x4_3 x4_4 x4_5 x4_6 l4_
      refine ⟨trivial, ?_⟩
      gi_wp2
      exact bodyPost_ret (v := .bool true) (by simp [results, Tryz.results7, go_sem]) rfl ⟨rfl, Ly.out.bel⟩
     ·have hlt2 : decide (lw.length < lm.length) = false := by simp; omega
      have HAH := lh (ahead_same HLL.out hlt)
      have x2_0 := lyc Ly 2 rfl 0
      have x2_1 := lyc Ly 2 rfl 1
      have x2_2 := lyc Ly 2 rfl 2
      have x2_3 := lyc Ly 2 rfl 3
      have x2_4 := lyc Ly 2 rfl 4
      have x2_5 := lyc Ly 2 rfl 5
      have x2_6 := lyc Ly 2 rfl 6
      have l2_ := Ly.out.lt 2 rfl
      have x4_0 := lyc Ly 4 rfl 0
      have x4_1 := lyc Ly 4 rfl 1
      have x4_2 := lyc Ly 4 rfl 2
      have x4_3 := lyc Ly 4 rfl 3
      have x4_4 := lyc Ly 4 rfl 4
      have x4_5 := lyc Ly 4 rfl 5
      have x4_6 := lyc Ly 4 rfl 6
      have l4_ := Ly.out.lt 4 rfl
      gi_wp2
      clear x2_0 x2_1 x2_2 x2_3 x2_4 x2_5 x2_6 l2_ x4_0 x4_1 x4_2 x4_3 x4_4 x4_5 x4_6 l4_
      refine ⟨trivial, (callsIn_wide.2 (ahead_any AM lm.length cAM lm AQ lw.length cAQ lw V25 (by unfold maxLen; omega) (by unfold maxLen; omega) HAM.out HAQ.out)).mono ?_⟩
      rintro e W27 ⟨rfl, hb⟩
      replace Ly := lyb Ly hb
      replace HAQ := lh ((HAQ.out.below hb).more hb.size)
      replace HAM := lh ((HAM.out.below hb).more hb.size)
      clear hb
      rw [HAH.out]
      gi_wp2
      exact bodyPost_ret (v := .bool true) (by simp [results, Tryz.results7, go_sem]) rfl ⟨rfl, Ly.out.bel⟩
    ·have hte := fun w => eqToil_no heq w
     have HLP := lh (before_less2 HBL.out heq HNL.out)
     clear heq
     have x2_0 := lyc Ly 2 rfl 0
     have x2_1 := lyc Ly 2 rfl 1
     have x2_2 := lyc Ly 2 rfl 2
     have x2_3 := lyc Ly 2 rfl 3
     have x2_4 := lyc Ly 2 rfl 4
     have x2_5 := lyc Ly 2 rfl 5
     have x2_6 := lyc Ly 2 rfl 6
     have l2_ := Ly.out.lt 2 rfl
     have x4_0 := lyc Ly 4 rfl 0
     have x4_1 := lyc Ly 4 rfl 1
     have x4_2 := lyc Ly 4 rfl 2
     have x4_3 := lyc Ly 4 rfl 3
     have x4_4 := lyc Ly 4 rfl 4
     have x4_5 := lyc Ly 4 rfl 5
     have x4_6 := lyc Ly 4 rfl 6
     have l4_ := Ly.out.lt 4 rfl
     gi_wp2
     clear x2_0 x2_1 x2_2 x2_3 x2_4 x2_5 x2_6 l2_ x4_0 x4_1 x4_2 x4_3 x4_4 x4_5 x4_6 l4_
     refine ⟨trivial, (callsIn_wide.2 (lessToil_any xu xp gu gp V25)).mono ?_⟩
     rintro e W28 ⟨rfl, hb⟩
     replace Ly := lyb Ly hb
     replace HAQ := lh ((HAQ.out.below hb).more hb.size)
     replace HAM := lh ((HAM.out.below hb).more hb.size)
     clear hb
     rw [HLP.out]
     gi_wp2
     exact bodyPost_ret (v := .bool true) (by simp [results, Tryz.results7, go_sem]) rfl ⟨rfl, Ly.out.bel⟩
  ·have hgo2 : (ga != v) = true := by simp; exact fun e => hgo e.symm
   clear hgo
   have x2_0 := lyc Ly 2 rfl 0
   have x2_1 := lyc Ly 2 rfl 1
   have x2_2 := lyc Ly 2 rfl 2
   have x2_3 := lyc Ly 2 rfl 3
   have x2_4 := lyc Ly 2 rfl 4
   have x2_5 := lyc Ly 2 rfl 5
   have x2_6 := lyc Ly 2 rfl 6
   have l2_ := Ly.out.lt 2 rfl
   gi_wp2
   clear x2_0 x2_1 x2_2 x2_3 x2_4 x2_5 x2_6 l2_
   exact bodyPost_ret (v := .bool true) (by simp [results, Tryz.results7, go_sem]) rfl ⟨rfl, Ly.out.bel⟩
theorem zwet_walk (A : Option Addr) (n c : Nat) (A' : Option Addr) (m d : Nat) (t : Town) (s : Skin) (fr : Nat) (to_ : Nat) (dk : Bool) (by_A : Option Addr) (by_n by_c : Nat) (by_ : List Nat) (w : World) (hn : n ≤ maxLen) (hm : m ≤ maxLen) (hfr : fr ≤ 255) (hto_ : to_ ≤ 255) (hby_ : by_n ≤ maxLen) (ht : TownAt w w.heap.size A n A' m t) (rby_ : BytesAt w w.heap.size by_A by_n by_) (hL : Laid w) :
  Calls Tryz.prog 7 #[.agg #[.slice A n c, .slice A' m d], .agg #[.int .i64 s.drops, .int .i64 s.pace.lo, .int .i64 s.pace.hi, .int .i64 s.step.lo, .int .i64 s.step.hi], .int .u8 fr, .int .u8 to_, .bool dk, .slice by_A by_n by_c] w fun e w' => e = .returned (.bool true) ∧ Below w.heap.size w w' :=
 callsIn_wide.1 (zwet_walk_in A n c A' m d t s fr to_ dk by_A by_n by_c by_ w hn hm hfr hto_ hby_ ht rby_ hL)
end
section
open Go.ChangeShapes Go.WideShapes Go.ChangeAt Go.RowKit
set_option maxRecDepth 100000
def laidL : List (String × DataW Unit) := [("aguador/climb.checks", Rows.laid_aguador_climb_checks)]
theorem gChecks : Tryz.prog.globalNamed "aguador/climb.checks" = some 0 := by kernel_rfl
theorem tChecks : (Tryz.prog.globals[0]?).map (·.type) = some 163 := by kernel_rfl
theorem cellsCheck : Tryz.prog.cellsOf 162 = 1 := by kernel_rfl
theorem cellsFuncB : Tryz.prog.cellsOf 28 = 1 := by kernel_rfl
theorem checkUnd : ∃ f, Tryz.prog.underlying 162 = some (.struct #[f]) ∧ f.type = 28 ∧ f.offset = 0 := ⟨_, Tryz.underlying162, rfl, rfl⟩
theorem door_met (os : Os) (args : Array Value) : laidMetH Tryz.prog laidL ((World.doorLaid Tryz.prog 800 os).forCall (fun _ _ => 0) ⟨#[], args, []⟩).memory :=
 laidMetH_of_parts3 (fuel := 8) (laidMet_of_run' 8 (by kernel_rfl) (by kernel_rfl)) (by kernel_rfl) (by kernel_rfl)
theorem check_cell {W : World} {fuel : Nat} {cs : List Value} {b : UInt8} {r : List UInt8} {q : List MemPlace} {f0 : FuncId} (h : DataW.trod (funcToken Tryz.prog) Tryz.prog W 0 (fun _ => true) true fuel 162 cs = some (.agg [.held (b :: r)], q))
  (hone : ((List.range Tryz.prog.funcs.size).filter fun f => (Tryz.prog.funcs[f]?).any (·.name.toUTF8.data.toList == b :: r)) = [f0]) : cs = [.func (.func f0) #[] #[]] := by
 obtain ⟨f, hu, ht, ho⟩ := checkUnd
 obtain ⟨y0, n, hx, hl, h0⟩ := trod_struct1 hu h
 rw [cellsCheck] at hl
 match cs, hl with
 | [c], _ =>
  have h1 : DataW.trod (funcToken Tryz.prog) Tryz.prog W 0 (fun _ => true) true n 28 [c] = some y0 := by simpa [ht, ho, cellsFuncB] using h0
  simp only [Prod.mk.injEq, DataW.agg.injEq, List.cons.injEq, and_true] at hx
  obtain ⟨z, p⟩ := y0
  obtain ⟨e1, e2⟩ := hx
  simp only at e1
  subst e1
  rw [func_of_trod Tryz.underlying28 hone h1]
theorem of_laid {W : World} (h : laidMetH Tryz.prog laidL W) : Laid W := by
 obtain ⟨g, t, cs, fuel, p, hg, ht, hv, hd⟩ := h.funcs (List.mem_singleton.2 rfl)
 obtain rfl := Option.some.inj (gChecks.symm.trans hg)
 obtain rfl := Option.some.inj (tChecks.symm.trans ht)
 obtain ⟨xs, m, _, hx, hlen, hn, hel⟩ := DataW.trod_array Tryz.underlying163 hd
 rw [cellsCheck] at hel
 match xs, hn with
 | [x0, x1, x2], _ =>
  have h0 := hel 0 (by decide)
  have h1 := hel 1 (by decide)
  have h2 := hel 2 (by decide)
  simp only [Prod.mk.injEq] at hx
  have hx1 := hx.1
  simp only [DataW.funcsOut, DataW.funcsOutAll, List.map_cons, List.map_nil, DataW.agg.injEq, List.cons.injEq, and_true] at hx1
  obtain ⟨e0, e1, e2⟩ := hx1
  obtain ⟨x0, p0⟩ := x0
  obtain ⟨x1, p1⟩ := x1
  obtain ⟨x2, p2⟩ := x2
  simp only at e0 e1 e2
  subst e0 e1 e2
  have k0 := check_cell (f0 := 174) h0 (by kernel_rfl)
  have k1 := check_cell (f0 := 175) h1 (by kernel_rfl)
  have k2 := check_cell (f0 := 176) h2 (by kernel_rfl)
  have at_ : ∀ i, W.cell? ⟨0, i, none⟩ = cs[i]? := fun i => by simpa using World.var?_cell hg hv i
  obtain ⟨l⟩ := cs
  have c0 : W.cell? ⟨0, 0, none⟩ = some (.func (.func 174) #[] #[]) := by
   rw [at_]
   have := congrArg (·[0]?) k0
   simpa [List.getElem?_take, List.getElem?_drop] using this
  have c1 : W.cell? ⟨0, 1, none⟩ = some (.func (.func 175) #[] #[]) := by
   rw [at_]
   have := congrArg (·[0]?) k1
   simpa [List.getElem?_take, List.getElem?_drop] using this
  have c2 : W.cell? ⟨0, 2, none⟩ = some (.func (.func 176) #[] #[]) := by
   rw [at_]
   have := congrArg (·[0]?) k2
   simpa [List.getElem?_take, List.getElem?_drop] using this
  exact ⟨c0, c1, c2, World.block_lt_of_cell? W _ c0⟩
end
section
open Go.ChangeShapes Go.WideShapes Go.RowKit Go.Deep Go.Joins
set_option maxRecDepth 100000
section
variable {H : Type} {enc : TypeId × Value → H} {P : Program} {w : World} {base : Nat} {spare : Nat → Bool} {held : Bool}
end
section
variable {H : Type} {enc : TypeId × Value → H} {w : World}
theorem linkUnd : ∃ f0 f1 f2 f3 f4, Tryz.prog.underlying 52 = some (.struct #[f0, f1, f2, f3, f4]) ∧ oneCellFields Tryz.prog #[f0, f1, f2, f3, f4] = true ∧ f0.type = 3 ∧ f1.type = 3 ∧ f2.type = 3 ∧ f3.type = 3 ∧ f4.type = 3 ∧ f0.offset = 0 ∧ f1.offset = 1 ∧ f2.offset = 2 ∧ f3.offset = 3 ∧ f4.offset = 4 :=
 ⟨_, _, _, _, _, Tryz.underlying52, by kernel_rfl, rfl, rfl, rfl, rfl, rfl, rfl, rfl, rfl, rfl, rfl⟩
theorem cellsLink : Tryz.prog.cellsOf 52 = 5 := by kernel_rfl
theorem cellsInt1 : Tryz.prog.cellsOf 3 = 1 := by kernel_rfl
theorem cellsTown2 : Tryz.prog.cellsOf 25 = 2 := by kernel_rfl
theorem ints_open {v : Value} {fuel : Nat} {x : DataW H × List MemPlace} (h : DataW.trod enc Tryz.prog w 0 (fun _ => true) true fuel 22 [v] = some x) :
  ∃ A n c l, v = .slice A n c ∧ n ≤ c ∧ n ≤ maxLen ∧ c ≤ maxLen ∧ IntsAt w w.heap.size A n l := by
 rcases open_slice1 Tryz.underlying22 cellsInt1 h with ⟨e, _⟩ | ⟨a, len, cap, m, k, V, D, Pl, e, _, hl, hm, hmm, _, hx⟩
 ·simp only [List.cons.injEq, and_true] at e
  exact ⟨none, 0, 0, [], e, Nat.le_refl _, Nat.zero_le _, Nat.zero_le _, Reads.none_⟩
 ·simp only [List.cons.injEq, and_true] at e
  have hmc : m = cap := by simpa using hmm
  subst hmc
  have hn : ∀ i, i < m → ∃ z : Int, V i = .int .i64 z := fun i hi => by
   obtain ⟨z, f0, _, _⟩ := DataW.trod_int Tryz.underlying3 (hx i hi).2
   simp only [List.cons.injEq, and_true] at f0
   exact ⟨z, f0⟩
  obtain ⟨Z, hZ⟩ := choose_lt hn
  refine ⟨some a, len, m, (List.range len).map Z, e, hl, by omega, hm, by simp, fun h0 => ⟨a, rfl, ?_, fun j u hu => ?_⟩⟩
  ·have := World.block_lt_of_cell? w _ (hx 0 (by omega)).1
   rwa [block_of_add] at this
  ·simp only [List.getElem?_map, Option.map_map] at hu
   have hj : j < len := by
    rcases Nat.lt_or_ge j len with h' | h'
    ·exact h'
    ·rw [List.getElem?_eq_none (by simpa using h')] at hu; cases hu
   rw [List.getElem?_range hj] at hu
   simp only [Option.map_some, Option.some.injEq, Function.comp] at hu
   rw [(hx j (by omega)).1, hZ j (by omega), ← hu]
theorem link_cells {fuel : Nat} {cs : List Value} {x : DataW H × List MemPlace} (h : DataW.trod enc Tryz.prog w 0 (fun _ => true) true fuel 52 cs = some x) (hl : cs.length = 5) : ∃ l : Link, cs = l.vals := by
 obtain ⟨f0, f1, f2, f3, f4, hu, hone, t0, t1, t2, t3, t4, z0, z1, z2, z3, z4⟩ := linkUnd
 obtain ⟨xs, n, _, _, _, hlen, hg⟩ := DataW.trod_struct hu h
 match cs, hl, xs, hlen with
 | [c0, c1, c2, c3, c4], _, [y0, y1, y2, y3, y4], _ =>
  have h0 : DataW.trod enc Tryz.prog w 0 (fun _ => true) true n 3 [c0] = some y0 := by simpa [t0, z0, cellsInt1] using hg 0 f0 rfl
  have h1 : DataW.trod enc Tryz.prog w 0 (fun _ => true) true n 3 [c1] = some y1 := by simpa [t1, z1, cellsInt1] using hg 1 f1 rfl
  have h2 : DataW.trod enc Tryz.prog w 0 (fun _ => true) true n 3 [c2] = some y2 := by simpa [t2, z2, cellsInt1] using hg 2 f2 rfl
  have h3 : DataW.trod enc Tryz.prog w 0 (fun _ => true) true n 3 [c3] = some y3 := by simpa [t3, z3, cellsInt1] using hg 3 f3 rfl
  have h4 : DataW.trod enc Tryz.prog w 0 (fun _ => true) true n 3 [c4] = some y4 := by simpa [t4, z4, cellsInt1] using hg 4 f4 rfl
  obtain ⟨n0, e0, _, _⟩ := DataW.trod_int Tryz.underlying3 h0
  obtain ⟨n1, e1, _, _⟩ := DataW.trod_int Tryz.underlying3 h1
  obtain ⟨n2, e2, _, _⟩ := DataW.trod_int Tryz.underlying3 h2
  obtain ⟨n3, e3, _, _⟩ := DataW.trod_int Tryz.underlying3 h3
  obtain ⟨n4, e4, _, _⟩ := DataW.trod_int Tryz.underlying3 h4
  simp only [List.cons.injEq, and_true] at e0 e1 e2 e3 e4
  subst e0 e1 e2 e3 e4
  exact ⟨⟨n0, n1, n2, n3, n4⟩, rfl⟩
theorem links_open {v : Value} {fuel : Nat} {x : DataW H × List MemPlace} (h : DataW.trod enc Tryz.prog w 0 (fun _ => true) true fuel 23 [v] = some x) :
  ∃ A n c l, v = .slice A n c ∧ n ≤ c ∧ n ≤ maxLen ∧ c ≤ maxLen ∧ LinksAt w w.heap.size A n l := by
 rcases open_slice Tryz.underlying23 h with ⟨e, _⟩ | ⟨a, len, cap, m, k, D, Pl, e, _, hl, hm, hmm, _, hx⟩
 ·simp only [List.cons.injEq, and_true] at e
  exact ⟨none, 0, 0, [], e, Nat.le_refl _, Nat.zero_le _, Nat.zero_le _, Reads.none_⟩
 ·simp only [List.cons.injEq, and_true] at e
  have hmc : m = cap := by simpa using hmm
  subst hmc
  have hn : ∀ i, i < m → ∃ z : Link, ∀ j, j < 5 → w.cell? (a.add (i * 5 + j)) = z.vals[j]? := fun i hi => by
   obtain ⟨cs', h1, h2⟩ := hx i hi
   rw [cellsLink] at h1
   obtain ⟨_, hcl, hat⟩ := World.cells?_some h1
   obtain ⟨z, rfl⟩ := link_cells h2 hcl
   exact ⟨z, fun j hj => by rw [← Go.Deep.add_add, hat j hj]⟩
  letI : Inhabited Link := ⟨⟨0, 0, 0, 0, 0⟩⟩
  obtain ⟨Z, hZ⟩ := choose_lt hn
  refine ⟨some a, len, m, (List.range len).map Z, e, hl, by omega, hm, by rw [flat_len]; simp, fun h0 => ⟨a, rfl, ?_, fun j u hu => ?_⟩⟩
  ·have := World.block_lt_of_cell? w _ (hZ 0 (by omega) 0 (by omega))
   rwa [block_of_add] at this
  ·have hj : j < len * 5 := by
    rcases Nat.lt_or_ge j (len * 5) with h' | h'
    ·exact h'
    ·rw [List.getElem?_eq_none (by rw [flat_len]; simpa using h')] at hu; cases hu
   have hz := hZ (j / 5) (by omega) (j % 5) (by omega)
   have ha : ((List.range len).map Z)[j / 5]? = some (Z (j / 5)) := by rw [List.getElem?_map, List.getElem?_range (by omega)]; rfl
   have hf := flat_at ha (show j % 5 < 5 by omega)
   rw [show j / 5 * 5 + j % 5 = j by omega] at hf hz
   rw [hz, ← hf, hu]
theorem town_open {r : Reach} {b0 : Nat} {v : Value} {d : DataW H} {p : List MemPlace} (hv : Value.okWide Tryz.prog w r b0 25 v) (h : DataW.Trod enc Tryz.prog w 0 (fun _ => true) true 25 v d p) :
  ∃ A n c A' m d' t, v = .agg #[.slice A n c, .slice A' m d'] ∧ n ≤ maxLen ∧ m ≤ maxLen ∧ n ≤ c ∧ m ≤ d' ∧ TownAt w w.heap.size A n A' m t := by
 obtain ⟨v0, v1, y0, y1, k, rfl, _, _, h0, h1⟩ := open_agg2 Tryz.underlying25 (by kernel_rfl) cellsTown2 hv h
 obtain ⟨A, n, c, l, rfl, hn, hx, _, hr⟩ := ints_open h0
 obtain ⟨A', m, d', l', rfl, hm, hx', _, hr'⟩ := links_open h1
 exact ⟨A, n, c, A', m, d', ⟨l, l'⟩, rfl, hx, hx', hn, hm, ⟨hr, hr'⟩⟩
end
end
section
open Go.ChangeShapes Go.WideShapes Go.RowKit Go.Deep Go.Joins
set_option maxRecDepth 100000
theorem ownT' : ownKnob Tryz.prog.godebug = none := by kernel_rfl
theorem laidOutT' : laidOutB Tryz.prog = true := by kernel_rfl
section
variable {H : Type} {enc : TypeId × Value → H} {w : World}
theorem spanUnd : ∃ f0 f1, Tryz.prog.underlying 63 = some (.struct #[f0, f1]) ∧ f0.type = 3 ∧ f1.type = 3 ∧ f0.offset = 0 ∧ f1.offset = 1 := ⟨_, _, Tryz.underlying63, rfl, rfl, rfl, rfl⟩
theorem skinUnd : ∃ f0 f1 f2, Tryz.prog.underlying 65 = some (.struct #[f0, f1, f2]) ∧ f0.type = 3 ∧ f1.type = 63 ∧ f2.type = 63 ∧ f0.offset = 0 ∧ f1.offset = 1 ∧ f2.offset = 3 := ⟨_, _, _, Tryz.underlying65, rfl, rfl, rfl, rfl, rfl, rfl⟩
theorem cellsSpan : Tryz.prog.cellsOf 63 = 2 := by kernel_rfl
theorem cellsSkin : Tryz.prog.cellsOf 65 = 5 := by kernel_rfl
theorem span_cells {fuel : Nat} {cs : List Value} {x : DataW H × List MemPlace} (h : DataW.trod enc Tryz.prog w 0 (fun _ => true) true fuel 63 cs = some x) (hl : cs.length = 2) : ∃ s : Span, cs = s.vals := by
 obtain ⟨f0, f1, hu, t0, t1, z0, z1⟩ := spanUnd
 obtain ⟨xs, n, _, _, _, hlen, hg⟩ := DataW.trod_struct hu h
 match cs, hl, xs, hlen with
 | [c0, c1], _, [y0, y1], _ =>
  have h0 : DataW.trod enc Tryz.prog w 0 (fun _ => true) true n 3 [c0] = some y0 := by simpa [t0, z0, cellsInt1] using hg 0 f0 rfl
  have h1 : DataW.trod enc Tryz.prog w 0 (fun _ => true) true n 3 [c1] = some y1 := by simpa [t1, z1, cellsInt1] using hg 1 f1 rfl
  obtain ⟨n0, e0, _, _⟩ := DataW.trod_int Tryz.underlying3 h0
  obtain ⟨n1, e1, _, _⟩ := DataW.trod_int Tryz.underlying3 h1
  simp only [List.cons.injEq, and_true] at e0 e1
  subst e0 e1
  exact ⟨⟨n0, n1⟩, rfl⟩
theorem skinArg_open {r : Reach} {b0 : Nat} {v : Value} {d : DataW H} {p : List MemPlace} (hv : Value.okWide Tryz.prog w r b0 65 v) (h : DataW.Trod enc Tryz.prog w 0 (fun _ => true) true 65 v d p) :
  ∃ s : Skin, v = .agg #[.int .i64 s.drops, .int .i64 s.pace.lo, .int .i64 s.pace.hi, .int .i64 s.step.lo, .int .i64 s.step.hi] := by
 obtain ⟨f0, f1, f2, hu, t0, t1, t2, z0, z1, z2⟩ := skinUnd
 obtain ⟨cs, rfl, hsz⟩ := okWide_struct hu hv
 obtain ⟨fuel, hf⟩ := h
 obtain ⟨l⟩ := cs
 obtain ⟨xs, n, _, _, _, hlen, hg⟩ := DataW.trod_struct hu hf
 rw [cellsSkin] at hsz
 match l, hsz, xs, hlen with
 | [c0, c1, c2, c3, c4], _, [y0, y1, y2], _ =>
  have h0 : DataW.trod enc Tryz.prog w 0 (fun _ => true) true n 3 [c0] = some y0 := by simpa [t0, z0, cellsInt1, Value.cells] using hg 0 f0 rfl
  have h1 : DataW.trod enc Tryz.prog w 0 (fun _ => true) true n 63 [c1, c2] = some y1 := by simpa [t1, z1, cellsSpan, Value.cells] using hg 1 f1 rfl
  have h2 : DataW.trod enc Tryz.prog w 0 (fun _ => true) true n 63 [c3, c4] = some y2 := by simpa [t2, z2, cellsSpan, Value.cells] using hg 2 f2 rfl
  obtain ⟨n0, e0, _, _⟩ := DataW.trod_int Tryz.underlying3 h0
  obtain ⟨s1, e1⟩ := span_cells h1 rfl
  obtain ⟨s2, e2⟩ := span_cells h2 rfl
  simp only [Span.vals, List.cons.injEq, and_true] at e0 e1 e2
  obtain ⟨rfl, rfl⟩ := e1
  obtain ⟨rfl, rfl⟩ := e2
  subst e0
  exact ⟨⟨n0, s1, s2⟩, rfl⟩
end
end
section
open Go.ChangeShapes Go.WideShapes Go.RowKit Go.Deep Go.Joins
set_option maxRecDepth 100000
section
variable {H : Type} {enc : TypeId × Value → H} {w : World}
theorem u8_wf {z : Int} (h : (Lit.int .u8 z).wf = true) : 0 ≤ z ∧ z ≤ 255 := by
 simp [Lit.wf] at h
 have h1 : IntKind.u8.min = 0 := rfl
 have h2 : IntKind.u8.max = 255 := rfl
 omega
theorem u8_open {v : Value} {d : DataW H} {p : List MemPlace} (h : DataW.Trod enc Tryz.prog w 0 (fun _ => true) true 5 v d p) (hv : ∃ z : Int, v = .int .u8 z) : ∃ x : Nat, v = .int .u8 (x : Nat) ∧ x ≤ 255 := by
 obtain ⟨z, rfl⟩ := hv
 obtain ⟨fuel, hf⟩ := h
 obtain ⟨n, e, _, hw⟩ := DataW.trod_int Tryz.underlying5 hf
 have e' : n = z := by simpa [Value.cells] using e.symm
 subst e'
 have hb := u8_wf hw
 obtain ⟨k, rfl⟩ := Int.eq_ofNat_of_zero_le hb.1
 exact ⟨k, rfl, by omega⟩
theorem cellsU81 : Tryz.prog.cellsOf 5 = 1 := by kernel_rfl
theorem bytes_open {v : Value} {fuel : Nat} {x : DataW H × List MemPlace} (h : DataW.trod enc Tryz.prog w 0 (fun _ => true) true fuel 26 [v] = some x) :
  ∃ A n c l, v = .slice A n c ∧ n ≤ c ∧ n ≤ maxLen ∧ c ≤ maxLen ∧ BytesAt w w.heap.size A n l := by
 rcases open_slice1 Tryz.underlying26 cellsU81 h with ⟨e, _⟩ | ⟨a, len, cap, m, k, V, D, Pl, e, _, hl, hm, hmm, _, hx⟩
 ·simp only [List.cons.injEq, and_true] at e
  exact ⟨none, 0, 0, [], e, Nat.le_refl _, Nat.zero_le _, Nat.zero_le _, Reads.none_, by simp⟩
 ·simp only [List.cons.injEq, and_true] at e
  have hmc : m = cap := by simpa using hmm
  subst hmc
  have hn : ∀ i, i < m → ∃ z : Nat, V i = .int .u8 (z : Nat) ∧ z ≤ 255 := fun i hi => by
   obtain ⟨z, f0, _, hw⟩ := DataW.trod_int Tryz.underlying5 (hx i hi).2
   simp only [List.cons.injEq, and_true] at f0
   have hb := u8_wf hw
   obtain ⟨k, rfl⟩ := Int.eq_ofNat_of_zero_le hb.1
   exact ⟨k, f0, by omega⟩
  obtain ⟨Z, hZ⟩ := choose_lt hn
  refine ⟨some a, len, m, (List.range len).map Z, e, hl, by omega, hm, ⟨by simp, fun h0 => ⟨a, rfl, ?_, fun j u hu => ?_⟩⟩, fun b hb => ?_⟩
  ·have := World.block_lt_of_cell? w _ (hx 0 (by omega)).1
   rwa [block_of_add] at this
  ·simp only [List.getElem?_map, Option.map_map] at hu
   have hj : j < len := by
    rcases Nat.lt_or_ge j len with h' | h'
    ·exact h'
    ·rw [List.getElem?_eq_none (by simpa using h')] at hu; cases hu
   rw [List.getElem?_range hj] at hu
   simp only [Option.map_some, Option.some.injEq, Function.comp] at hu
   rw [(hx j (by omega)).1, (hZ j (by omega)).1, ← hu]
  ·obtain ⟨j, hj, rfl⟩ := List.mem_map.1 hb
   exact (hZ j (by have := List.mem_range.1 hj; omega)).2
end
end
section
open Go.ChangeShapes Go.WideShapes Go.ChangeAt Go.RowKit Go.Joins
set_option maxRecDepth 100000 in
theorem zwet_lifted (os : Os) (started : os.Started) (H : Type) (enc : TypeId × Value → H) :
  ReturnsInHanded {} Tryz.checked os 7 .any (fun w args => (Rows.climbWetSpec.pre enc Tryz.prog Tryz.f7 [] false w args ∧ laidMetH Tryz.prog laidL w) ∧ sizedMet enc Tryz.prog Tryz.f7 (OpenSpec.ofChange Rows.climbWetSpec) false w args)
   (Rows.climbWetSpec.post enc Tryz.prog Tryz.f7 false true false false) := by
 refine returnsInHanded_of_change_and (C := Tryz.checked) (X := fun w _ => laidMetH Tryz.prog laidL w) (fun _ _ _ hh h => h.of_heap hh) ownT' started (by kernel_rfl) Tryz.func7
  (ChangeSpec.witness_shaped (enc := enc) (C := Tryz.checked) (os := os) (X := fun w _ => laidMetH Tryz.prog laidL w) false (World.doorLaid Tryz.prog 800 os) #[.agg #[.slice none 0 0, .slice none 0 0], .agg #[.int .i64 0, .int .i64 0, .int .i64 0, .int .i64 0, .int .i64 0], .int .u8 0, .int .u8 0, .bool false, .slice none 0 0] 8 rfl (World.shaped_of_RefB (by kernel_rfl) (by kernel_rfl)) (by kernel_rfl) (by kernel_rfl) (by kernel_rfl) (door_met os _)) ?_
 intro W base args ds gs before hval0 hW _ _ hL _
 have hval : ∀ (j : Nat) t v, Tryz.f7.params[j]? = some t → args[j]? = some v → Value.okWide Tryz.prog W .any base t v := hval0
 have hW' := hW
 obtain ⟨p, q, hA0, hV, rfl, hfz, hnd⟩ := hW
 have hA : DataW.TrodAll enc Tryz.prog W 0 (fun _ => true) true Tryz.f7.params.toList args.toList ds p := hA0
 rw [Tryz.params7] at hA hval
 obtain ⟨v0, vs0, d0, ds0, p0, q0, hargs, rfl, rfl, h0, r0⟩ := trodAll_cons hA
 obtain ⟨v1, vs1, d1, ds1, p1, q1, rfl, rfl, rfl, h1, r1⟩ := trodAll_cons r0
 obtain ⟨v2, vs2, d2, ds2, p2, q2, rfl, rfl, rfl, h2, r2⟩ := trodAll_cons r1
 obtain ⟨v3, vs3, d3, ds3, p3, q3, rfl, rfl, rfl, h3, r3⟩ := trodAll_cons r2
 obtain ⟨v4, vs4, d4, ds4, p4, q4, rfl, rfl, rfl, h4, r4⟩ := trodAll_cons r3
 obtain ⟨v5, vs5, d5, ds5, p5, q5, rfl, rfl, rfl, h5, r5⟩ := trodAll_cons r4
 obtain ⟨rfl, rfl, rfl⟩ := trodAll_nil r5
 obtain rfl : args = #[v0, v1, v2, v3, v4, v5] := by cases args; simp_all
 obtain ⟨rfl, rfl⟩ := trodVars_none hV
 have lt0 : ∀ x ∈ p0, x.block < W.heap.size := by obtain ⟨m, hm⟩ := h0; exact DataW.trod_lt m _ _ _ hm
 have lt1 : ∀ x ∈ p1, x.block < W.heap.size := by obtain ⟨m, hm⟩ := h1; exact DataW.trod_lt m _ _ _ hm
 have lt2 : ∀ x ∈ p2, x.block < W.heap.size := by obtain ⟨m, hm⟩ := h2; exact DataW.trod_lt m _ _ _ hm
 have lt3 : ∀ x ∈ p3, x.block < W.heap.size := by obtain ⟨m, hm⟩ := h3; exact DataW.trod_lt m _ _ _ hm
 have lt4 : ∀ x ∈ p4, x.block < W.heap.size := by obtain ⟨m, hm⟩ := h4; exact DataW.trod_lt m _ _ _ hm
 have lt5 : ∀ x ∈ p5, x.block < W.heap.size := by obtain ⟨m, hm⟩ := h5; exact DataW.trod_lt m _ _ _ hm
 have hl := of_laid hL
 obtain ⟨A, n, c, A', m, d, t, e0, hn, hm, hnc, hmd, ht⟩ := town_open (hval 0 25 v0 rfl rfl) h0
 obtain ⟨s1, e1⟩ := skinArg_open (hval 1 65 v1 rfl rfl) h1
 obtain ⟨s2, e2, hb2⟩ := u8_open h2 (okWide_int Tryz.underlying5 (hval 2 5 v2 rfl rfl))
 obtain ⟨s3, e3, hb3⟩ := u8_open h3 (okWide_int Tryz.underlying5 (hval 3 5 v3 rfl rfl))
 obtain ⟨s4, e4⟩ := okWide_bool Tryz.underlying4 (hval 4 4 v4 rfl rfl)
 obtain ⟨A2x5, k2x5, c2x5, e5⟩ := okWide_slice Tryz.underlying26 (hval 5 26 v5 rfl rfl)
 have hh5 := h5
 obtain ⟨fu5, hf5⟩ := hh5
 rw [e5, show (Value.slice A2x5 k2x5 c2x5).cells = #[.slice A2x5 k2x5 c2x5] from rfl] at hf5
 obtain ⟨B5, j5, b5, l5, e5', _, hk5, _, hr5⟩ := bytes_open hf5
 rw [← e5] at e5'
 clear e5 hf5
 clear hA0 hval0 hval
 subst e0 e1 e2 e3 e4 e5'
 refine (zwet_walk A n c A' m d t s1 s2 s3 s4 B5 j5 b5 l5 W hn hm hb2 hb3 hk5 ht hr5 hl).mono fun e W' ⟨he, bel⟩ => ?_
 subst he
 exact ⟨_, rfl, _, _, _, [], _, [], hW', trodAll_mk1 (shut_bool Tryz.underlying4 _), (trodAll_cons_mk (Below.trod laidOutT' (by kernel_rfl) (of_decide_eq_true (by kernel_rfl)) h0 bel lt0) (trodAll_cons_mk (Below.trod laidOutT' (by kernel_rfl) (of_decide_eq_true (by kernel_rfl)) h1 bel lt1) (trodAll_cons_mk (Below.trod laidOutT' (by kernel_rfl) (of_decide_eq_true (by kernel_rfl)) h2 bel lt2) (trodAll_cons_mk (Below.trod laidOutT' (by kernel_rfl) (of_decide_eq_true (by kernel_rfl)) h3 bel lt3) (trodAll_cons_mk (Below.trod laidOutT' (by kernel_rfl) (of_decide_eq_true (by kernel_rfl)) h4 bel lt4) (trodAll_cons_mk (Below.trod laidOutT' (by kernel_rfl) (of_decide_eq_true (by kernel_rfl)) h5 bel lt5) trodAll_mk0)))))), rfl, bel.frame _, fun h => by cases h⟩
theorem zwet_holds : Rows.ClimbWetSaid :=
 OpenClaim.holds_of_wide 7 Tryz.f7 rfl rfl rfl rfl rfl rfl rfl ⟨rfl, rfl, rfl, rfl, rfl⟩ rfl rfl rfl rfl rfl (by kernel_rfl) Tryz.func7 (by kernel_rfl)
  (of_decide_eq_true (by kernel_rfl)) (by unfold Func.isWrapper; first | (rw [if_pos (by decide +kernel)]; kernel_rfl) | (rw [if_neg (by decide +kernel)]; exact ⟨rfl, rfl⟩))
  (fun os started H enc _ => zwet_lifted os started H enc)
theorem zwet_card : Rows.ClimbWetCardSaid :=
 Claim7.holds_tied_plain_at .later [] [.funcs] true (true, "67de833af213194507c31c05b7184ea255bc0890cd487a2a5aea99d39e4477e7") false
  zwet_holds (fun _ h => by cases h) (by kernel_rfl) (fun _ h => by cases h) climbWet_row_tie rfl ⟨rfl, rfl⟩ (by kernel_rfl) rfl
  (fun f fn hf hfn => by
   obtain rfl : f = 7 := Option.some.inj ((show Tryz.prog.funcNamed "aguador/aguadorlaw03.ClimbWet" = some 7 by kernel_rfl).symm.trans hf) |>.symm
   obtain rfl : fn = Tryz.f7 := (Option.some.inj (Tryz.func7.symm.trans hfn)).symm
   exact ⟨by kernel_rfl, fun j t ht => by
    rw [Tryz.params7] at ht
    have hm : t ∈ [25, 65, 5, 5, 4, 26] := by simpa using Array.mem_of_getElem? ht
    have hall : ([25, 65, 5, 5, 4, 26].all fun u => !Tryz.prog.wantsStandIn u) = true := by kernel_rfl
    exact (show Tryz.prog.wantsStandIn t = false by simpa using List.all_eq_true.1 hall t hm)⟩)
  (by kernel_rfl)
#print axioms zwet_card
end
end Go.Proofs.YtahkjagjcogeiaaGreatDoor
