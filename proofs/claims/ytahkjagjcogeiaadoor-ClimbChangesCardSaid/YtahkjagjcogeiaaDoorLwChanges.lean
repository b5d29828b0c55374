/- The law ClimbChanges, walked. -/
import Derived.Test.YtahkjagjcogeiaaDoorRfOpen
import Derived.Test.YtahkjagjcogeiaaDoorRfSame
namespace Go.Proofs.YtahkjagjcogeiaaDoor
open Go.RowKit
set_option linter.unusedVariables false

/-- A slice of a block that may be written into. -/
def Shape (W : World) (S H : Nat) (A : Option Addr) (n size : Nat) (e : TypeId) : Prop := n = 0 ∨ ∃ g cs, A = some ⟨g, 0, none⟩ ∧ S ≤ g ∧ g < H ∧ Blk W g e cs ∧ n * size ≤ cs.size
theorem Shape.of_own {W : World} {base n cap size H : Nat} {e : TypeId} {A : Option Addr} {xs : List Value} (h : Own W base e size A n cap xs) {S : Nat} (hS : S ≤ base) (hH : W.heap.size ≤ H) : Shape W S H A n size e := by
  rcases h.form with ⟨_, h0, _⟩ | ⟨g, cur, hA, hb, hblk, hn, _, hsz, _⟩
  · exact .inl h0
  · exact .inr ⟨g, cur, hA, by omega, Nat.lt_of_lt_of_le hblk.lt hH, hblk, by rw [hsz]; exact Nat.mul_le_mul_right size hn⟩
theorem Shape.below {W W' : World} {S H n size : Nat} {A : Option Addr} {e : TypeId} (h : Shape W S H A n size e) (hb : Below W.heap.size W W') : Shape W' S H A n size e := by
  rcases h with h | ⟨g, cs, h1, h2, h3, h4, h5⟩
  · exact .inl h
  · exact .inr ⟨g, cs, h1, h2, h3, h4.below hb h4.lt, h5⟩
theorem Shape.set_ {W : World} {S H n size : Nat} {A : Option Addr} {e : TypeId} (h : Shape W S H A n size e) (g i : Nat) (u : Value) : Shape (W.setCell ⟨g, i, none⟩ u) S H A n size e := by
  rcases h with h | ⟨g', cs, h1, h2, h3, h4, h5⟩
  · exact .inl h
  · by_cases hg : g' = g
    · subst hg
      exact .inr ⟨g', _, h1, h2, h3, h4.set_ i u, by simpa using h5⟩
    · exact .inr ⟨g', cs, h1, h2, h3, h4.far (p := ⟨g, i, none⟩) hg u, h5⟩

section
variable {A A' A1 A1' A2 A2' : Option Addr} {n c m d c1 c1' k2 c2 : Nat} {t : Town} {l : List Int} {x : Link}
structure LawSt (A : Option Addr) (n c : Nat) (A' : Option Addr) (m d : Nat) (t : Town) (l : List Int) (x : Link) (k2 : Nat) (A1 : Option Addr) (c1 : Nat) (A1' : Option Addr) (c1' : Nat) (A2 : Option Addr) (c2 : Nat) (OB : Nat) (w W : World) : Prop where
  bel : Below w.heap.size w W
  tb : Blk W w.heap.size 25 #[.slice A n c, .slice A' m d]
  xb : Blk W (w.heap.size + 1) 45 #[.int .i64 x.id, .int .i64 x.fr, .int .i64 x.to, .int .i64 x.steps, .int .i64 x.paces]
  ob : Blk W OB 25 #[.slice A1 n c1, .slice A1' m c1']
  op : Own W w.heap.size 3 1 A1 n c1 (t.places.map (Value.int .i64))
  ol : Own W w.heap.size 45 5 A1' m c1' (t.links.flatMap Link.vals)
  mi : Own W w.heap.size 3 1 A2 k2 c2 (l.map (Value.int .i64))
theorem LawSt.below {OB : Nat} {w W W' : World} (h : LawSt A n c A' m d t l x k2 A1 c1 A1' c1' A2 c2 OB w W) (hb : Below W.heap.size W W') : LawSt A n c A' m d t l x k2 A1 c1 A1' c1' A2 c2 OB w W' :=
  ⟨h.bel.trans (hb.mono h.bel.size), h.tb.below hb h.tb.lt, h.xb.below hb h.xb.lt, h.ob.below hb h.ob.lt, h.op.below hb (Nat.le_refl _), h.ol.below hb (Nat.le_refl _), h.mi.below hb (Nat.le_refl _)⟩
theorem LawSt.town {OB : Nat} {w W : World} (h : LawSt A n c A' m d t l x k2 A1 c1 A1' c1' A2 c2 OB w W) : TownAt W W.heap.size A1 n A1' m t := ⟨ints_of_own h.op (Nat.le_refl _), links_of_own h.ol (Nat.le_refl _)⟩
theorem LawSt.mine {OB : Nat} {w W : World} (h : LawSt A n c A' m d t l x k2 A1 c1 A1' c1' A2 c2 OB w W) : IntsAt W W.heap.size A2 k2 l := ints_of_own h.mi (Nat.le_refl _)
end
structure LawLoop (Aa : Option Addr) (pa ca : Nat) (Aa' : Option Addr) (la ca' : Nat) (Ac : Option Addr) (pc cc : Nat) (Ac' : Option Addr) (lc cc' : Nat) (w4 : World) (H : Nat) (wr : World) : Prop where
  bel : Below w4.heap.size w4 wr
  box : Blk wr H 25 #[.slice Aa pa ca, .slice Aa' la ca', .slice Ac pc cc, .slice Ac' lc cc']
  sa : Shape wr w4.heap.size H Aa pa 1 3
  sb : Shape wr w4.heap.size H Aa' la 5 45
  sc : Shape wr w4.heap.size H Ac pc 1 3
  sd : Shape wr w4.heap.size H Ac' lc 5 45
section
variable {Aa : Option Addr} {pa ca : Nat} {Aa' : Option Addr} {la ca' : Nat} {Ac : Option Addr} {pc cc : Nat} {Ac' : Option Addr} {lc cc' : Nat} {w4 : World} {H : Nat} {wr w' : World}
theorem LawLoop.below (h : LawLoop Aa pa ca Aa' la ca' Ac pc cc Ac' lc cc' w4 H wr) (hb : Below wr.heap.size wr w') : LawLoop Aa pa ca Aa' la ca' Ac pc cc Ac' lc cc' w4 H w' :=
  ⟨h.bel.trans (hb.mono h.bel.size), h.box.below hb h.box.lt, h.sa.below hb, h.sb.below hb, h.sc.below hb, h.sd.below hb⟩
theorem LawLoop.set_ (h : LawLoop Aa pa ca Aa' la ca' Ac pc cc Ac' lc cc' w4 H wr) {g : Nat} (h1 : w4.heap.size ≤ g) (h2 : g < H) (i : Nat) (u : Value) : LawLoop Aa pa ca Aa' la ca' Ac pc cc Ac' lc cc' w4 H (wr.setCell ⟨g, i, none⟩ u) :=
  ⟨h.bel.setCell (p := ⟨g, i, none⟩) h1 u, h.box.far (p := ⟨g, i, none⟩) (by show H ≠ g; omega) u, h.sa.set_ g i u, h.sb.set_ g i u, h.sc.set_ g i u, h.sd.set_ g i u⟩
end
theorem sameT_refl (t : Town) : sameT t t = true := by simp [sameT]
theorem sameI_refl (l : List Int) : sameI l l = true := by simp [sameI]

theorem noTown_sizes : noTown.places.length = 0 ∧ noTown.links.length = 0 := ⟨rfl, rfl⟩
theorem closeT_sizes (t : Town) (l : List Int) : (closeT t l).places.length ≤ t.places.length ∧ (closeT t l).links.length ≤ t.links.length := by
  unfold closeT
  split
  · exact ⟨Nat.le_refl _, List.length_filter_le _ _⟩
  · exact ⟨Nat.zero_le _, Nat.zero_le _⟩
theorem openR_sizes (t : Town) (x : Link) : (openR t x).places.length ≤ t.places.length ∧ (openR t x).links.length ≤ t.links.length + 1 := by
  unfold openR
  split
  · refine ⟨Nat.le_refl _, ?_⟩
    unfold openT
    simp
    omega
  · exact ⟨Nat.zero_le _, Nat.zero_le _⟩

set_option maxRecDepth 100000 in
set_option maxHeartbeats 8000000 in
theorem changes_walk (A : Option Addr) (n c : Nat) (A' : Option Addr) (m d : Nat) (t : Town) (A2 : Option Addr) (k2 c2 : Nat) (l : List Int) (x : Link) (w : World) (hn : n ≤ maxLen) (hm : m ≤ maxLen) (hk : k2 ≤ maxLen) (hmd : m ≤ d) (ht : TownAt w w.heap.size A n A' m t) (hr : IntsAt w w.heap.size A2 k2 l) (hL : Laid w) :
    Calls Tryd.prog 4 #[.agg #[.slice A n c, .slice A' m d], .slice A2 k2 c2, .agg #[.int .i64 x.id, .int .i64 x.fr, .int .i64 x.to, .int .i64 x.steps, .int .i64 x.paces]] w fun e w' => e = .returned (.bool true) ∧ Below w.heap.size w w' := by
  have HT := Lib.hid ht
  have HR := Lib.hid hr
  have HL := Lib.hid hL
  have hl0 := hL.2.2.2
  have HLn := Lib.hid ht.places.len
  have HLm := Lib.hid ht.links.len
  have HLk := Lib.hid hr.len
  clear ht hr hL
  unfold maxLen at hn hm hk
  go_enter Tryd.func4, Tryd.ntmps4
  go_wp2_with fail
  have T0 := (Blk.new w 25 #[.slice A n c, .slice A' m d]).alloc (.cells #[.int .i64 x.id, .int .i64 x.fr, .int .i64 x.to, .int .i64 x.steps, .int .i64 x.paces] 45)
  have Y0 := Blk.new (w.alloc (.cells #[.slice A n c, .slice A' m d] 25)) 45 #[.int .i64 x.id, .int .i64 x.fr, .int .i64 x.to, .int .i64 x.steps, .int .i64 x.paces]
  have B0 : Below w.heap.size w ((w.alloc (.cells #[.slice A n c, .slice A' m d] 25)).alloc (.cells #[.int .i64 x.id, .int .i64 x.fr, .int .i64 x.to, .int .i64 x.steps, .int .i64 x.paces] 45)) := ((Below.refl _ _).alloc (Nat.le_refl _) _).alloc (by simp) _
  rw [World.size_alloc] at Y0
  generalize ((w.alloc (.cells #[.slice A n c, .slice A' m d] 25)).alloc (.cells #[.int .i64 x.id, .int .i64 x.fr, .int .i64 x.to, .int .i64 x.steps, .int .i64 x.paces] 45)) = w0 at *
  with_reducible refine (great_any A n c A' m d w0).mono ?_
  rintro e w1 ⟨rfl, hb1⟩
  replace T0 := T0.below hb1 T0.lt
  replace Y0 := Y0.below hb1 Y0.lt
  replace B0 := B0.trans (hb1.mono B0.size)
  clear hb1
  cases hgr : greatB n m with
  | true =>
    clear hgr
    go_wp2_with fail
    go_ret
    exact ⟨rfl, B0⟩
  | false =>
  have hsz : n ≤ 20 ∧ m ≤ 40 := by unfold greatB at hgr; simp at hgr; omega
  clear hgr
  obtain ⟨hn20, hm40⟩ := hsz
  by_cases hk60 : (60 : Int) < (k2 : Int)
  · go_wp2_with fail
    go_ret
    exact ⟨rfl, B0⟩
  have hk60' : k2 ≤ 60 := by omega
  have hk60d : decide ((60 : Int) < (k2 : Int)) = false := by simp; omega
  clear hk60
  have hn1 : n ≤ 1000 := by omega
  have hm1 : m ≤ 1000 := by omega
  have hk1 : k2 ≤ 1000 := by omega
  have t0 := T0.cell 0
  have t1 := T0.cell 1
  go_wp2_with fail
  with_reducible refine (twin_any A n c A' m d t w1 hn1 hm1 ((HT.out.below B0).more B0.size)).mono ?_
  rintro e w2 ⟨A1, c1, A1', c1', rfl, hO1, hO2, hap, hb2⟩
  replace T0 := T0.below hb2 T0.lt
  replace Y0 := Y0.below hb2 Y0.lt
  have HO1 := Lib.hid (hO1.mono B0.size)
  have HO2 := Lib.hid (hO2.mono B0.size)
  replace B0 := B0.trans (hb2.mono B0.size)
  rw [HLn.out] at HO1
  rw [HLm.out] at HO2
  rw [HLn.out, HLm.out]
  clear hO1 hO2 hap hb2 t0 t1
  have HE : Hid (Own (w2.alloc (.cells #[] 3)) w.heap.size 3 1 (some ⟨w2.heap.size, 0, none⟩) 0 0 []) := Own.mk_ B0.size (Blk.new w2 _ _) (Nat.le_refl _) (Nat.zero_le _) rfl rfl (fun k hk => by omega)
  have HI : Hid (IntsAt (w2.alloc (.cells #[] 3)) (w2.alloc (.cells #[] 3)).heap.size A2 k2 l) := (HR.out.below (B0.alloc B0.size _)).more (B0.alloc B0.size _).size
  go_wp2_with (at_builtin; refine wpList_append_any _ rfl _ _ rfl elem_int rfl HE.out rfl HI.out (ints_one _) (by unfold maxLen; omega) (by omega) (by rw [World.size_alloc]; have := B0.size; omega) ?_)
  rintro A3 c3 w3 hown hg hA
  have HMi : Hid (Own w3 w.heap.size 3 1 A3 k2 c3 (l.map (Value.int .i64))) := by
    have h := hown
    exact h
  have hg' : w2.grownBy w3 (some w2.heap.size) := grown_trans (grown_of_below ((Below.refl w2.heap.size w2).alloc (Nat.le_refl _) (.cells #[] 3)) _) hg
  have hb3 : Below w2.heap.size w2 w3 := below_of_grown hg' (fun k hk => by cases hk; exact Nat.le_refl _) (Nat.le_refl _)
  replace T0 := T0.below hb3 T0.lt
  replace Y0 := Y0.below hb3 Y0.lt
  replace B0 := B0.trans (hb3.mono B0.size)
  replace HO1 := Lib.hid (HO1.out.below hb3 (Nat.le_refl _))
  replace HO2 := Lib.hid (HO2.out.below hb3 (Nat.le_refl _))
  clear hown hg hg' hb3 HE HI hA
  go_wp2_with fail
  have hSt : LawSt A n c A' m d t l x k2 A1 c1 A1' c1' A3 c3 w3.heap.size w (w3.alloc (.cells #[.slice A1 n c1, .slice A1' m c1'] 25)) :=
    ⟨B0.alloc B0.size _, T0.alloc _, Y0.alloc _, Blk.new w3 _ _, HO1.out.alloc _, HO2.out.alloc _, HMi.out.alloc _⟩
  clear T0 Y0 B0 HO1 HO2 HMi
  obtain ⟨OB, hOB⟩ : ∃ OB, w3.heap.size = OB := ⟨_, rfl⟩
  rw [hOB] at hSt
  generalize (w3.alloc (.cells #[.slice A1 n c1, .slice A1' m c1'] 25)) = w4 at *
  rw [hOB]
  have HSt := Lib.hid hSt
  have HSt4 := Lib.hid hSt
  have HBS : Hid (Below w4.heap.size w4 w4) := Below.refl _ _
  clear hSt
  with_reducible refine (close_any A1 n c1 A1' m c1' t A3 k2 c3 l w4 hn1 hm1 hk1 HSt.out.town HSt.out.mine (HL.out.below HSt.out.bel hl0)).mono ?_
  rintro e w5 ⟨Aa, ca, Aa', ca', rfl, hOa, hOa', hapa, hb⟩
  replace HSt := Lib.hid (HSt.out.below hb)
  replace HBS := Lib.hid (HBS.out.trans (hb.mono HBS.out.size))
  have HAa := Lib.hid hOa
  have HAa' := Lib.hid hOa'
  clear hOa hOa' hapa hb
  have q0 := HSt.out.tb.cell 0
  have q1 := HSt.out.tb.cell 1
  have hl1 := HSt.out.tb.lt
  have hl2 := HSt.out.xb.lt
  have hl3 := HSt.out.ob.lt
  go_wp2_with fail
  have hb := (Below.refl w5.heap.size w5).alloc (Nat.le_refl _) (.cells #[.slice Aa (closeT t l).places.length ca, .slice Aa' (closeT t l).links.length ca'] 25)
  replace HSt := Lib.hid (HSt.out.below hb)
  replace HBS := Lib.hid (HBS.out.trans (hb.mono HBS.out.size))
  replace HAa := Lib.hid (HAa.out.below hb (Nat.le_refl _))
  replace HAa' := Lib.hid (HAa'.out.below hb (Nat.le_refl _))
  have HBa := Lib.hid (Blk.new w5 25 #[.slice Aa (closeT t l).places.length ca, .slice Aa' (closeT t l).links.length ca'])
  obtain ⟨Ba, hBa⟩ : ∃ Ba, w5.heap.size = Ba := ⟨_, rfl⟩
  rw [hBa] at HBa
  generalize (w5.alloc (.cells #[.slice Aa (closeT t l).places.length ca, .slice Aa' (closeT t l).links.length ca'] 25)) = w6 at *
  rw [hBa]
  clear hb
  with_reducible refine (rclose_any A n c A' m d t A2 k2 c2 l w6 hn1 hm1 hk1 ((HT.out.below HSt.out.bel).more HSt.out.bel.size) ((HR.out.below HSt.out.bel).more HSt.out.bel.size)).mono ?_
  rintro e w7 ⟨Ab, cb, Ab', cb', rfl, hOb, hOb', hapb, hb⟩
  replace HSt := Lib.hid (HSt.out.below hb)
  replace HBS := Lib.hid (HBS.out.trans (hb.mono HBS.out.size))
  replace HAa := Lib.hid (HAa.out.below hb (Nat.le_refl _))
  replace HAa' := Lib.hid (HAa'.out.below hb (Nat.le_refl _))
  replace HBa := Lib.hid (HBa.out.below hb HBa.out.lt)
  have HAb := Lib.hid hOb
  have HAb' := Lib.hid hOb'
  clear hOb hOb' hapb hb q0 q1 hl1 hl2 hl3
  have q0 := HSt.out.ob.cell 0
  have q1 := HSt.out.ob.cell 1
  have q2 := HSt.out.xb.cell 0
  have q3 := HSt.out.xb.cell 1
  have q4 := HSt.out.xb.cell 2
  have q5 := HSt.out.xb.cell 3
  have q6 := HSt.out.xb.cell 4
  have hl1 := HSt.out.tb.lt
  have hl2 := HSt.out.xb.lt
  have hl3 := HSt.out.ob.lt
  go_wp2_with fail
  have hb := (Below.refl w7.heap.size w7).alloc (Nat.le_refl _) (.cells #[.slice Ab (closeT t l).places.length cb, .slice Ab' (closeT t l).links.length cb'] 25)
  replace HSt := Lib.hid (HSt.out.below hb)
  replace HBS := Lib.hid (HBS.out.trans (hb.mono HBS.out.size))
  replace HAa := Lib.hid (HAa.out.below hb (Nat.le_refl _))
  replace HAa' := Lib.hid (HAa'.out.below hb (Nat.le_refl _))
  replace HBa := Lib.hid (HBa.out.below hb HBa.out.lt)
  replace HAb := Lib.hid (HAb.out.below hb (Nat.le_refl _))
  replace HAb' := Lib.hid (HAb'.out.below hb (Nat.le_refl _))
  have HBb := Lib.hid (Blk.new w7 25 #[.slice Ab (closeT t l).places.length cb, .slice Ab' (closeT t l).links.length cb'])
  obtain ⟨Bb, hBb⟩ : ∃ Bb, w7.heap.size = Bb := ⟨_, rfl⟩
  rw [hBb] at HBb
  generalize (w7.alloc (.cells #[.slice Ab (closeT t l).places.length cb, .slice Ab' (closeT t l).links.length cb'] 25)) = w8 at *
  rw [hBb]
  clear hb
  have h48 := HBS.out.size
  with_reducible refine (open_any A1 n c1 A1' m c1' t x w8 hn1 hm1 HSt.out.town (HL.out.below HSt.out.bel hl0)).mono ?_
  rintro e w9 ⟨Ac, cc, Ac', cc', rfl, hOc, hOc', hapc, hb⟩
  replace HSt := Lib.hid (HSt.out.below hb)
  replace HBS := Lib.hid (HBS.out.trans (hb.mono HBS.out.size))
  replace HAa := Lib.hid (HAa.out.below hb (Nat.le_refl _))
  replace HAa' := Lib.hid (HAa'.out.below hb (Nat.le_refl _))
  replace HBa := Lib.hid (HBa.out.below hb HBa.out.lt)
  replace HAb := Lib.hid (HAb.out.below hb (Nat.le_refl _))
  replace HAb' := Lib.hid (HAb'.out.below hb (Nat.le_refl _))
  replace HBb := Lib.hid (HBb.out.below hb HBb.out.lt)
  have HAc := Lib.hid hOc
  have HAc' := Lib.hid hOc'
  clear hOc hOc' hapc hb q0 q1 q2 q3 q4 q5 q6 hl1 hl2 hl3
  have q0 := HSt.out.tb.cell 0
  have q1 := HSt.out.tb.cell 1
  have q2 := HSt.out.xb.cell 0
  have q3 := HSt.out.xb.cell 1
  have q4 := HSt.out.xb.cell 2
  have q5 := HSt.out.xb.cell 3
  have q6 := HSt.out.xb.cell 4
  have hl1 := HSt.out.tb.lt
  have hl2 := HSt.out.xb.lt
  have hl3 := HSt.out.ob.lt
  go_wp2_with fail
  have hb := (Below.refl w9.heap.size w9).alloc (Nat.le_refl _) (.cells #[.slice Ac (openR t x).places.length cc, .slice Ac' (openR t x).links.length cc'] 25)
  replace HSt := Lib.hid (HSt.out.below hb)
  replace HBS := Lib.hid (HBS.out.trans (hb.mono HBS.out.size))
  replace HAa := Lib.hid (HAa.out.below hb (Nat.le_refl _))
  replace HAa' := Lib.hid (HAa'.out.below hb (Nat.le_refl _))
  replace HBa := Lib.hid (HBa.out.below hb HBa.out.lt)
  replace HAb := Lib.hid (HAb.out.below hb (Nat.le_refl _))
  replace HAb' := Lib.hid (HAb'.out.below hb (Nat.le_refl _))
  replace HBb := Lib.hid (HBb.out.below hb HBb.out.lt)
  replace HAc := Lib.hid (HAc.out.below hb (Nat.le_refl _))
  replace HAc' := Lib.hid (HAc'.out.below hb (Nat.le_refl _))
  have HBc := Lib.hid (Blk.new w9 25 #[.slice Ac (openR t x).places.length cc, .slice Ac' (openR t x).links.length cc'])
  obtain ⟨Bc, hBc⟩ : ∃ Bc, w9.heap.size = Bc := ⟨_, rfl⟩
  rw [hBc] at HBc
  generalize (w9.alloc (.cells #[.slice Ac (openR t x).places.length cc, .slice Ac' (openR t x).links.length cc'] 25)) = w10 at *
  rw [hBc]
  clear hb
  with_reducible refine (ropen_any A n c A' m d t x w10 hn1 hm1 hmd ((HT.out.below HSt.out.bel).more HSt.out.bel.size)).mono ?_
  rintro e w11 ⟨Ad, cd, Ad', cd', rfl, hOd, hOd', hapd, hb⟩
  replace HSt := Lib.hid (HSt.out.below hb)
  replace HBS := Lib.hid (HBS.out.trans (hb.mono HBS.out.size))
  replace HAa := Lib.hid (HAa.out.below hb (Nat.le_refl _))
  replace HAa' := Lib.hid (HAa'.out.below hb (Nat.le_refl _))
  replace HBa := Lib.hid (HBa.out.below hb HBa.out.lt)
  replace HAb := Lib.hid (HAb.out.below hb (Nat.le_refl _))
  replace HAb' := Lib.hid (HAb'.out.below hb (Nat.le_refl _))
  replace HBb := Lib.hid (HBb.out.below hb HBb.out.lt)
  replace HAc := Lib.hid (HAc.out.below hb (Nat.le_refl _))
  replace HAc' := Lib.hid (HAc'.out.below hb (Nat.le_refl _))
  replace HBc := Lib.hid (HBc.out.below hb HBc.out.lt)
  have HAd := Lib.hid hOd
  have HAd' := Lib.hid hOd'
  clear hOd hOd' hapd hb q0 q1 q2 q3 q4 q5 q6 hl1 hl2 hl3
  have q0 := HBa.out.cell 0
  have q1 := HBa.out.cell 1
  have q2 := HBb.out.cell 0
  have q3 := HBb.out.cell 1
  have hl1 := HBa.out.lt
  have hl2 := HBb.out.lt
  go_wp2_with fail
  have hb := (Below.refl w11.heap.size w11).alloc (Nat.le_refl _) (.cells #[.slice Ad (openR t x).places.length cd, .slice Ad' (openR t x).links.length cd'] 25)
  replace HSt := Lib.hid (HSt.out.below hb)
  replace HBS := Lib.hid (HBS.out.trans (hb.mono HBS.out.size))
  replace HAa := Lib.hid (HAa.out.below hb (Nat.le_refl _))
  replace HAa' := Lib.hid (HAa'.out.below hb (Nat.le_refl _))
  replace HBa := Lib.hid (HBa.out.below hb HBa.out.lt)
  replace HAb := Lib.hid (HAb.out.below hb (Nat.le_refl _))
  replace HAb' := Lib.hid (HAb'.out.below hb (Nat.le_refl _))
  replace HBb := Lib.hid (HBb.out.below hb HBb.out.lt)
  replace HAc := Lib.hid (HAc.out.below hb (Nat.le_refl _))
  replace HAc' := Lib.hid (HAc'.out.below hb (Nat.le_refl _))
  replace HBc := Lib.hid (HBc.out.below hb HBc.out.lt)
  replace HAd := Lib.hid (HAd.out.below hb (Nat.le_refl _))
  replace HAd' := Lib.hid (HAd'.out.below hb (Nat.le_refl _))
  have HBd := Lib.hid (Blk.new w11 25 #[.slice Ad (openR t x).places.length cd, .slice Ad' (openR t x).links.length cd'])
  obtain ⟨Bd, hBd⟩ : ∃ Bd, w11.heap.size = Bd := ⟨_, rfl⟩
  rw [hBd] at HBd
  generalize (w11.alloc (.cells #[.slice Ad (openR t x).places.length cd, .slice Ad' (openR t x).links.length cd'] 25)) = w12 at *
  rw [hBd]
  clear hb
  clear q0 q1 q2 q3 hl1 hl2
  have hcs := closeT_sizes t l
  have hos := openR_sizes t x
  rw [HLn.out, HLm.out] at hcs hos
  obtain ⟨pa, hpa⟩ : ∃ pa, (closeT t l).places.length = pa := ⟨_, rfl⟩
  obtain ⟨la, hla⟩ : ∃ la, (closeT t l).links.length = la := ⟨_, rfl⟩
  obtain ⟨pc, hpc⟩ : ∃ pc, (openR t x).places.length = pc := ⟨_, rfl⟩
  obtain ⟨lc, hlc⟩ : ∃ lc, (openR t x).links.length = lc := ⟨_, rfl⟩
  rw [hpa, hla] at hcs
  rw [hpc, hlc] at hos
  rw [hpa] at HAa HAb
  rw [hla] at HAa' HAb'
  rw [hpc] at HAc HAd
  rw [hlc] at HAc' HAd'
  rw [hpa, hla] at HBa HBb
  rw [hpc, hlc] at HBc HBd
  rw [hpa, hla, hpc, hlc]
  with_reducible refine (same_any Aa pa ca Aa' la ca' (closeT t l) Ab pa cb Ab' la cb' (closeT t l) w12 (by unfold maxLen; omega) (by unfold maxLen; omega) (by unfold maxLen; omega) (by unfold maxLen; omega) ⟨ints_of_own HAa.out (Nat.le_refl _), links_of_own HAa'.out (Nat.le_refl _)⟩ ⟨ints_of_own HAb.out (Nat.le_refl _), links_of_own HAb'.out (Nat.le_refl _)⟩).mono ?_
  rintro e w13 ⟨rfl, hb⟩
  rw [sameT_refl]
  replace HSt := Lib.hid (HSt.out.below hb)
  replace HBS := Lib.hid (HBS.out.trans (hb.mono HBS.out.size))
  replace HAa := Lib.hid (HAa.out.below hb (Nat.le_refl _))
  replace HAa' := Lib.hid (HAa'.out.below hb (Nat.le_refl _))
  replace HBa := Lib.hid (HBa.out.below hb HBa.out.lt)
  replace HAb := Lib.hid (HAb.out.below hb (Nat.le_refl _))
  replace HAb' := Lib.hid (HAb'.out.below hb (Nat.le_refl _))
  replace HBb := Lib.hid (HBb.out.below hb HBb.out.lt)
  replace HAc := Lib.hid (HAc.out.below hb (Nat.le_refl _))
  replace HAc' := Lib.hid (HAc'.out.below hb (Nat.le_refl _))
  replace HBc := Lib.hid (HBc.out.below hb HBc.out.lt)
  replace HAd := Lib.hid (HAd.out.below hb (Nat.le_refl _))
  replace HAd' := Lib.hid (HAd'.out.below hb (Nat.le_refl _))
  replace HBd := Lib.hid (HBd.out.below hb HBd.out.lt)
  clear hb
  have q0 := HBc.out.cell 0
  have q1 := HBc.out.cell 1
  have q2 := HBd.out.cell 0
  have q3 := HBd.out.cell 1
  have hee : ((closeE t l) == (closeE t l)) = true := by simp
  have hee2 : ((openE t x) == (openE t x)) = true := by simp
  go_wp2_with fail
  with_reducible refine (same_any Ac pc cc Ac' lc cc' (openR t x) Ad pc cd Ad' lc cd' (openR t x) w13 (by unfold maxLen; omega) (by unfold maxLen; omega) (by unfold maxLen; omega) (by unfold maxLen; omega) ⟨ints_of_own HAc.out (Nat.le_refl _), links_of_own HAc'.out (Nat.le_refl _)⟩ ⟨ints_of_own HAd.out (Nat.le_refl _), links_of_own HAd'.out (Nat.le_refl _)⟩).mono ?_
  rintro e w14 ⟨rfl, hb⟩
  rw [sameT_refl]
  replace HSt := Lib.hid (HSt.out.below hb)
  replace HBS := Lib.hid (HBS.out.trans (hb.mono HBS.out.size))
  replace HAa := Lib.hid (HAa.out.below hb (Nat.le_refl _))
  replace HAa' := Lib.hid (HAa'.out.below hb (Nat.le_refl _))
  replace HBa := Lib.hid (HBa.out.below hb HBa.out.lt)
  replace HAb := Lib.hid (HAb.out.below hb (Nat.le_refl _))
  replace HAb' := Lib.hid (HAb'.out.below hb (Nat.le_refl _))
  replace HBb := Lib.hid (HBb.out.below hb HBb.out.lt)
  replace HAc := Lib.hid (HAc.out.below hb (Nat.le_refl _))
  replace HAc' := Lib.hid (HAc'.out.below hb (Nat.le_refl _))
  replace HBc := Lib.hid (HBc.out.below hb HBc.out.lt)
  replace HAd := Lib.hid (HAd.out.below hb (Nat.le_refl _))
  replace HAd' := Lib.hid (HAd'.out.below hb (Nat.le_refl _))
  replace HBd := Lib.hid (HBd.out.below hb HBd.out.lt)
  clear hb q0 q1 q2 q3
  have q0 := HBa.out.cell 0
  have q1 := HBa.out.cell 1
  have q2 := HBc.out.cell 0
  have q3 := HBc.out.cell 1
  go_wp2_with fail
  clear hee hee2
  have hS : Hid (w4.heap.size ≤ w14.heap.size) := HBS.out.size
  obtain ⟨H, hH⟩ : ∃ H, w14.heap.size = H := ⟨_, rfl⟩
  have hLI : LawLoop Aa pa ca Aa' la ca' Ac pc cc Ac' lc cc' w4 H (w14.alloc (.cells #[.slice Aa pa ca, .slice Aa' la ca', .slice Ac pc cc, .slice Ac' lc cc'] 25)) := by
    have hba := (Below.refl w14.heap.size w14).alloc (Nat.le_refl _) (.cells #[.slice Aa pa ca, .slice Aa' la ca', .slice Ac pc cc, .slice Ac' lc cc'] 25)
    have hb0 := Blk.new w14 25 #[.slice Aa pa ca, .slice Aa' la ca', .slice Ac pc cc, .slice Ac' lc cc']
    rw [hH] at hb0
    exact ⟨HBS.out.trans (hba.mono hS.out), hb0, (Shape.of_own HAa.out (Nat.le_refl _) (Nat.le_of_eq hH)).below hba, (Shape.of_own HAa'.out (Nat.le_refl _) (Nat.le_of_eq hH)).below hba, (Shape.of_own HAc.out h48 (Nat.le_of_eq hH)).below hba, (Shape.of_own HAc'.out h48 (Nat.le_of_eq hH)).below hba⟩
  have HLI := Lib.hid hLI
  clear hLI q0 q1 q2 q3 HAa HAa' HAb HAb' HAc HAc' HAd HAd' HBa HBb HBc HBd HBS HSt hS h48
  generalize (w14.alloc (.cells #[.slice Aa pa ca, .slice Aa' la ca', .slice Ac pc cc, .slice Ac' lc cc'] 25)) = w15 at *
  rw [hH]
  clear hH
  go_loopw [80] (fun vi wr => ∃ k : Nat, k ≤ 2 ∧ vi = .int .i64 k ∧ LawLoop Aa pa ca Aa' la ca' Ac pc cc Ac' lc cc' w4 H wr) (fun vi _ => 2 - (intOf vi).toNat)
  case atStart => exact ⟨0, by omega, rfl, HLI.out⟩
  case round =>
    obtain ⟨k, hk2, rfl, hI⟩ := hrel
    have HI := Lib.hid hI
    clear hI
    have hk' : k = 0 ∨ k = 1 ∨ k = 2 := by omega
    rcases hk' with rfl | rfl | rfl
    · have b0 := HI.out.box.cell 0
      have b1 := HI.out.box.cell 1
      have hHl := HI.out.box.lt
      go_wp2_with fail
      have hba := (Below.refl wr.heap.size wr).alloc (Nat.le_refl _) (.cells #[.slice Aa pa ca, .slice Aa' la ca'] 25)
      have HI1 := Lib.hid (HI.out.below hba)
      have HZ := Lib.hid (Blk.new wr 25 #[.slice Aa pa ca, .slice Aa' la ca'])
      obtain ⟨Z, hZ⟩ : ∃ Z, wr.heap.size = Z := ⟨_, rfl⟩
      rw [hZ] at HZ hHl
      rw [hZ]
      clear hba HI b0 b1
      generalize (wr.alloc (.cells #[.slice Aa pa ca, .slice Aa' la ca'] 25)) = w16 at *
      go_loopw [87] (fun vj wq => ∃ j : Nat, j ≤ pa ∧ vj = .int .i64 j ∧ LawLoop Aa pa ca Aa' la ca' Ac pc cc Ac' lc cc' w4 H wq ∧ Blk wq Z 25 #[.slice Aa pa ca, .slice Aa' la ca']) (fun vj _ => pa - (intOf vj).toNat)
      case atStart => exact ⟨0, by omega, rfl, HI1.out, HZ.out⟩
      case round =>
        obtain ⟨j, hj, rfl, hI2, hz2⟩ := hrel
        have HI2 := Lib.hid hI2
        have HZ2 := Lib.hid hz2
        have z0 := hz2.cell 0
        have z1 := hz2.cell 1
        clear hI2 hz2
        by_cases hjl : j < pa
        · rcases HI2.out.sa with h0 | ⟨g, cs, hA, hg1, hg2, hg3, hg4⟩
          · omega
          subst hA
          have y0 := hg3.frozen j
          obtain ⟨u, y1⟩ : ∃ u, wr.cell? ⟨g, j, none⟩ = some u := ⟨_, by rw [hg3.cell]; exact Array.getElem?_eq_getElem (by omega)⟩
          clear hg3 hg4
          go_wp2_with fail
          go_roundw
          case rel => exact ⟨j + 1, by omega, by go_num, HI2.out.set_ hg1 hg2 j _, HZ2.out.far (p := ⟨g, j, none⟩) (by show Z ≠ g; omega) _⟩
          case measure => simp [intOf]; omega
        · obtain rfl : j = pa := by omega
          go_wp2_with fail
          go_loopw [98] (fun vj wq => ∃ i : Nat, i ≤ la ∧ vj = .int .i64 i ∧ LawLoop Aa j ca Aa' la ca' Ac pc cc Ac' lc cc' w4 H wq ∧ Blk wq Z 25 #[.slice Aa j ca, .slice Aa' la ca']) (fun vj _ => la - (intOf vj).toNat)
          case atStart => exact ⟨0, by omega, rfl, HI2.out, HZ2.out⟩
          case round =>
            obtain ⟨i, hi, rfl, hI3, hz3⟩ := hrel
            have HI3 := Lib.hid hI3
            have HZ3 := Lib.hid hz3
            clear z0 z1
            have z0 := hz3.cell 0
            have z1 := hz3.cell 1
            clear hI3 hz3
            by_cases hil : i < la
            · rcases HI3.out.sb with h0 | ⟨g, cs, hA, hg1, hg2, hg3, hg4⟩
              · omega
              subst hA
              have y0 := hg3.frozen (i * 5)
              obtain ⟨u, y1⟩ : ∃ u, wr.cell? ⟨g, i * 5, none⟩ = some u := ⟨_, by rw [hg3.cell]; exact Array.getElem?_eq_getElem (by omega)⟩
              clear hg3 hg4
              go_wp2_with fail
              go_roundw
              case rel => exact ⟨i + 1, by omega, by go_num, HI3.out.set_ hg1 hg2 (i * 5) _, HZ3.out.far (p := ⟨g, i * 5, none⟩) (by show Z ≠ g; omega) _⟩
              case measure => simp [intOf]; omega
            · go_wp2_with fail
              go_roundw
              case rel => exact ⟨1, by omega, by go_num, HI3.out⟩
              case measure => simp [intOf]
    · have b0 := HI.out.box.cell 2
      have b1 := HI.out.box.cell 3
      have hHl := HI.out.box.lt
      go_wp2_with fail
      have hba := (Below.refl wr.heap.size wr).alloc (Nat.le_refl _) (.cells #[.slice Ac pc cc, .slice Ac' lc cc'] 25)
      have HI1 := Lib.hid (HI.out.below hba)
      have HZ := Lib.hid (Blk.new wr 25 #[.slice Ac pc cc, .slice Ac' lc cc'])
      obtain ⟨Z, hZ⟩ : ∃ Z, wr.heap.size = Z := ⟨_, rfl⟩
      rw [hZ] at HZ hHl
      rw [hZ]
      clear hba HI b0 b1
      generalize (wr.alloc (.cells #[.slice Ac pc cc, .slice Ac' lc cc'] 25)) = w16 at *
      go_loopw [87] (fun vj wq => ∃ j : Nat, j ≤ pc ∧ vj = .int .i64 j ∧ LawLoop Aa pa ca Aa' la ca' Ac pc cc Ac' lc cc' w4 H wq ∧ Blk wq Z 25 #[.slice Ac pc cc, .slice Ac' lc cc']) (fun vj _ => pc - (intOf vj).toNat)
      case atStart => exact ⟨0, by omega, rfl, HI1.out, HZ.out⟩
      case round =>
        obtain ⟨j, hj, rfl, hI2, hz2⟩ := hrel
        have HI2 := Lib.hid hI2
        have HZ2 := Lib.hid hz2
        have z0 := hz2.cell 0
        have z1 := hz2.cell 1
        clear hI2 hz2
        by_cases hjl : j < pc
        · rcases HI2.out.sc with h0 | ⟨g, cs, hA, hg1, hg2, hg3, hg4⟩
          · omega
          subst hA
          have y0 := hg3.frozen j
          obtain ⟨u, y1⟩ : ∃ u, wr.cell? ⟨g, j, none⟩ = some u := ⟨_, by rw [hg3.cell]; exact Array.getElem?_eq_getElem (by omega)⟩
          clear hg3 hg4
          go_wp2_with fail
          go_roundw
          case rel => exact ⟨j + 1, by omega, by go_num, HI2.out.set_ hg1 hg2 j _, HZ2.out.far (p := ⟨g, j, none⟩) (by show Z ≠ g; omega) _⟩
          case measure => simp [intOf]; omega
        · obtain rfl : j = pc := by omega
          go_wp2_with fail
          go_loopw [98] (fun vj wq => ∃ i : Nat, i ≤ lc ∧ vj = .int .i64 i ∧ LawLoop Aa pa ca Aa' la ca' Ac j cc Ac' lc cc' w4 H wq ∧ Blk wq Z 25 #[.slice Ac j cc, .slice Ac' lc cc']) (fun vj _ => lc - (intOf vj).toNat)
          case atStart => exact ⟨0, by omega, rfl, HI2.out, HZ2.out⟩
          case round =>
            obtain ⟨i, hi, rfl, hI3, hz3⟩ := hrel
            have HI3 := Lib.hid hI3
            have HZ3 := Lib.hid hz3
            clear z0 z1
            have z0 := hz3.cell 0
            have z1 := hz3.cell 1
            clear hI3 hz3
            by_cases hil : i < lc
            · rcases HI3.out.sd with h0 | ⟨g, cs, hA, hg1, hg2, hg3, hg4⟩
              · omega
              subst hA
              have y0 := hg3.frozen (i * 5)
              obtain ⟨u, y1⟩ : ∃ u, wr.cell? ⟨g, i * 5, none⟩ = some u := ⟨_, by rw [hg3.cell]; exact Array.getElem?_eq_getElem (by omega)⟩
              clear hg3 hg4
              go_wp2_with fail
              go_roundw
              case rel => exact ⟨i + 1, by omega, by go_num, HI3.out.set_ hg1 hg2 (i * 5) _, HZ3.out.far (p := ⟨g, i * 5, none⟩) (by show Z ≠ g; omega) _⟩
              case measure => simp [intOf]; omega
            · go_wp2_with fail
              go_roundw
              case rel => exact ⟨2, by omega, by go_num, HI3.out⟩
              case measure => simp [intOf]
    · have hst := HSt4.out.below HI.out.bel
      have q0 := hst.tb.cell 0
      have q1 := hst.tb.cell 1
      have q2 := hst.ob.cell 0
      have q3 := hst.ob.cell 1
      have HSt := Lib.hid hst
      clear hst
      go_wp2_with fail
      with_reducible refine (same_any A1 n c1 A1' m c1' t A n c A' m d t wr (by unfold maxLen; omega) (by unfold maxLen; omega) (by unfold maxLen; omega) (by unfold maxLen; omega) HSt.out.town ((HT.out.below HSt.out.bel).more HSt.out.bel.size)).mono ?_
      rintro e w16 ⟨rfl, hb⟩
      rw [sameT_refl]
      replace HSt := Lib.hid (HSt.out.below hb)
      clear hb q0 q1 q2 q3
      go_wp2_with fail
      with_reducible refine (sameInts_any A3 k2 c3 l A2 k2 c2 l w16 (by unfold maxLen; omega) (by unfold maxLen; omega) HSt.out.mine ((HR.out.below HSt.out.bel).more HSt.out.bel.size)).mono ?_
      rintro e w17 ⟨rfl, hb⟩
      rw [sameI_refl]
      go_wp2_with fail
      go_ret
      exact ⟨rfl, HSt.out.bel.trans (hb.mono HSt.out.bel.size)⟩
end Go.Proofs.YtahkjagjcogeiaaDoor
