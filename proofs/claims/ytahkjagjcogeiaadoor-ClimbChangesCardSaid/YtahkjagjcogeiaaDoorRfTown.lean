/- The answer's within, Place, Link, Town, Great. -/
import Derived.Test.YtahkjagjcogeiaaDoorClCheck
import Derived.Test.YtahkjagjcogeiaaDoorIndexFuncLink
namespace Go.Proofs.YtahkjagjcogeiaaDoor
open Go.RowKit
set_option linter.unusedVariables false

theorem within_any (x lo hi : Int) (w : World) : Calls Tryd.prog 110 #[.int .i64 x, .int .i64 lo, .int .i64 hi] w fun e w' => e = .returned (.bool (inB lo hi [x])) ∧ w' = w := by
  have h := inB_one lo hi x
  by_cases h1 : lo ≤ x
  · by_cases h2 : x ≤ hi
    · have HI : Hid (inB lo hi [x] = true) := by show _ = _; rw [h]; simp [h1, h2]
      clear h
      go_enter Tryd.func110, Tryd.ntmps110
      go_wp2_with fail
      go_ret
      exact ⟨ret_bool (by rw [HI.out]), rfl⟩
    · have HI : Hid (inB lo hi [x] = false) := by show _ = _; rw [h]; simp [h2]
      have h3 : hi < x := by omega
      clear h
      go_enter Tryd.func110, Tryd.ntmps110
      go_wp2_with fail
      go_ret
      exact ⟨ret_bool (by rw [HI.out]), rfl⟩
  · have HI : Hid (inB lo hi [x] = false) := by show _ = _; rw [h]; simp [h1]
    have h3 : decide (lo ≤ x) = false := by simp; omega
    clear h
    go_enter Tryd.func110, Tryd.ntmps110
    go_wp2_with fail
    go_ret
    exact ⟨ret_bool (by rw [HI.out]), rfl⟩

/-- The place of a number; -1 if there is none. -/
def placeI (l : List Int) (id : Int) : Int := idx (fun y => y == id) l
theorem placeI_yes {l : List Int} {id : Int} (h : memI l id = true) : 0 ≤ placeI l id := by
  have := idx_ge (p := fun y => y == id) (l := l)
  unfold placeI
  rw [any_contains] at this
  unfold memI at h
  rw [h] at this
  simpa using this
theorem placeI_no {l : List Int} {id : Int} (h : memI l id = false) : placeI l id < 0 := by
  have := idx_ge (p := fun y => y == id) (l := l)
  unfold placeI
  rw [any_contains] at this
  unfold memI at h
  rw [h] at this
  simpa using this
/-- The place of a link; -1 if there is none. -/
def linkI (l : List Link) (id : Int) : Int := idxL (fun y => y.id == id) l

set_option maxHeartbeats 1000000 in
theorem place_any (A : Option Addr) (n c : Nat) (A' : Option Addr) (m d : Nat) (t : Town) (id : Int) (w : World) (hn : n ≤ maxLen) (ht : IntsAt w w.heap.size A n t.places) :
    Calls Tryd.prog 109 #[.agg #[.slice A n c, .slice A' m d], .int .i64 id] w fun e w' => e = .returned (.int .i64 (placeI t.places id)) ∧ Below w.heap.size w w' := by
  unfold maxLen at hn
  go_enter Tryd.func109, Tryd.ntmps109
  go_wp2_with fail
  have T0 := Blk.new w 25 #[.slice A n c, .slice A' m d]
  have B0 : Below w.heap.size w (w.alloc (.cells #[.slice A n c, .slice A' m d] 25)) := (Below.refl _ _).alloc (Nat.le_refl _) _
  generalize (w.alloc (.cells #[.slice A n c, .slice A' m d] 25)) = w0 at *
  have t0 := T0.cell 0
  go_loop [5] (fun i => ∃ k : Nat, k ≤ n ∧ i = .int .i64 k ∧ (∀ y ∈ t.places.take k, (y == id) = false))
    (fun i => n - (intOf i).toNat)
  case atStart => exact ⟨0, by omega, rfl, by simp⟩
  case round =>
    obtain ⟨k, hk, rfl, hno⟩ := hrel
    have HN := Lib.hid hno
    clear hno
    by_cases hlt : k < n
    · obtain ⟨b, off, x, rfl, hbB, hx, hc⟩ := (ht.below B0).cell hlt
      have HX := Lib.hid hx
      clear hx
      by_cases hp : x = id
      · have hp' : (x == id) = true := by simpa using hp
        have HP := Lib.hid hp'
        clear hp
        go_wp2_with fail
        go_ret
        exact ⟨ret_int (idx_some HX.out HP.out HN.out).symm, B0⟩
      · have hp' : (x == id) = false := by simpa using hp
        have HP := Lib.hid hp'
        clear hp
        go_wp2_with fail
        go_round
        case rel => exact ⟨k + 1, by omega, by go_num, take_snoc_all HX.out HP.out HN.out⟩
        case measure => simp [intOf]; omega
    · go_wp2_with fail
      go_ret
      exact ⟨ret_int (idx_none (by
        have := HN.out
        rwa [List.take_of_length_le (by have := ht.len; omega)] at this)).symm, B0⟩

set_option maxHeartbeats 1000000 in
theorem link_any (A : Option Addr) (n c : Nat) (A' : Option Addr) (m d : Nat) (t : Town) (id : Int) (w : World) (hn : m ≤ maxLen) (ht : LinksAt w w.heap.size A' m t.links) :
    Calls Tryd.prog 63 #[.agg #[.slice A n c, .slice A' m d], .int .i64 id] w fun e w' => e = .returned (.int .i64 (linkI t.links id)) ∧ Below w.heap.size w w' := by
  unfold maxLen at hn
  go_enter Tryd.func63, Tryd.ntmps63
  go_wp2_with fail
  have T0 := Blk.new w 25 #[.slice A n c, .slice A' m d]
  have B0 : Below w.heap.size w (w.alloc (.cells #[.slice A n c, .slice A' m d] 25)) := (Below.refl _ _).alloc (Nat.le_refl _) _
  generalize (w.alloc (.cells #[.slice A n c, .slice A' m d] 25)) = w0 at *
  have t1 := T0.cell 1
  go_loop [5] (fun i => ∃ k : Nat, k ≤ m ∧ i = .int .i64 k ∧ (∀ y ∈ t.links.take k, (y.id == id) = false))
    (fun i => m - (intOf i).toNat)
  case atStart => exact ⟨0, by omega, rfl, by simp⟩
  case round =>
    obtain ⟨k, hk, rfl, hno⟩ := hrel
    have HN := Lib.hid hno
    clear hno
    by_cases hlt : k < m
    · obtain ⟨b, off, x, rfl, hbB, hx, hc, -⟩ := (ht.below B0).cell hlt
      have HX := Lib.hid hx
      clear hx
      by_cases hp : x.id = id
      · have hp' : (x.id == id) = true := by simpa using hp
        have HP := Lib.hid hp'
        clear hp
        go_wp2_with fail
        go_ret
        exact ⟨ret_int (idxL_some HX.out HP.out HN.out).symm, B0⟩
      · have hp' : (x.id == id) = false := by simpa using hp
        have HP := Lib.hid hp'
        clear hp
        go_wp2_with fail
        go_round
        case rel => exact ⟨k + 1, by omega, by go_num, take_snoc_all HX.out HP.out HN.out⟩
        case measure => simp [intOf]; omega
    · go_wp2_with fail
      go_ret
      exact ⟨ret_int (idxL_none (by
        have := HN.out
        rwa [List.take_of_length_le (by have := ht.len; omega)] at this)).symm, B0⟩

theorem hasB2 (t : Town) (a b : Int) : hasB t [a, b] = (memI t.places a && memI t.places b) := by
  unfold hasB
  cases h1 : memI t.places a <;> cases h2 : memI t.places b <;> simp [h1, h2]

theorem linkB_unf (t : Town) (last : Int) (x : Link) : linkB t last x = (inB (last + 1) 9999 [x.id] && memI t.places x.fr && memI t.places x.to && !(x.fr == x.to) && inB 0 500 [x.steps] && inB 1 2000 [x.paces]) := by
  unfold linkB
  rw [hasB2]
  cases inB (last + 1) 9999 [x.id] <;> cases memI t.places x.fr <;> cases memI t.places x.to <;> cases (x.fr == x.to) <;> cases inB 0 500 [x.steps] <;> cases inB 1 2000 [x.paces] <;> rfl

set_option maxRecDepth 100000 in
set_option maxHeartbeats 4000000 in
theorem rtown_any (A : Option Addr) (n c : Nat) (A' : Option Addr) (m d : Nat) (t : Town) (w : World) (hn : n ≤ 1000) (hm : m ≤ 1000) (ht : TownAt w w.heap.size A n A' m t) :
    Calls Tryd.prog 62 #[.agg #[.slice A n c, .slice A' m d]] w fun e w' => e = .returned (.bool (townB t)) ∧ Below w.heap.size w w' := by
  have hln := ht.places.len
  have hlm := ht.links.len
  have HT := Lib.hid ht
  have hn1 : n ≤ maxLen := by unfold maxLen; omega
  have hU : townB t = (inB 1 9 [(n : Int)] && decide ((m : Int) ≤ 20) && upB 0 t.places && linksB t 0 t.links) := by
    unfold townB sizeB
    rw [hln, hlm]
    have : decide (m ≤ 20) = decide ((m : Int) ≤ 20) := by simp; omega
    rw [this]
  have HN := Lib.hid hln
  have HM := Lib.hid hlm
  have HTB := Lib.hid hU
  clear ht hln hlm hU
  go_enter Tryd.func62, Tryd.ntmps62
  go_wp2_with fail
  have T0 := Blk.new w 25 #[.slice A n c, .slice A' m d]
  have B0 : Below w.heap.size w (w.alloc (.cells #[.slice A n c, .slice A' m d] 25)) := (Below.refl _ _).alloc (Nat.le_refl _) _
  generalize (w.alloc (.cells #[.slice A n c, .slice A' m d] 25)) = w0 at *
  have t0 := T0.cell 0
  have t1 := T0.cell 1
  with_reducible refine (within_any (n : Int) 1 9 w0).mono ?_
  rintro e w0 ⟨rfl, rfl⟩
  cases hi1 : inB 1 9 [(n : Int)] with
  | false =>
    have HI := Lib.hid hi1
    clear hi1
    go_wp2_with fail
    go_ret
    exact ⟨ret_bool (by rw [HTB.out, HI.out]; rfl), B0⟩
  | true =>
  have HI := Lib.hid hi1
  clear hi1
  by_cases h20 : (20 : Int) < (m : Int)
  · go_wp2_with fail
    go_ret
    exact ⟨ret_bool (by rw [HTB.out, HI.out, show decide ((m : Int) ≤ 20) = false by simp; omega]; rfl), B0⟩
  have h20' : m ≤ 20 := by omega
  have h20d : decide ((20 : Int) < (m : Int)) = false := by simp; omega
  clear h20
  go_wp2_with fail
  go_loop [3, 22] (fun last i => ∃ (k : Nat) (z : Int), k ≤ n ∧ i = .int .i64 k ∧ last = .int .i64 z ∧ 0 ≤ z ∧ z ≤ 9999 ∧ upB 0 t.places = upB z (t.places.drop k))
    (fun _ i => n - (intOf i).toNat)
  case atStart => exact ⟨0, 0, by omega, rfl, rfl, by omega, by omega, by simp⟩
  case round =>
    obtain ⟨k, z, hk, rfl, rfl, hz0, hz1, hu⟩ := hrel
    have HU := Lib.hid hu
    clear hu
    by_cases hlt : k < n
    · obtain ⟨b, off, x, rfl, hbB, hx, hc⟩ := (HT.out.places.below B0).cell hlt
      have HX := Lib.hid hx
      clear hx
      go_wp2_with fail
      with_reducible refine (within_any x (z + 1) 9999 _).mono ?_
      rintro e w0 ⟨rfl, rfl⟩
      cases hi : inB (z + 1) 9999 [x] with
      | true =>
        have HI2 := Lib.hid hi
        have hxz := inB_iff.1 hi
        clear hi
        go_wp2_with fail
        go_round
        case rel => exact ⟨k + 1, x, by omega, by go_num, rfl, by omega, by omega, by rw [HU.out, upB_drop HX.out, HI2.out]; rfl⟩
        case measure => simp [intOf]; omega
      | false =>
        have HI2 := Lib.hid hi
        clear hi
        go_wp2_with fail
        go_ret
        exact ⟨ret_bool (by rw [HTB.out, HU.out, upB_drop HX.out, HI2.out]; simp), B0⟩
    · have HUP : Hid (upB 0 t.places = true) := by
        show _ = _
        rw [HU.out, List.drop_eq_nil_of_le (by have := HN.out; omega)]; rfl
      clear hz0 hz1 HU hk
      go_wp2_with fail
      go_loopw [3, 36] (fun last i wr => ∃ (k : Nat) (z : Int), k ≤ m ∧ i = .int .i64 k ∧ last = .int .i64 z ∧ 0 ≤ z ∧ z ≤ 9999 ∧ linksB t 0 t.links = linksB t z (t.links.drop k) ∧ Below w0.heap.size w0 wr)
        (fun _ i _ => m - (intOf i).toNat)
      case atStart => exact ⟨0, 0, by omega, rfl, rfl, by omega, by omega, by simp, Below.refl _ _⟩
      case round =>
        obtain ⟨k, z, hk, rfl, rfl, hz0, hz1, hu, hb⟩ := hrel
        have HU := Lib.hid hu
        clear hu
        have TR := T0.below hb T0.lt
        have BR := B0.trans (hb.mono B0.size)
        clear t0 t1
        by_cases hlt : k < m
        · obtain ⟨b, off, x, rfl, hbB, hx, hc0, hc1, hc2, hc3, hc4⟩ := (HT.out.links.below BR).cell hlt
          have HX := Lib.hid hx
          clear hx
          have HTR := Lib.hid TR
          clear TR
          go_wp2_with fail
          have X1 := Lib.hid (Blk.new wr 45 #[.int .i64 x.id, .int .i64 x.fr, .int .i64 x.to, .int .i64 x.steps, .int .i64 x.paces])
          have T1 := Lib.hid (HTR.out.alloc (.cells #[.int .i64 x.id, .int .i64 x.fr, .int .i64 x.to, .int .i64 x.steps, .int .i64 x.paces] 45))
          have B1 := BR.alloc BR.size (.cells #[.int .i64 x.id, .int .i64 x.fr, .int .i64 x.to, .int .i64 x.steps, .int .i64 x.paces] 45)
          have b1 := hb.alloc hb.size (.cells #[.int .i64 x.id, .int .i64 x.fr, .int .i64 x.to, .int .i64 x.steps, .int .i64 x.paces] 45)
          clear hc0 hc1 hc2 hc3 hc4
          generalize (wr.alloc (.cells #[.int .i64 x.id, .int .i64 x.fr, .int .i64 x.to, .int .i64 x.steps, .int .i64 x.paces] 45)) = w1 at *
          with_reducible refine (within_any x.id (z + 1) 9999 w1).mono ?_
          rintro e w1 ⟨rfl, rfl⟩
          have t0 := T1.out.cell 0
          have t1 := T1.out.cell 1
          have x0 := X1.out.cell 0
          have x1 := X1.out.cell 1
          have x2 := X1.out.cell 2
          have x3 := X1.out.cell 3
          have x4 := X1.out.cell 4
          cases hi1 : inB (z + 1) 9999 [x.id] with
          | false =>
            have HF : Hid (linkB t z x = false) := by show _ = _; rw [linkB_unf, hi1]; rfl
            clear hi1
            go_wp2_with fail
            go_ret
            exact ⟨ret_bool (by rw [HTB.out, HU.out, linksB_drop HX.out, HF.out]; simp), B1⟩
          | true =>
          have HI1 := Lib.hid hi1
          have hxz := inB_iff.1 hi1
          clear hi1
          go_wp2_with fail
          with_reducible refine (place_any A n c _ m d t x.fr w1 hn1 ((HT.out.places.below B1).more B1.size)).mono ?_
          rintro e w2 ⟨rfl, hb2⟩
          have X2 := Lib.hid (X1.out.below hb2 X1.out.lt)
          have T2 := Lib.hid (T1.out.below hb2 T1.out.lt)
          have B2 := B1.trans (hb2.mono B1.size)
          have b2 := b1.trans (hb2.mono b1.size)
          clear hb2 t0 t1 x0 x1 x2 x3 x4 B1 b1
          have t0 := T2.out.cell 0
          have t1 := T2.out.cell 1
          have x1 := X2.out.cell 1
          have x2 := X2.out.cell 2
          have x3 := X2.out.cell 3
          have x4 := X2.out.cell 4
          cases hi2 : memI t.places x.fr with
          | false =>
            have HF : Hid (linkB t z x = false) := by show _ = _; rw [linkB_unf, hi2]; simp
            have hneg := placeI_no hi2
            clear hi2
            go_wp2_with fail
            go_ret
            exact ⟨ret_bool (by rw [HTB.out, HU.out, linksB_drop HX.out, HF.out]; simp), B2⟩
          | true =>
          have HI2 := Lib.hid hi2
          have hpf := placeI_yes hi2
          clear hi2
          go_wp2_with fail
          with_reducible refine (place_any A n c _ m d t x.to w2 hn1 ((HT.out.places.below B2).more B2.size)).mono ?_
          rintro e w3 ⟨rfl, hb3⟩
          have X3 := Lib.hid (X2.out.below hb3 X2.out.lt)
          have T3 := Lib.hid (T2.out.below hb3 T2.out.lt)
          have B3 := B2.trans (hb3.mono B2.size)
          have b3 := b2.trans (hb3.mono b2.size)
          clear hb3 t0 t1 x1 x2 x3 x4 B2 b2
          have x1 := X3.out.cell 1
          have x2 := X3.out.cell 2
          have x3 := X3.out.cell 3
          have x4 := X3.out.cell 4
          cases hi3 : memI t.places x.to with
          | false =>
            have HF : Hid (linkB t z x = false) := by show _ = _; rw [linkB_unf, hi3]; simp
            have hneg := placeI_no hi3
            clear hi3
            go_wp2_with fail
            go_ret
            exact ⟨ret_bool (by rw [HTB.out, HU.out, linksB_drop HX.out, HF.out]; simp), B3⟩
          | true =>
          have HI3 := Lib.hid hi3
          have hpt := placeI_yes hi3
          clear hi3
          by_cases he : x.fr = x.to
          · have HF : Hid (linkB t z x = false) := by show _ = _; rw [linkB_unf, he]; simp
            have he' : (x.fr == x.to) = true := by simpa using he
            clear he
            go_wp2_with fail
            go_ret
            exact ⟨ret_bool (by rw [HTB.out, HU.out, linksB_drop HX.out, HF.out]; simp), B3⟩
          have he2 : (x.fr == x.to) = false := by simpa using he
          have HE := Lib.hid he2
          clear he
          go_wp2_with fail
          with_reducible refine (within_any x.steps 0 500 w3).mono ?_
          rintro e w3 ⟨rfl, rfl⟩
          cases hi4 : inB 0 500 [x.steps] with
          | false =>
            have HF : Hid (linkB t z x = false) := by show _ = _; rw [linkB_unf, hi4]; simp
            clear hi4
            go_wp2_with fail
            go_ret
            exact ⟨ret_bool (by rw [HTB.out, HU.out, linksB_drop HX.out, HF.out]; simp), B3⟩
          | true =>
          have HI4 := Lib.hid hi4
          clear hi4
          go_wp2_with fail
          with_reducible refine (within_any x.paces 1 2000 w3).mono ?_
          rintro e w3 ⟨rfl, rfl⟩
          cases hi5 : inB 1 2000 [x.paces] with
          | false =>
            have HF : Hid (linkB t z x = false) := by show _ = _; rw [linkB_unf, hi5]; simp
            clear hi5
            go_wp2_with fail
            go_ret
            exact ⟨ret_bool (by rw [HTB.out, HU.out, linksB_drop HX.out, HF.out]; simp), B3⟩
          | true =>
          have HF : Hid (linkB t z x = true) := by show _ = _; rw [linkB_unf, HI1.out, HI2.out, HI3.out, HE.out, HI4.out, hi5]; rfl
          have x0 := X3.out.cell 0
          clear hi5
          go_wp2_with fail
          go_roundw
          case rel => exact ⟨k + 1, x.id, by omega, by go_num, rfl, by omega, by omega, by rw [HU.out, linksB_drop HX.out, HF.out]; rfl, b3⟩
          case measure => simp [intOf]; omega
        · go_wp2_with fail
          go_ret
          exact ⟨ret_bool (by rw [HTB.out, HI.out, HUP.out, HU.out, List.drop_eq_nil_of_le (by have := HM.out; omega)]; simp [linksB]; omega), BR⟩
end Go.Proofs.YtahkjagjcogeiaaDoor
