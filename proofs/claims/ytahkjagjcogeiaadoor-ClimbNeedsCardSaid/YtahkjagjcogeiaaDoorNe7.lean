/- Part 7 of the texts of this claim, joined. -/
import Derived.Sort.LoopGhostIn
import Derived.ChangeKeysEq
import Derived.Lib.AppendZeros
import Derived.Shelf.Spec.SlicesInsert
import Derived.Lib.Overlaps
import Derived.Test.YtahkjagjcogeiaaDoorNe6
/- The answer's walked: a list of links followed. -/
namespace Go.Proofs.YtahkjagjcogeiaaDoor
open Go.RowKit Go.Shelf
set_option linter.unusedVariables false

theorem linkI_cases (l : List Link) (id : Int) : (linkI l id = -1 ∧ ∀ x ∈ l, x.id ≠ id) ∨ ∃ (j : Nat) (x : Link), linkI l id = j ∧ l[j]? = some x ∧ x.id = id := by
  unfold linkI idxL
  by_cases h : l.any (fun y => y.id == id) = true
  · right
    rw [if_pos h]
    have hlt : l.findIdx (fun y => y.id == id) < l.length := List.findIdx_lt_length.2 (by simpa using h)
    exact ⟨_, _, rfl, List.getElem?_eq_getElem hlt, by simpa using List.findIdx_getElem (w := hlt)⟩
  · left
    rw [if_neg h]
    refine ⟨rfl, fun x hx e => h (List.any_eq_true.2 ⟨x, hx, by simpa using e⟩)⟩

/-- What is spent up to where a list is no walk. -/
def partC (t : Town) (p : Price) : Int × Cost → List Int → Cost
  | s, [] => s.2
  | s, i :: r => match stepF t p s.1 i with
    | none => s.2
    | some (m, c) => partC t p (m, addC s.2 c) r
def partF (t : Town) (p : Price) (u : Int) (l : List Int) : Cost := if 40 < l.length then zeroC else partC t p (u, zeroC) l
def pairW (t : Town) (p : Price) (s : Int × Cost) (l : List Int) : Option (Int × Cost) × Cost := (walkS t p s l, partC t p s l)
def RWalkedOut (w : World) (r : Option (Int × Cost) × Cost) (e : Ending) (w' : World) : Prop :=
  ∃ (x : Int) (co : Cost), e = .returned (.tuple #[.int .i64 x, costV co, .bool r.1.isSome]) ∧ (∀ q, r.1 = some q → q = (x, co)) ∧ Below w.heap.size w w' ∧ co = r.2 ∧ (r.1 = none → x = 0)

structure RWSt (w : World) (T : Array Value) (p : Price) (co : Cost) (W : World) : Prop where
  bel : Below w.heap.size w W
  tb : Blk W w.heap.size 25 T
  pb : Blk W (w.heap.size + 1) 107 #[.int .i64 p.pace, .int .i64 p.up, .int .i64 p.step]
  rb : Blk W (w.heap.size + 1 + 1) 103 #[.int .i64 0, .int .i64 0, .int .i64 0, .int .i64 0]
  sb : Blk W (w.heap.size + 1 + 1 + 1) 103 #[.int .i64 co.a, .int .i64 co.b, .int .i64 co.c, .int .i64 co.d]
theorem RWSt.below {w W W' : World} {T : Array Value} {p : Price} {co : Cost} (h : RWSt w T p co W) (hb : Below W.heap.size W W') : RWSt w T p co W' :=
  ⟨h.bel.trans (hb.mono h.bel.size), h.tb.below hb h.tb.lt, h.pb.below hb h.pb.lt, h.rb.below hb h.rb.lt, h.sb.below hb h.sb.lt⟩

theorem drop_at' {α : Type} {l : List α} {k : Nat} {x : α} (h : l[k]? = some x) : l.drop k = x :: l.drop (k + 1) := by
  obtain ⟨hk, e⟩ := List.getElem?_eq_some_iff.1 h
  rw [List.drop_eq_getElem_cons hk, e]
/-- A block of four cells written anew. -/
theorem ret4 {w W : World} {B g : Nat} {t : TypeId} {z0 z1 z2 z3 : Value} (R : Blk W g t #[z0, z1, z2, z3]) (L : Below B w W) (hg : B ≤ g) (v0 v1 v2 v3 : Value) :
    Blk ((((W.setCell ⟨g, 0, none⟩ v0).setCell ⟨g, 1, none⟩ v1).setCell ⟨g, 2, none⟩ v2).setCell ⟨g, 3, none⟩ v3) g t #[v0, v1, v2, v3] ∧ Below B w ((((W.setCell ⟨g, 0, none⟩ v0).setCell ⟨g, 1, none⟩ v1).setCell ⟨g, 2, none⟩ v2).setCell ⟨g, 3, none⟩ v3) :=
  ⟨(((R.set_ 0 v0).set_ 1 v1).set_ 2 v2).set_ 3 v3, (((L.setCell (p := ⟨g, 0, none⟩) hg _).setCell (p := ⟨g, 1, none⟩) hg _).setCell (p := ⟨g, 2, none⟩) hg _).setCell (p := ⟨g, 3, none⟩) hg _⟩

theorem RWSt.put {w W : World} {T : Array Value} {p : Price} {co : Cost} (h : RWSt w T p co W) (d : Cost) : RWSt w T p d ((((W.setCell ⟨w.heap.size + 1 + 1 + 1, 0, none⟩ (.int .i64 d.a)).setCell ⟨w.heap.size + 1 + 1 + 1, 1, none⟩ (.int .i64 d.b)).setCell ⟨w.heap.size + 1 + 1 + 1, 2, none⟩ (.int .i64 d.c)).setCell ⟨w.heap.size + 1 + 1 + 1, 3, none⟩ (.int .i64 d.d)) := by
  have X := ret4 (w := W) (B := w.heap.size + 1 + 1 + 1) h.sb (Below.refl _ _) (Nat.le_refl _) (.int .i64 d.a) (.int .i64 d.b) (.int .i64 d.c) (.int .i64 d.d)
  have Y := (ret4 h.sb h.bel (by omega) (.int .i64 d.a) (.int .i64 d.b) (.int .i64 d.c) (.int .i64 d.d)).2
  exact ⟨Y, h.tb.below X.2 (by omega), h.pb.below X.2 (by omega), h.rb.below X.2 (by omega), X.1⟩
theorem rleads_none {W : World} {n : Nat} (x : Link) (v : Int) (p : Price) (hr : leads false p x v = none) (hx : Fit x) (hp : Cheap p) {σ : Type} {of : σ → World} (h1 : ∀ z, Below W.heap.size W (of z)) (h2 : ∀ z W', Below (of z).heap.size (of z) W' → Cls of W') (z : σ) :
    CallsIn Fence.wide n Tryd.prog 112 #[.agg #[.int .i64 x.id, .int .i64 x.fr, .int .i64 x.to, .int .i64 x.steps, .int .i64 x.paces], .int .i64 v, .bool false, .agg #[.int .i64 p.pace, .int .i64 p.up, .int .i64 p.step]] (of z) fun e w'' => e = .returned (.tuple #[.int .i64 0, .agg #[.int .i64 0, .int .i64 0, .int .i64 0, .int .i64 0], .bool false]) ∧ Cls of w'' :=
  (callsIn_wide.2 (leads_any x v false p (of z) hx hp)).mono fun e w'' ⟨he, hb⟩ => ⟨by rw [he, hr]; rfl, h2 z _ hb⟩
theorem rleads_some {W : World} {n : Nat} (x : Link) (v : Int) (p : Price) (v' : Int) (cx : Cost) (hr : leads false p x v = some (v', cx)) (hx : Fit x) (hp : Cheap p) {σ : Type} {of : σ → World} (h1 : ∀ z, Below W.heap.size W (of z)) (h2 : ∀ z W', Below (of z).heap.size (of z) W' → Cls of W') (z : σ) :
    CallsIn Fence.wide n Tryd.prog 112 #[.agg #[.int .i64 x.id, .int .i64 x.fr, .int .i64 x.to, .int .i64 x.steps, .int .i64 x.paces], .int .i64 v, .bool false, .agg #[.int .i64 p.pace, .int .i64 p.up, .int .i64 p.step]] (of z) fun e w'' => e = .returned (.tuple #[.int .i64 v', .agg #[.int .i64 cx.a, .int .i64 cx.b, .int .i64 cx.c, .int .i64 cx.d], .bool true]) ∧ Cls of w'' :=
  (callsIn_wide.2 (leads_any x v false p (of z) hx hp)).mono fun e w'' ⟨he, hb⟩ => ⟨by rw [he, hr]; rfl, h2 z _ hb⟩

set_option maxRecDepth 100000 in
set_option maxHeartbeats 8000000 in
theorem rwalked_in (A : Option Addr) (n c : Nat) (A' : Option Addr) (m d : Nat) (p : Price) (t : Town) (place : Int) (A2 : Option Addr) (k2 c2 : Nat) (l : List Int) (w : World)
    (hm : m ≤ 1000) (hk2 : k2 ≤ 1000) (ht : LinksAt w w.heap.size A' m t.links) (hp : Cheap p) (hfine : Fine t) (hfair : Fair p) (hr : IntsAt w w.heap.size A2 k2 l) :
    CallsIn Fence.wide 9 Tryd.prog 54 #[.agg #[.slice A n c, .slice A' m d], .int .i64 place, .slice A2 k2 c2, .agg #[.int .i64 p.pace, .int .i64 p.up, .int .i64 p.step]] w (RWalkedOut w (walkedF t p place l, partF t p place l)) := by
  have HT := Lib.hid ht
  have HP := Lib.hid hp
  have HR := Lib.hid hr
  have HLl := Lib.hid hr.len
  have HFI := Lib.hid hfine
  have HFA := Lib.hid hfair
  have HLm := Lib.hid ht.len
  have hmx : m ≤ maxLen := by unfold maxLen; omega
  clear ht hp hr hfine hfair
  refine callsIn_of_wp Tryd.func54 rfl trivial ?_ rfl
  simp only [Tryd.ntmps54, List.size_toArray, List.length_cons, List.length_nil, Nat.reduceAdd, Nat.reduceSub, Array.replicate_succ, Array.replicate_zero, List.push_toArray, List.append_toArray, List.nil_append, List.cons_append]
  have S0 : RWSt w #[.slice A n c, .slice A' m d] p zeroC ((((w.alloc (.cells #[.slice A n c, .slice A' m d] 25)).alloc (.cells #[.int .i64 p.pace, .int .i64 p.up, .int .i64 p.step] 107)).alloc (.cells #[.int .i64 0, .int .i64 0, .int .i64 0, .int .i64 0] 103)).alloc (.cells #[.int .i64 0, .int .i64 0, .int .i64 0, .int .i64 0] 103)) := by
    have b := ((((Below.refl w.heap.size w).alloc (Nat.le_refl _) (.cells #[.slice A n c, .slice A' m d] 25)).alloc (by simp) (.cells #[.int .i64 p.pace, .int .i64 p.up, .int .i64 p.step] 107)).alloc (by simp; omega) (.cells #[.int .i64 0, .int .i64 0, .int .i64 0, .int .i64 0] 103)).alloc (by simp; omega) (.cells #[.int .i64 0, .int .i64 0, .int .i64 0, .int .i64 0] 103)
    have X := (((Blk.new w 25 #[.slice A n c, .slice A' m d]).alloc (.cells #[.int .i64 p.pace, .int .i64 p.up, .int .i64 p.step] 107)).alloc (.cells #[.int .i64 0, .int .i64 0, .int .i64 0, .int .i64 0] 103)).alloc (.cells #[.int .i64 0, .int .i64 0, .int .i64 0, .int .i64 0] 103)
    have Y := ((Blk.new (w.alloc (.cells #[.slice A n c, .slice A' m d] 25)) 107 #[.int .i64 p.pace, .int .i64 p.up, .int .i64 p.step]).alloc (.cells #[.int .i64 0, .int .i64 0, .int .i64 0, .int .i64 0] 103)).alloc (.cells #[.int .i64 0, .int .i64 0, .int .i64 0, .int .i64 0] 103)
    have U := (Blk.new ((w.alloc (.cells #[.slice A n c, .slice A' m d] 25)).alloc (.cells #[.int .i64 p.pace, .int .i64 p.up, .int .i64 p.step] 107)) 103 #[.int .i64 0, .int .i64 0, .int .i64 0, .int .i64 0]).alloc (.cells #[.int .i64 0, .int .i64 0, .int .i64 0, .int .i64 0] 103)
    have V := Blk.new (((w.alloc (.cells #[.slice A n c, .slice A' m d] 25)).alloc (.cells #[.int .i64 p.pace, .int .i64 p.up, .int .i64 p.step] 107)).alloc (.cells #[.int .i64 0, .int .i64 0, .int .i64 0, .int .i64 0] 103)) 103 #[.int .i64 0, .int .i64 0, .int .i64 0, .int .i64 0]
    rw [World.size_alloc] at Y
    rw [World.size_alloc, World.size_alloc] at U
    rw [World.size_alloc, World.size_alloc, World.size_alloc] at V
    exact ⟨b, X, Y, U, V⟩
  by_cases h40 : (40 : Int) < (k2 : Int)
  · have HN : Hid ((walkedF t p place l, partF t p place l) = (none, zeroC)) := Lib.hid (by unfold walkedF partF; rw [if_pos (by rw [HLl.out]; omega), if_pos (by rw [HLl.out]; omega)])
    have HS0 := Lib.hid S0
    clear S0
    gi_wp2
    gi_region
    all_goals
      gi_wp2
      refine bodyPost_ret (v := .tuple #[.int .i64 0, costV zeroC, .bool false]) (by simp [results, Tryd.results54, go_sem, zeroC]) rfl ?_
      rw [HN.out]
      exact ⟨0, zeroC, rfl, (fun q hq => by cases hq), below_drewN HS0.out.bel 1, rfl, fun _ => rfl⟩
  · have h40' : decide ((40 : Int) < (k2 : Int)) = false := by simp; omega
    have HWF : Hid ((walkedF t p place l, partF t p place l) = pairW t p (place, zeroC) l) := Lib.hid (by unfold walkedF partF pairW; rw [if_neg (by rw [HLl.out]; omega), if_neg (by rw [HLl.out]; omega)])
    have HS0 := Lib.hid S0
    clear S0 h40
    gi_wp2
    generalize ((((w.alloc (.cells #[.slice A n c, .slice A' m d] 25)).alloc (.cells #[.int .i64 p.pace, .int .i64 p.up, .int .i64 p.step] 107)).alloc (.cells #[.int .i64 0, .int .i64 0, .int .i64 0, .int .i64 0] 103)).alloc (.cells #[.int .i64 0, .int .i64 0, .int .i64 0, .int .i64 0] 103)) = w0 at *
    gi_loopw [1, 24] (fun vf vi wr => ∃ (k : Nat) (at_ : Int) (co : Cost), k ≤ k2 ∧ vi = .int .i64 k ∧ vf = .int .i64 at_ ∧ Hid (RWSt w #[.slice A n c, .slice A' m d] p co wr ∧ Walk t false p place at_ co (l.take k) ∧ pairW t p (at_, co) (l.drop k) = pairW t p (place, zeroC) l)) (fun _ vi _ => k2 - (intOf vi).toNat)
    case atStart => exact ⟨0, place, zeroC, Nat.zero_le _, rfl, rfl, Lib.hid ⟨HS0.out, .nil _, rfl⟩⟩
    case round =>
      obtain ⟨k, at_, co, hk, rfl, rfl, HS⟩ := hrel
      have s0 := HS.out.1.sb.cell 0
      have s1 := HS.out.1.sb.cell 1
      have s2 := HS.out.1.sb.cell 2
      have s3 := HS.out.1.sb.cell 3
      have r0 := HS.out.1.rb.cell 0
      have r1 := HS.out.1.rb.cell 1
      have r2 := HS.out.1.rb.cell 2
      have r3 := HS.out.1.rb.cell 3
      have z0 := HS.out.1.rb.frozen 0
      have z1 := HS.out.1.rb.frozen 1
      have z2 := HS.out.1.rb.frozen 2
      have z3 := HS.out.1.rb.frozen 3
      by_cases hlt : k < k2
      · obtain ⟨b, off, id, rfl, hb, hid, hcell⟩ := (HR.out.below HS.out.1.bel).cell hlt
        have hbl : b < wr.heap.size := Nat.lt_of_lt_of_le hb HS.out.1.bel.size
        have t0 := HS.out.1.tb.cell 0
        have t1 := HS.out.1.tb.cell 1
        have HID := Lib.hid hid
        clear hid hb
        gi_wp2
        rcases linkI_cases t.links id with ⟨hli, hno⟩ | ⟨jj, x, hli, hx, hxi⟩
        · have H := link_any A n c A' m d t id wr hmx ((HT.out.below HS.out.1.bel).more HS.out.1.bel.size)
          rw [hli] at H
          have HH := Lib.hid H
          have HNO : Hid (pairW t p (place, zeroC) l = (none, co)) := Lib.hid (by
            rw [← HS.out.2.2, drop_at' HID.out]
            simp only [pairW, walkS, partC]
            rw [show stepF t p at_ id = none by
              unfold stepF
              rw [List.findSome?_eq_none_iff]
              intro y hy
              rw [if_neg (hno y hy)]])
          clear H hli hno
          refine ⟨trivial, (callsIn_wide.2 HH.out).mono ?_⟩
          rintro e w1 ⟨rfl, hb1⟩
          have HS1 := Lib.hid (HS.out.1.below hb1)
          clear hb1 s0 s1 s2 s3 r0 r1 r2 r3 z0 z1 z2 z3 t0 t1
          have s0 := HS1.out.sb.cell 0
          have s1 := HS1.out.sb.cell 1
          have s2 := HS1.out.sb.cell 2
          have s3 := HS1.out.sb.cell 3
          have r0 := HS1.out.rb.cell 0
          have r1 := HS1.out.rb.cell 1
          have r2 := HS1.out.rb.cell 2
          have r3 := HS1.out.rb.cell 3
          have z0 := HS1.out.rb.frozen 0
          have z1 := HS1.out.rb.frozen 1
          have z2 := HS1.out.rb.frozen 2
          have z3 := HS1.out.rb.frozen 3
          gi_wp2
          gi_region
          all_goals
            gi_wp2
            have R4 := ret4 (w := w) HS1.out.rb (HS1.out.bel) (by omega) (.int .i64 co.a) (.int .i64 co.b) (.int .i64 co.c) (.int .i64 co.d)
            have y0 := R4.1.cell 0
            have y1 := R4.1.cell 1
            have y2 := R4.1.cell 2
            have y3 := R4.1.cell 3
            refine bodyPost_ret (v := .tuple #[.int .i64 0, costV co, .bool false]) (by simp [results, Tryd.results54, go_sem, y0, y1, y2, y3]) rfl ?_
            rw [HWF.out, HNO.out]
            exact ⟨0, co, rfl, (fun q hq => by first | cases hq; rfl | cases hq), below_drewN R4.2 1, rfl, fun _ => rfl⟩
        · have H := link_any A n c A' m d t id wr hmx ((HT.out.below HS.out.1.bel).more HS.out.1.bel.size)
          rw [hli] at H
          have HH := Lib.hid H
          have hjm : jj < m := by have := (List.getElem?_eq_some_iff.1 hx).1; have := HLm.out; omega
          have HX := Lib.hid hx
          have HXI := Lib.hid hxi
          clear H hli hx hxi
          refine ⟨trivial, (callsIn_wide.2 HH.out).mono ?_⟩
          rintro e w1 ⟨rfl, hb1⟩
          have HS1 := Lib.hid (HS.out.1.below hb1)
          clear hb1 s0 s1 s2 s3 r0 r1 r2 r3 z0 z1 z2 z3 t0 t1
          have HXM : Hid (x ∈ t.links) := Lib.hid (List.mem_of_getElem? HX.out)
          have HFit : Hid (Fit x) := Lib.hid ⟨HFI.out.steps x HXM.out, HFI.out.paces x HXM.out⟩
          have HLT := Lib.hid (HT.out.below HS1.out.bel)
          obtain ⟨b2, off2, x', hA', hb2, hx', _⟩ := HLT.out.cell hjm
          subst hA'
          obtain rfl : x' = x := Option.some.inj (hx'.symm.trans HX.out)
          have hb2l : b2 < w1.heap.size := Nat.lt_of_lt_of_le hb2 HS1.out.bel.size
          clear hx' hb2
          have hjI : (0 : Int) ≤ (jj : Int) ∧ (jj : Int) < (m : Int) := by omega
          have hcells : Hid (∀ W, Below w1.heap.size w1 W → W.cell? ⟨b2, off2 + jj * 5, none⟩ = some (.int .i64 x'.id) ∧ W.cell? ⟨b2, off2 + jj * 5 + 1, none⟩ = some (.int .i64 x'.fr) ∧ W.cell? ⟨b2, off2 + jj * 5 + 2, none⟩ = some (.int .i64 x'.to) ∧ W.cell? ⟨b2, off2 + jj * 5 + 3, none⟩ = some (.int .i64 x'.steps) ∧ W.cell? ⟨b2, off2 + jj * 5 + 4, none⟩ = some (.int .i64 x'.paces)) := Lib.hid (fun W hb => by
            obtain ⟨b3, o3, y, e, _, hy, h⟩ := ((HLT.out.more HS1.out.bel.size).below hb).cell hjm
            cases e
            obtain rfl : y = x' := Option.some.inj (hy.symm.trans HX.out)
            exact h)
          have HDR : Hid (pairW t p (place, zeroC) l = (match leads false p x' at_ with | none => (none, co) | some y => pairW t p (y.1, addC co y.2) (l.drop (k + 1)))) := Lib.hid (by
            rw [← HS.out.2.2, drop_at' HID.out]
            simp only [pairW, walkS, partC]
            rw [← HXI.out, stepF_leads HFI.out.ids HXM.out]
            rcases leads false p x' at_ with _ | ⟨a1, a2⟩ <;> rfl)
          gi_wp2
          rcases hld : leads false p x' at_ with _ | ⟨v, cx⟩
          · have HLD := Lib.hid hld
            clear hld
            refine wpIn_region_new (AF := ?AF) (fun b => .pointer (some ⟨b, 0, none⟩)) 103 #[.int .i64 0, .int .i64 0, .int .i64 0, .int .i64 0] [0, 1, 2, 3, 4, 5, 6, 7, 8, 9, 10, 11, 13, 15] [14] 12 [true, true, true, true, true, true, true, true, true, true, true, true, false, true, false, true] [false, false, false, false, false, false, false, false, false, false, false, false, false, false, true, false] (by kernel_rfl) (by kernel_rfl) (by kernel_rfl) (by kernel_rfl) (by kernel_rfl) (below_drewN (Below.refl _ _) 1) rfl rfl rfl ?hq ?hf ?ht
            case hq =>
              rintro σ hσ of hof hcl
              have HOF := Lib.hid hof
              have HCL := Lib.hid hcl
              clear hof hcl
              have l0 : ∀ z, (of z).cell? ⟨b2, off2 + jj * 5, none⟩ = some (.int .i64 x'.id) := fun z => (hcells.out _ (HOF.out z)).1
              have l1 : ∀ z, (of z).cell? ⟨b2, off2 + jj * 5 + 1, none⟩ = some (.int .i64 x'.fr) := fun z => (hcells.out _ (HOF.out z)).2.1
              have l2 : ∀ z, (of z).cell? ⟨b2, off2 + jj * 5 + 2, none⟩ = some (.int .i64 x'.to) := fun z => (hcells.out _ (HOF.out z)).2.2.1
              have l3 : ∀ z, (of z).cell? ⟨b2, off2 + jj * 5 + 3, none⟩ = some (.int .i64 x'.steps) := fun z => (hcells.out _ (HOF.out z)).2.2.2.1
              have l4 : ∀ z, (of z).cell? ⟨b2, off2 + jj * 5 + 4, none⟩ = some (.int .i64 x'.paces) := fun z => (hcells.out _ (HOF.out z)).2.2.2.2
              have t0 : ∀ z, (of z).cell? ⟨w.heap.size, 0, none⟩ = some (.slice A n c) := fun z => (HS1.out.tb.below (HOF.out z) HS1.out.tb.lt).cell 0
              have t1 : ∀ z, (of z).cell? ⟨w.heap.size, 1, none⟩ = some (.slice (some ⟨b2, off2, none⟩) m d) := fun z => (HS1.out.tb.below (HOF.out z) HS1.out.tb.lt).cell 1
              have p0 : ∀ z, (of z).cell? ⟨w.heap.size + 1, 0, none⟩ = some (.int .i64 p.pace) := fun z => (HS1.out.pb.below (HOF.out z) HS1.out.pb.lt).cell 0
              have p1 : ∀ z, (of z).cell? ⟨w.heap.size + 1, 1, none⟩ = some (.int .i64 p.up) := fun z => (HS1.out.pb.below (HOF.out z) HS1.out.pb.lt).cell 1
              have p2 : ∀ z, (of z).cell? ⟨w.heap.size + 1, 2, none⟩ = some (.int .i64 p.step) := fun z => (HS1.out.pb.below (HOF.out z) HS1.out.pb.lt).cell 2
              have hfw : ∀ f, Fence.wide.fn f := fun _ => trivial
              simp only [pickB]
              repeat (gi_big_quiet_step (exact rleads_none x' at_ p HLD.out HFit.out HP.out HOF.out HCL.out _))
              refine wpQuietIn_nil ?_
              exact rfl
            case hf =>
              intro W hb
              exact ⟨fun f hf => trivial, rfl⟩
            case ht =>
              intro b W hb hbb hR
              have HB := Lib.hid hb
              have HBB := Lib.hid hbb
              have HR4 := Lib.hid hR
              have hbl1 := hR.lt
              have c0 := hR.cell 0
              have c1 := hR.cell 1
              have c2 := hR.cell 2
              have c3 := hR.cell 3
              have d0 := hR.frozen 0
              have d1 := hR.frozen 1
              have d2 := hR.frozen 2
              have d3 := hR.frozen 3
              clear hb hbb hR
              simp only [pickB]
              refine wpE_cons ?_
              gi_wp2
              have R5 := Lib.hid (ret4 HR4.out HB.out HBB.out (.int .i64 0) (.int .i64 0) (.int .i64 0) (.int .i64 0))
              refine ⟨R5.out.2, wpE_nil ?_⟩
              have HW5 := Lib.hid (HS1.out.below R5.out.2)
              generalize (((W.setCell ⟨b, 0, none⟩ (.int .i64 0)).setCell ⟨b, 1, none⟩ (.int .i64 0)).setCell ⟨b, 2, none⟩ (.int .i64 0)).setCell ⟨b, 3, none⟩ (.int .i64 0) = W5 at *
              clear c0 c1 c2 c3 d0 d1 d2 d3
              have hbl5 := R5.out.1.lt
              have s0 := HW5.out.sb.cell 0
              have s1 := HW5.out.sb.cell 1
              have s2 := HW5.out.sb.cell 2
              have s3 := HW5.out.sb.cell 3
              have r0 := HW5.out.rb.cell 0
              have r1 := HW5.out.rb.cell 1
              have r2 := HW5.out.rb.cell 2
              have r3 := HW5.out.rb.cell 3
              have z0 := HW5.out.rb.frozen 0
              have z1 := HW5.out.rb.frozen 1
              have z2 := HW5.out.rb.frozen 2
              have z3 := HW5.out.rb.frozen 3
              gi_wp2
              gi_region
              all_goals
                gi_wp2
                have R4 := ret4 (w := w) HW5.out.rb (HW5.out.bel) (by omega) (.int .i64 co.a) (.int .i64 co.b) (.int .i64 co.c) (.int .i64 co.d)
                have y0 := R4.1.cell 0
                have y1 := R4.1.cell 1
                have y2 := R4.1.cell 2
                have y3 := R4.1.cell 3
                refine bodyPost_ret (v := .tuple #[.int .i64 0, costV co, .bool false]) (by simp [results, Tryd.results54, go_sem, y0, y1, y2, y3]) rfl ?_
                rw [HWF.out, HDR.out, HLD.out]
                exact ⟨0, co, rfl, (fun q hq => by cases hq), below_drewN R4.2 1, rfl, fun _ => rfl⟩
          · have HLD := Lib.hid hld
            clear hld
            refine wpIn_region_new (AF := ?AF2) (fun b => .pointer (some ⟨b, 0, none⟩)) 103 #[.int .i64 0, .int .i64 0, .int .i64 0, .int .i64 0] [0, 1, 2, 3, 4, 5, 6, 7, 8, 9, 10, 11, 13, 15] [14] 12 [true, true, true, true, true, true, true, true, true, true, true, true, false, true, false, true] [false, false, false, false, false, false, false, false, false, false, false, false, false, false, true, false] (by kernel_rfl) (by kernel_rfl) (by kernel_rfl) (by kernel_rfl) (by kernel_rfl) (below_drewN (Below.refl _ _) 1) rfl rfl rfl ?hq2 ?hf2 ?ht2
            case hq2 =>
              rintro σ hσ of hof hcl
              have HOF := Lib.hid hof
              have HCL := Lib.hid hcl
              clear hof hcl
              have l0 : ∀ z, (of z).cell? ⟨b2, off2 + jj * 5, none⟩ = some (.int .i64 x'.id) := fun z => (hcells.out _ (HOF.out z)).1
              have l1 : ∀ z, (of z).cell? ⟨b2, off2 + jj * 5 + 1, none⟩ = some (.int .i64 x'.fr) := fun z => (hcells.out _ (HOF.out z)).2.1
              have l2 : ∀ z, (of z).cell? ⟨b2, off2 + jj * 5 + 2, none⟩ = some (.int .i64 x'.to) := fun z => (hcells.out _ (HOF.out z)).2.2.1
              have l3 : ∀ z, (of z).cell? ⟨b2, off2 + jj * 5 + 3, none⟩ = some (.int .i64 x'.steps) := fun z => (hcells.out _ (HOF.out z)).2.2.2.1
              have l4 : ∀ z, (of z).cell? ⟨b2, off2 + jj * 5 + 4, none⟩ = some (.int .i64 x'.paces) := fun z => (hcells.out _ (HOF.out z)).2.2.2.2
              have t0 : ∀ z, (of z).cell? ⟨w.heap.size, 0, none⟩ = some (.slice A n c) := fun z => (HS1.out.tb.below (HOF.out z) HS1.out.tb.lt).cell 0
              have t1 : ∀ z, (of z).cell? ⟨w.heap.size, 1, none⟩ = some (.slice (some ⟨b2, off2, none⟩) m d) := fun z => (HS1.out.tb.below (HOF.out z) HS1.out.tb.lt).cell 1
              have p0 : ∀ z, (of z).cell? ⟨w.heap.size + 1, 0, none⟩ = some (.int .i64 p.pace) := fun z => (HS1.out.pb.below (HOF.out z) HS1.out.pb.lt).cell 0
              have p1 : ∀ z, (of z).cell? ⟨w.heap.size + 1, 1, none⟩ = some (.int .i64 p.up) := fun z => (HS1.out.pb.below (HOF.out z) HS1.out.pb.lt).cell 1
              have p2 : ∀ z, (of z).cell? ⟨w.heap.size + 1, 2, none⟩ = some (.int .i64 p.step) := fun z => (HS1.out.pb.below (HOF.out z) HS1.out.pb.lt).cell 2
              have hfw : ∀ f, Fence.wide.fn f := fun _ => trivial
              simp only [pickB]
              repeat (gi_big_quiet_step (exact rleads_some x' at_ p v cx HLD.out HFit.out HP.out HOF.out HCL.out _))
              refine wpQuietIn_nil ?_
              exact rfl
            case hf2 =>
              intro W hb
              exact ⟨fun f hf => trivial, rfl⟩
            case ht2 =>
              intro b W hb hbb hR
              have HB := Lib.hid hb
              have HBB := Lib.hid hbb
              have HR4 := Lib.hid hR
              have hbl1 := hR.lt
              have c0 := hR.cell 0
              have c1 := hR.cell 1
              have c2 := hR.cell 2
              have c3 := hR.cell 3
              have d0 := hR.frozen 0
              have d1 := hR.frozen 1
              have d2 := hR.frozen 2
              have d3 := hR.frozen 3
              clear hb hbb hR
              simp only [pickB]
              refine wpE_cons ?_
              gi_wp2
              have R5 := Lib.hid (ret4 HR4.out HB.out HBB.out (.int .i64 cx.a) (.int .i64 cx.b) (.int .i64 cx.c) (.int .i64 cx.d))
              refine ⟨R5.out.2, wpE_nil ?_⟩
              have HW5 := Lib.hid (HS1.out.below R5.out.2)
              generalize (((W.setCell ⟨b, 0, none⟩ (.int .i64 cx.a)).setCell ⟨b, 1, none⟩ (.int .i64 cx.b)).setCell ⟨b, 2, none⟩ (.int .i64 cx.c)).setCell ⟨b, 3, none⟩ (.int .i64 cx.d) = W5 at *
              clear c0 c1 c2 c3 d0 d1 d2 d3
              have hbl5 := R5.out.1.lt
              have s0 := HW5.out.sb.cell 0
              have s1 := HW5.out.sb.cell 1
              have s2 := HW5.out.sb.cell 2
              have s3 := HW5.out.sb.cell 3
              have r0 := HW5.out.rb.cell 0
              have r1 := HW5.out.rb.cell 1
              have r2 := HW5.out.rb.cell 2
              have r3 := HW5.out.rb.cell 3
              have z0 := HW5.out.rb.frozen 0
              have z1 := HW5.out.rb.frozen 1
              have z2 := HW5.out.rb.frozen 2
              have z3 := HW5.out.rb.frozen 3
              have HLC := Lib.hid (leads_cost HXM.out HFI.out HFA.out HLD.out)
              have HSM : Hid (Small co ∧ Small cx) := Lib.hid ⟨by
                have h1 := HS.out.2.1.bound HFI.out HFA.out
                have h2 : (l.take k).length ≤ 40 := by
                  rw [List.length_take]
                  have := of_decide_eq_false h40'
                  omega
                exact ⟨by omega, by omega, by omega, by omega⟩, by
                have h1 := HLC.out
                exact ⟨by omega, by omega, by omega, by omega⟩⟩
              have b0 := R5.out.1.cell 0
              have b1 := R5.out.1.cell 1
              have b2 := R5.out.1.cell 2
              have b3 := R5.out.1.cell 3
              gi_wp2
              refine ⟨trivial, (callsIn_wide.2 (rplus_any co cx _ HSM.out.1 HSM.out.2)).mono ?_⟩
              rintro e w6 ⟨rfl, hb6⟩
              clear s0 s1 s2 s3 r0 r1 r2 r3 z0 z1 z2 z3 b0 b1 b2 b3
              have HW6 := Lib.hid (HW5.out.below hb6)
              clear hb6
              have s0 := HW6.out.sb.cell 0
              have s1 := HW6.out.sb.cell 1
              have s2 := HW6.out.sb.cell 2
              have s3 := HW6.out.sb.cell 3
              have z0 := HW6.out.sb.frozen 0
              have z1 := HW6.out.sb.frozen 1
              have z2 := HW6.out.sb.frozen 2
              have z3 := HW6.out.sb.frozen 3
              unfold costV
              gi_wp2
              have e1 : ((k + 1 : Nat) : Int) = (k : Int) + 1 := by omega
              have hkl : k < l.length := by rw [HLl.out]; exact hlt
              refine ⟨⟨k + 1, v, addC co cx, by omega, by rw [e1], rfl, Lib.hid ⟨HW6.out.put (addC co cx), ?_, ?_⟩⟩, ?_⟩
              · have h := HS.out.2.1.snoc HXM.out HLD.out
                rw [List.take_add_one, HID.out, ← HXI.out]
                exact h
              · rw [HDR.out, HLD.out]
              · simp [intOf]; omega
      · obtain rfl : k = k2 := by omega
        have HNO : Hid (pairW t p (place, zeroC) l = (some (at_, co), co)) := Lib.hid (by
          rw [← HS.out.2.2, List.drop_of_length_le (by rw [HLl.out]; exact Nat.le_refl _)]
          rfl)
        gi_wp2
        gi_region
        all_goals
          gi_wp2
          have R4 := ret4 (w := w) HS.out.1.rb (HS.out.1.bel) (by omega) (.int .i64 co.a) (.int .i64 co.b) (.int .i64 co.c) (.int .i64 co.d)
          have y0 := R4.1.cell 0
          have y1 := R4.1.cell 1
          have y2 := R4.1.cell 2
          have y3 := R4.1.cell 3
          refine bodyPost_ret (v := .tuple #[.int .i64 at_, costV co, .bool true]) (by simp [results, Tryd.results54, go_sem, y0, y1, y2, y3]) rfl ?_
          rw [HWF.out, HNO.out]
          exact ⟨at_, co, rfl, (fun q hq => by first | cases hq; rfl | cases hq), below_drewN R4.2 1, rfl, fun h => by cases h⟩

theorem rwalked_any (A : Option Addr) (n c : Nat) (A' : Option Addr) (m d : Nat) (p : Price) (t : Town) (place : Int) (A2 : Option Addr) (k2 c2 : Nat) (l : List Int) (w : World)
    (hm : m ≤ 1000) (hk2 : k2 ≤ 1000) (ht : LinksAt w w.heap.size A' m t.links) (hp : Cheap p) (hfine : Fine t) (hfair : Fair p) (hr : IntsAt w w.heap.size A2 k2 l) :
    Calls Tryd.prog 54 #[.agg #[.slice A n c, .slice A' m d], .int .i64 place, .slice A2 k2 c2, .agg #[.int .i64 p.pace, .int .i64 p.up, .int .i64 p.step]] w (RWalkedOut w (walkedF t p place l, partF t p place l)) :=
  callsIn_wide.1 (rwalked_in A n c A' m d p t place A2 k2 c2 l w hm hk2 ht hp hfine hfair hr)
end Go.Proofs.YtahkjagjcogeiaaDoor
/- The answer's costs: Bellman and Ford. -/
namespace Go.Proofs.YtahkjagjcogeiaaDoor
open Go.RowKit Go.Shelf
set_option linter.unusedVariables false

theorem wpListIn_make_all {F : Fence} {nn : Nat} {P : Program} {w : World} {ops : Array Oper} {rest : List Oper} {o : Oper} {a : Act} {Q : Exit → Act → World → Prop} (hgd : o.guard = none) (l c : Operand) (t : TypeId) (ho : o.op = .makeSlice t l c)
    (e : TypeId) (i : TypeInfo) (z : Value) (h1 : P.underlying t = some (.slice e)) (h2 : P.info? e = some i) (h3 : i.zero = some z) (n : Nat) (hl : a.eval l = .int .i64 n) (hc : a.eval c = .int .i64 n) (hb : i.bytes * n ≤ 140737488355328) (hn : n ≤ maxLen)
    (h : wpListIn F nn P ops Q rest (a.put o.dst (.slice (some ⟨w.heap.size, 0, none⟩) n n)) (w.alloc (.cells (madeCells z.cells (n * i.size)) e))) :
    wpListIn F nn P ops Q (o :: rest) a w := by
  have h63' : (n : Int) ≤ 9223372036854775807 := by
    have h := hn
    simp [maxLen] at h
    omega
  have hb' : (i.bytes : Int) * (n : Int) ≤ 281474976710656 := by
    rw [← Int.natCast_mul]
    omega
  refine wpListIn_plain hgd fun K hK => ?_
  have hr := run_make (P := P) w t e i z h1 h2 h3 .i64 .i64 n n (by omega) (Int.le_refl _) hb' h63'
  simp only [Int.toNat_natCast] at hr
  unfold Oper.wpIn
  refine ⟨?_, ?_⟩
  · simp [Oper.about, ho]
  · rw [Oper.semAt_plain F _ _ (by rw [ho]; intro c hc'; cases hc')]
    simp [execOp, ho, hl, hc, hr, Result.andThen]
    exact hK _ _ h

theorem info_rcost : (Tryd.prog.info? 103).map (fun i => (i.zero, i.size, i.bytes)) = some (some (.agg #[.int .i64 0, .int .i64 0, .int .i64 0, .int .i64 0]), 4, 32) := by kernel_rfl

structure RCSt (w : World) (T : Array Value) (p : Price) (E : List (Option Cost)) (W : World) : Prop where
  bel : Below w.heap.size w W
  tb : Blk W w.heap.size 25 T
  pb : Blk W (w.heap.size + 1) 107 #[.int .i64 p.pace, .int .i64 p.up, .int .i64 p.step]
  eb : Blk W (w.heap.size + 1 + 1) 103 (eVals E).toArray
section
variable {w W W' : World} {T : Array Value} {p : Price} {E : List (Option Cost)}
theorem RCSt.below (h : RCSt w T p E W) (hb : Below W.heap.size W W') : RCSt w T p E W' :=
  ⟨h.bel.trans (hb.mono h.bel.size), h.tb.below hb h.tb.lt, h.pb.below hb h.pb.lt, h.eb.below hb h.eb.lt⟩
theorem RCSt.cell (h : RCSt w T p E W) {k : Nat} {r : Option Cost} (hk : E[k]? = some r) : W.cell? ⟨w.heap.size + 1 + 1, k * 4, none⟩ = some (.int .i64 (entC r).a) ∧ W.cell? ⟨w.heap.size + 1 + 1, k * 4 + 1, none⟩ = some (.int .i64 (entC r).b) ∧
    W.cell? ⟨w.heap.size + 1 + 1, k * 4 + 2, none⟩ = some (.int .i64 (entC r).c) ∧ W.cell? ⟨w.heap.size + 1 + 1, k * 4 + 3, none⟩ = some (.int .i64 (entC r).d) := by
  refine ⟨?_, ?_, ?_, ?_⟩
  · rw [h.eb.cell, List.getElem?_toArray]; exact eVals_at (j := 0) hk (by omega)
  · rw [h.eb.cell, List.getElem?_toArray]; exact eVals_at (j := 1) hk (by omega)
  · rw [h.eb.cell, List.getElem?_toArray]; exact eVals_at (j := 2) hk (by omega)
  · rw [h.eb.cell, List.getElem?_toArray]; exact eVals_at (j := 3) hk (by omega)
theorem RCSt.put (h : RCSt w T p E W) {k : Nat} (hk : k < E.length) (d : Cost) :
    RCSt w T p (E.set k (some d)) ((((W.setCell ⟨w.heap.size + 1 + 1, k * 4, none⟩ (.int .i64 d.a)).setCell ⟨w.heap.size + 1 + 1, k * 4 + 1, none⟩ (.int .i64 d.b)).setCell ⟨w.heap.size + 1 + 1, k * 4 + 2, none⟩ (.int .i64 d.c)).setCell ⟨w.heap.size + 1 + 1, k * 4 + 3, none⟩ (.int .i64 d.d)) := by
  have b := fun {B : Nat} {V : World} (L : Below B V W) (hB : B ≤ w.heap.size + 1 + 1) => (((L.setCell (p := ⟨w.heap.size + 1 + 1, k * 4, none⟩) hB (.int .i64 d.a)).setCell (p := ⟨w.heap.size + 1 + 1, k * 4 + 1, none⟩) hB (.int .i64 d.b)).setCell (p := ⟨w.heap.size + 1 + 1, k * 4 + 2, none⟩) hB (.int .i64 d.c)).setCell (p := ⟨w.heap.size + 1 + 1, k * 4 + 3, none⟩) hB (.int .i64 d.d)
  have l := b (Below.refl (w.heap.size + 1 + 1) W) (Nat.le_refl _)
  refine ⟨b h.bel (by omega), h.tb.below l (by omega), h.pb.below l (by omega), ?_⟩
  have e := (((h.eb.set_ (k * 4) (.int .i64 d.a)).set_ (k * 4 + 1) (.int .i64 d.b)).set_ (k * 4 + 2) (.int .i64 d.c)).set_ (k * 4 + 3) (.int .i64 d.d)
  rw [← eVals_set hk]
  simpa [entC] using e
theorem RCSt.inf (h : RCSt w T p E W) {k : Nat} (hk : E[k]? = some (some zeroC)) : RCSt w T p (E.set k none) (W.setCell ⟨w.heap.size + 1 + 1, k * 4, none⟩ (.int .i64 1000000000)) := by
  have l := (Below.refl (w.heap.size + 1 + 1) W).setCell (p := ⟨w.heap.size + 1 + 1, k * 4, none⟩) (Nat.le_refl _) (.int .i64 1000000000)
  refine ⟨h.bel.setCell (by simp; omega) _, h.tb.below l (by omega), h.pb.below l (by omega), ?_⟩
  have e := h.eb.set_ (k * 4) (.int .i64 1000000000)
  rw [← eVals_inf hk]
  simpa using e
end

theorem dleads_none {W : World} {n : Nat} (x : Link) (v : Int) (dk : Bool) (p : Price) (hr : leads dk p x v = none) (hx : Fit x) (hp : Cheap p) {σ : Type} {of : σ → World} (h1 : ∀ z, Below W.heap.size W (of z)) (h2 : ∀ z W', Below (of z).heap.size (of z) W' → Cls of W') (z : σ) :
    CallsIn Fence.wide n Tryd.prog 112 #[.agg #[.int .i64 x.id, .int .i64 x.fr, .int .i64 x.to, .int .i64 x.steps, .int .i64 x.paces], .int .i64 v, .bool dk, .agg #[.int .i64 p.pace, .int .i64 p.up, .int .i64 p.step]] (of z) fun e w'' => e = .returned (.tuple #[.int .i64 0, .agg #[.int .i64 0, .int .i64 0, .int .i64 0, .int .i64 0], .bool false]) ∧ Cls of w'' :=
  (callsIn_wide.2 (leads_any x v dk p (of z) hx hp)).mono fun e w'' ⟨he, hb⟩ => ⟨by rw [he, hr]; rfl, h2 z _ hb⟩
theorem dleads_some {W : World} {n : Nat} (x : Link) (v : Int) (dk : Bool) (p : Price) (v' : Int) (cx : Cost) (hr : leads dk p x v = some (v', cx)) (hx : Fit x) (hp : Cheap p) {σ : Type} {of : σ → World} (h1 : ∀ z, Below W.heap.size W (of z)) (h2 : ∀ z W', Below (of z).heap.size (of z) W' → Cls of W') (z : σ) :
    CallsIn Fence.wide n Tryd.prog 112 #[.agg #[.int .i64 x.id, .int .i64 x.fr, .int .i64 x.to, .int .i64 x.steps, .int .i64 x.paces], .int .i64 v, .bool dk, .agg #[.int .i64 p.pace, .int .i64 p.up, .int .i64 p.step]] (of z) fun e w'' => e = .returned (.tuple #[.int .i64 v', .agg #[.int .i64 cx.a, .int .i64 cx.b, .int .i64 cx.c, .int .i64 cx.d], .bool true]) ∧ Cls of w'' :=
  (callsIn_wide.2 (leads_any x v dk p (of z) hx hp)).mono fun e w'' ⟨he, hb⟩ => ⟨by rw [he, hr]; rfl, h2 z _ hb⟩

theorem placeI_at {l : List Int} {v : Int} (h : v ∈ l) : ∃ i : Nat, placeI l v = i ∧ l[i]? = some v ∧ i < l.length := by
  have hany : l.any (fun y => y == v) = true := List.any_eq_true.2 ⟨v, h, by simp⟩
  unfold placeI idx
  rw [if_pos hany]
  have hlt : l.findIdx (fun y => y == v) < l.length := List.findIdx_lt_length.2 (by simpa using hany)
  have e : l[l.findIdx (fun y => y == v)] = v := by simpa using List.findIdx_getElem (w := hlt)
  exact ⟨_, rfl, by rw [List.getElem?_eq_getElem hlt, e], hlt⟩
theorem place_cls {W : World} {n' : Nat} (A : Option Addr) (n c : Nat) (A' : Option Addr) (m d : Nat) (t : Town) (id : Int) (i : Nat) (hi : placeI t.places id = i) (hn : n ≤ maxLen) (B : Nat) (hB : B ≤ W.heap.size) (ht : IntsAt W B A n t.places) {σ : Type} {of : σ → World} (h1 : ∀ z, Below W.heap.size W (of z)) (h2 : ∀ z W', Below (of z).heap.size (of z) W' → Cls of W') (z : σ) :
    CallsIn Fence.wide n' Tryd.prog 109 #[.agg #[.slice A n c, .slice A' m d], .int .i64 id] (of z) fun e w'' => e = .returned (.int .i64 (i : Int)) ∧ Cls of w'' :=
  (callsIn_wide.2 (place_any A n c A' m d t id (of z) hn (((ht.more hB).below (h1 z)).more (h1 z).size))).mono fun e w'' ⟨he, hb⟩ => ⟨by rw [he, hi], h2 z _ hb⟩
theorem rplus_cls {W : World} {n : Nat} (x y : Cost) (hx : Small x) (hy : Small y) {σ : Type} {of : σ → World} (h1 : ∀ z, Below W.heap.size W (of z)) (h2 : ∀ z W', Below (of z).heap.size (of z) W' → Cls of W') (z : σ) :
    CallsIn Fence.wide n Tryd.prog 113 #[.agg #[.int .i64 x.a, .int .i64 x.b, .int .i64 x.c, .int .i64 x.d], .agg #[.int .i64 y.a, .int .i64 y.b, .int .i64 y.c, .int .i64 y.d]] (of z) fun e w'' => e = .returned (.agg #[.int .i64 (addC x y).a, .int .i64 (addC x y).b, .int .i64 (addC x y).c, .int .i64 (addC x y).d]) ∧ Cls of w'' :=
  (callsIn_wide.2 (rplus_any x y (of z) hx hy)).mono fun e w'' ⟨he, hb⟩ => ⟨he, h2 z _ hb⟩
theorem rless_cls {W : World} {n : Nat} (x y : Cost) (b : Bool) (hl : lessC x y = b) {σ : Type} {of : σ → World} (h1 : ∀ z, Below W.heap.size W (of z)) (h2 : ∀ z W', Below (of z).heap.size (of z) W' → Cls of W') (z : σ) :
    CallsIn Fence.wide n Tryd.prog 142 #[.agg #[.int .i64 x.a, .int .i64 x.b, .int .i64 x.c, .int .i64 x.d], .agg #[.int .i64 y.a, .int .i64 y.b, .int .i64 y.c, .int .i64 y.d]] (of z) fun e w'' => e = .returned (.bool b) ∧ Cls of w'' :=
  (callsIn_wide.2 (rless_any x y (of z))).mono fun e w'' ⟨he, hb⟩ => ⟨by rw [he, hl], h2 z _ hb⟩
theorem Small.ent {r : Option Cost} (h : ∀ d, r = some d → Little d) : Small (entC r) := by
  cases r with
  | none => exact ⟨by simp [entC, infC], by simp [entC, infC], by simp [entC, infC], by simp [entC, infC]⟩
  | some d =>
    obtain ⟨h1, h2, h3, h4⟩ := h d rfl
    exact ⟨by simp only [entC, Option.getD_some]; omega, by simp only [entC, Option.getD_some]; omega, by simp only [entC, Option.getD_some]; omega, by simp only [entC, Option.getD_some]; omega⟩

def RCostsOut (w : World) (t : Town) (dk : Bool) (p : Price) (to : Int) (n : Nat) (e : Ending) (w' : World) : Prop :=
  ∃ (A : Option Addr) (E : List (Option Cost)), e = .returned (.slice A n n) ∧ EAt w' w'.heap.size A n E ∧ Costs t dk p to E ∧ (∀ (i : Nat) d, E[i]? = some (some d) → Little d) ∧ Below w.heap.size w w'

set_option maxRecDepth 100000 in
set_option maxHeartbeats 16000000 in
theorem rcosts_in (A : Option Addr) (n c : Nat) (A' : Option Addr) (m d : Nat) (p : Price) (t : Town) (dk : Bool) (to : Int) (w : World)
    (hm : m ≤ 20) (ha : IntsAt w w.heap.size A n t.places) (ht : LinksAt w w.heap.size A' m t.links) (hp : Cheap p) (hfine : Fine t) (hfair : Fair p) (hnd : t.places.Nodup) :
    CallsIn Fence.wide 9 Tryd.prog 119 #[.agg #[.slice A n c, .slice A' m d], .int .i64 to, .bool dk, .agg #[.int .i64 p.pace, .int .i64 p.up, .int .i64 p.step]] w (RCostsOut w t dk p to n) := by
  have HT := Lib.hid ht
  have HP := Lib.hid hp
  have HA := Lib.hid ha
  have HFI := Lib.hid hfine
  have HFA := Lib.hid hfair
  have HND := Lib.hid hnd
  have HLm := Lib.hid ht.len
  have HLn := Lib.hid ha.len
  have hn9 : n ≤ 9 := by have := hfine.size; have := ha.len; omega
  obtain ⟨i0, hi, hz0, hz1, hz2⟩ := info_parts info_rcost
  clear ha ht hp hfine hfair hnd
  refine callsIn_of_wp Tryd.func119 rfl trivial ?_ rfl
  simp only [Tryd.ntmps119, List.size_toArray, List.length_cons, List.length_nil, Nat.reduceAdd, Nat.reduceSub, Array.replicate_succ, Array.replicate_zero, List.push_toArray, List.append_toArray, List.nil_append, List.cons_append]
  gi_wp2_with (first | (gi_at_make; refine wpListIn_make_all rfl _ _ 193 rfl 103 i0 _ rfl hi hz0 n rfl rfl (by rw [hz2]; omega) (by unfold maxLen; omega) ?_) | fail)
  have S0 : RCSt w #[.slice A n c, .slice A' m d] p (List.replicate n (some zeroC)) (((w.alloc (.cells #[.slice A n c, .slice A' m d] 25)).alloc (.cells #[.int .i64 p.pace, .int .i64 p.up, .int .i64 p.step] 107)).alloc (.cells (madeCells #[.int .i64 0, .int .i64 0, .int .i64 0, .int .i64 0] (n * 4)) 103)) := by
    have b := (((Below.refl w.heap.size w).alloc (Nat.le_refl _) (.cells #[.slice A n c, .slice A' m d] 25)).alloc (by simp) (.cells #[.int .i64 p.pace, .int .i64 p.up, .int .i64 p.step] 107)).alloc (by simp; omega) (.cells (madeCells #[.int .i64 0, .int .i64 0, .int .i64 0, .int .i64 0] (n * 4)) 103)
    have X := ((Blk.new w 25 #[.slice A n c, .slice A' m d]).alloc (.cells #[.int .i64 p.pace, .int .i64 p.up, .int .i64 p.step] 107)).alloc (.cells (madeCells #[.int .i64 0, .int .i64 0, .int .i64 0, .int .i64 0] (n * 4)) 103)
    have Y := (Blk.new (w.alloc (.cells #[.slice A n c, .slice A' m d] 25)) 107 #[.int .i64 p.pace, .int .i64 p.up, .int .i64 p.step]).alloc (.cells (madeCells #[.int .i64 0, .int .i64 0, .int .i64 0, .int .i64 0] (n * 4)) 103)
    have U := Blk.new ((w.alloc (.cells #[.slice A n c, .slice A' m d] 25)).alloc (.cells #[.int .i64 p.pace, .int .i64 p.up, .int .i64 p.step] 107)) 103 (madeCells #[.int .i64 0, .int .i64 0, .int .i64 0, .int .i64 0] (n * 4))
    rw [World.size_alloc] at Y
    rw [World.size_alloc, World.size_alloc, made_zero] at U
    rw [made_zero] at b X Y ⊢
    exact ⟨b, X, Y, U⟩
  have HS0 := Lib.hid S0
  clear S0
  generalize (((w.alloc (.cells #[.slice A n c, .slice A' m d] 25)).alloc (.cells #[.int .i64 p.pace, .int .i64 p.up, .int .i64 p.step] 107)).alloc (.cells (madeCells #[.int .i64 0, .int .i64 0, .int .i64 0, .int .i64 0] (n * 4)) 103)) = w0 at *
  gi_loopw [10] (fun vi wr => ∃ (k : Nat) (E : List (Option Cost)), k ≤ n ∧ vi = .int .i64 k ∧ Hid (RCSt w #[.slice A n c, .slice A' m d] p E wr ∧ E.length = n ∧ ∀ (i : Nat) v, t.places[i]? = some v → E[i]? = some (if i < k ∧ v ≠ to then none else some zeroC))) (fun vi _ => n - (intOf vi).toNat)
  case atStart =>
    refine ⟨0, _, Nat.zero_le _, rfl, Lib.hid ⟨HS0.out, List.length_replicate, fun i v hv => ?_⟩⟩
    rw [if_neg (by omega), List.getElem?_replicate, if_pos (by have := (List.getElem?_eq_some_iff.1 hv).1; have := HLn.out; omega)]
  case round =>
    obtain ⟨k, E, hk, rfl, HS⟩ := hrel
    have t0 := HS.out.1.tb.cell 0
    have t1 := HS.out.1.tb.cell 1
    by_cases hlt : k < n
    · obtain ⟨b, off, x, rfl, hb, hx, hcell⟩ := (HA.out.below HS.out.1.bel).cell hlt
      have hbl : b < wr.heap.size := Nat.lt_of_lt_of_le hb HS.out.1.bel.size
      have HX := Lib.hid hx
      have HE : Hid (E[k]? = some (some zeroC)) := Lib.hid (by rw [HS.out.2.2 k x hx, if_neg (by omega)])
      have e1 : ((k + 1 : Nat) : Int) = (k : Int) + 1 := by omega
      clear hx hb
      have c0 := (HS.out.1.cell HE.out).1
      have f0 := HS.out.1.eb.frozen (k * 4)
      by_cases hne : x = to
      · have HNE := Lib.hid hne
        subst hne
        gi_wp2
        refine ⟨⟨k + 1, E, by omega, by rw [e1], Lib.hid ⟨HS.out.1, HS.out.2.1, fun i v hv => ?_⟩⟩, by simp [intOf]; omega⟩
        rw [HS.out.2.2 i v hv]
        by_cases hik : i = k
        · subst hik
          rw [HX.out] at hv
          cases hv
          rw [if_neg (by omega), if_neg (fun h => h.2 rfl)]
        · by_cases hik2 : i < k
          · simp [hik2, show i < k + 1 by omega]
          · simp [hik2, show ¬ i < k + 1 by omega]
      · have HNE := Lib.hid hne
        have HSP := Lib.hid (HS.out.1.inf HE.out)
        gi_wp2
        refine ⟨⟨k + 1, E.set k none, by omega, by rw [e1], Lib.hid ⟨HSP.out, by rw [List.length_set]; exact HS.out.2.1, fun i v hv => ?_⟩⟩, by simp [intOf]; omega⟩
        by_cases hik : i = k
        · subst hik
          rw [HX.out] at hv
          cases hv
          rw [if_pos ⟨by omega, HNE.out⟩, List.getElem?_set_self (by rw [HS.out.2.1]; exact hlt)]
        · rw [List.getElem?_set_ne (Ne.symm hik), HS.out.2.2 i v hv]
          by_cases hik2 : i < k
          · simp [hik2, show i < k + 1 by omega]
          · simp [hik2, show ¬ i < k + 1 by omega]
    · obtain rfl : k = n := by omega
      have HE : Hid (BSt t dk p to 0 0 0 0 E) := Lib.hid (BSt.start (by rw [HS.out.2.1, HLn.out]) fun i v hv => by
        have hi' : i < k := by rw [← HLn.out]; exact (List.getElem?_eq_some_iff.1 hv).1
        rw [HS.out.2.2 i v hv]
        by_cases e : v = to
        · rw [if_neg (fun h => h.2 e), if_pos e]
        · rw [if_pos ⟨hi', e⟩, if_neg e])
      have HS1 := Lib.hid HS.out.1
      clear HS
      gi_wp2
      gi_loopg [11] 9 (fun g vc wr => ∃ (ch : Bool) (q M : Nat) (E : List (Option Cost)), vc = .bool ch ∧ (g = if ch then 9 - q else 0) ∧ (ch = true → q ≤ 8) ∧ Hid (RCSt w #[.slice A k c, .slice A' m d] p E wr ∧ BSt t dk p to q 0 0 M E ∧ M ≤ q * 180 ∧ q ≤ 9 ∧ (ch = false → Stable t dk p E k 0)))
      case atStart => exact ⟨true, 0, 0, E, rfl, rfl, fun _ => Nat.zero_le _, Lib.hid ⟨HS1.out, HE.out, Nat.zero_le _, Nat.zero_le _, fun h => by cases h⟩⟩
      case round =>
        obtain ⟨ch, q, M, E1, rfl, hg, hq8, HV⟩ := hrel
        clear HS1 HE
        cases ch with
        | false =>
          gi_wp2
          refine bodyPost_ret (v := .slice (some ⟨w.heap.size + 1 + 1, 0, none⟩) k k) (by simp [results, Tryd.results119, go_sem]) rfl ?_
          have hB := HV.out.2.1
          have hlen : E1.length = k := by rw [hB.len, HLn.out]
          refine ⟨_, E1, rfl, ⟨by rw [eVals_len, hlen], fun h0 => ⟨_, rfl, HV.out.1.eb.lt, fun j u hu => ?_⟩⟩, hB.costs (by rw [HLn.out]; exact HV.out.2.2.2.2 trivial) HFI.out, fun i d hd => hB.little HFI.out HFA.out (by have := HV.out.2.2.1; have := HV.out.2.2.2.1; omega) hd, HV.out.1.bel⟩
          have ha : ((⟨w.heap.size + 1 + 1, 0, none⟩ : Addr).add j) = ⟨w.heap.size + 1 + 1, j, none⟩ := by
            unfold Addr.add
            by_cases hj : j = 0
            · simp [hj]
            · simp [hj]
          rw [ha, HV.out.1.eb.cell, List.getElem?_toArray]
          exact hu
        | true =>
          have hq : q ≤ 8 := hq8 rfl
          have hg' : gk = 9 - q := by simpa using hg
          clear hg hq8
          gi_wp2
          gi_loopw [11, 12] (fun vc vi wr => ∃ (ch : Bool) (i M : Nat) (E : List (Option Cost)), vc = .bool ch ∧ vi = .int .i64 i ∧ i ≤ k ∧ Hid (RCSt w #[.slice A k c, .slice A' m d] p E wr ∧ BSt t dk p to q i 0 M E ∧ M ≤ q * 180 + i * 20 ∧ (ch = false → Stable t dk p E i 0) ∧ (ch = true → q ≤ 7))) (fun _ vi _ => k - (intOf vi).toNat)
          case atStart => exact ⟨false, 0, M, E1, rfl, rfl, Nat.zero_le _, Lib.hid ⟨HV.out.1, HV.out.2.1, by have := HV.out.2.2.1; omega, fun _ i' v hv j' x hx hor => by omega, fun h => by cases h⟩⟩
          case round =>
            obtain ⟨ch, i, M2, E2, rfl, rfl, hik, HW⟩ := hrel
            clear HV
            have t0 := HW.out.1.tb.cell 0
            have t1 := HW.out.1.tb.cell 1
            by_cases hlt : i < k
            · gi_wp2
              gi_loopw [11, 50] (fun vc vj wr => ∃ (ch : Bool) (j M : Nat) (E : List (Option Cost)), vc = .bool ch ∧ vj = .int .i64 j ∧ j ≤ m ∧ Hid (RCSt w #[.slice A k c, .slice A' m d] p E wr ∧ BSt t dk p to q i j M E ∧ M ≤ q * 180 + i * 20 + j ∧ (ch = false → Stable t dk p E i j) ∧ (ch = true → q ≤ 7))) (fun _ vj _ => m - (intOf vj).toNat)
              case atStart => exact ⟨ch, 0, M2, E2, rfl, rfl, Nat.zero_le _, HW⟩
              case round =>
                obtain ⟨ch, j, M3, E3, rfl, rfl, hjm, HU⟩ := hrel
                clear HW
                by_cases hjl : j < m
                · obtain ⟨b, off, x, rfl, hb, hx, l0, l1, l2, l3, l4⟩ := (HT.out.below HU.out.1.bel).cell hjl
                  have hbl : b < wr.heap.size := Nat.lt_of_lt_of_le hb HU.out.1.bel.size
                  have HX := Lib.hid hx
                  clear hx hb t0 t1
                  gi_wp2
                  have HS1 : Hid (RCSt w #[.slice A k c, .slice (some ⟨b, off, none⟩) m d] p E3 (wr.alloc (.cells #[.int .i64 x.id, .int .i64 x.fr, .int .i64 x.to, .int .i64 x.steps, .int .i64 x.paces] 45))) := Lib.hid (HU.out.1.below ((Below.refl _ _).alloc (Nat.le_refl _) _))
                  have HLB : Hid (Blk (wr.alloc (.cells #[.int .i64 x.id, .int .i64 x.fr, .int .i64 x.to, .int .i64 x.steps, .int .i64 x.paces] 45)) wr.heap.size 45 #[.int .i64 x.id, .int .i64 x.fr, .int .i64 x.to, .int .i64 x.steps, .int .i64 x.paces]) := Lib.hid (Blk.new _ _ _)
                  clear l0 l1 l2 l3 l4
                  generalize (wr.alloc (.cells #[.int .i64 x.id, .int .i64 x.fr, .int .i64 x.to, .int .i64 x.steps, .int .i64 x.paces] 45)) = w1 at *
                  have HXM : Hid (x ∈ t.links) := Lib.hid (List.mem_of_getElem? HX.out)
                  have HFit : Hid (Fit x) := Lib.hid ⟨HFI.out.steps x HXM.out, HFI.out.paces x HXM.out⟩
                  obtain ⟨b3, off3, v, rfl, hb3, hv3, _⟩ := (HA.out.below HS1.out.bel).cell hlt
                  have HV3 := Lib.hid hv3
                  have hb3l : b3 < w1.heap.size := Nat.lt_of_lt_of_le hb3 HS1.out.bel.size
                  have hlbl : wr.heap.size < w1.heap.size := HLB.out.lt
                  have htl : w.heap.size < w1.heap.size := HS1.out.tb.lt
                  have hpl : w.heap.size + 1 < w1.heap.size := HS1.out.pb.lt
                  have hel : w.heap.size + 1 + 1 < w1.heap.size := HS1.out.eb.lt
                  have HPC : Hid (∀ W, Below w1.heap.size w1 W → W.cell? ⟨b3, off3 + i, none⟩ = some (.int .i64 v)) := Lib.hid (fun W hb => by
                    obtain ⟨b4, o4, y, e, _, hy, h⟩ := ((HA.out.below HS1.out.bel).more HS1.out.bel.size |>.below hb).cell hlt
                    cases e
                    obtain rfl : y = v := Option.some.inj (hy.symm.trans HV3.out)
                    exact h)
                  have hiI : (0 : Int) ≤ (i : Int) ∧ (i : Int) < (k : Int) := by omega
                  clear hb3 hv3
                  rcases hld : leads dk p x v with _ | ⟨v', cx⟩
                  · have HLD := Lib.hid hld
                    clear hld
                    refine wpIn_region_new (AF := ?AF1) (fun b => .pointer (some ⟨b, 0, none⟩)) 103 #[.int .i64 0, .int .i64 0, .int .i64 0, .int .i64 0] [0, 1, 2, 3, 4, 5, 6, 7, 8, 9, 10, 11, 12, 14, 16] [15] 13 [true, true, true, true, true, true, true, true, true, true, true, true, true, false, true, false, true] [false, false, false, false, false, false, false, false, false, false, false, false, false, false, false, true, false] (by kernel_rfl) (by kernel_rfl) (by kernel_rfl) (by kernel_rfl) (by kernel_rfl) (below_drewN (Below.refl _ _) 1) rfl rfl rfl ?hq1 ?hf1 ?ht1
                    case hq1 =>
                      rintro σ hσ of hof hcl
                      have HOF := Lib.hid hof
                      have HCL := Lib.hid hcl
                      clear hof hcl
                      have l0 : ∀ z, (of z).cell? ⟨wr.heap.size, 0, none⟩ = some (.int .i64 x.id) := fun z => (HLB.out.below (HOF.out z) HLB.out.lt).cell 0
                      have l1 : ∀ z, (of z).cell? ⟨wr.heap.size, 1, none⟩ = some (.int .i64 x.fr) := fun z => (HLB.out.below (HOF.out z) HLB.out.lt).cell 1
                      have l2 : ∀ z, (of z).cell? ⟨wr.heap.size, 2, none⟩ = some (.int .i64 x.to) := fun z => (HLB.out.below (HOF.out z) HLB.out.lt).cell 2
                      have l3 : ∀ z, (of z).cell? ⟨wr.heap.size, 3, none⟩ = some (.int .i64 x.steps) := fun z => (HLB.out.below (HOF.out z) HLB.out.lt).cell 3
                      have l4 : ∀ z, (of z).cell? ⟨wr.heap.size, 4, none⟩ = some (.int .i64 x.paces) := fun z => (HLB.out.below (HOF.out z) HLB.out.lt).cell 4
                      have t0 : ∀ z, (of z).cell? ⟨w.heap.size, 0, none⟩ = some (.slice (some ⟨b3, off3, none⟩) k c) := fun z => (HS1.out.tb.below (HOF.out z) HS1.out.tb.lt).cell 0
                      have t1 : ∀ z, (of z).cell? ⟨w.heap.size, 1, none⟩ = some (.slice (some ⟨b, off, none⟩) m d) := fun z => (HS1.out.tb.below (HOF.out z) HS1.out.tb.lt).cell 1
                      have p0 : ∀ z, (of z).cell? ⟨w.heap.size + 1, 0, none⟩ = some (.int .i64 p.pace) := fun z => (HS1.out.pb.below (HOF.out z) HS1.out.pb.lt).cell 0
                      have p1 : ∀ z, (of z).cell? ⟨w.heap.size + 1, 1, none⟩ = some (.int .i64 p.up) := fun z => (HS1.out.pb.below (HOF.out z) HS1.out.pb.lt).cell 1
                      have p2 : ∀ z, (of z).cell? ⟨w.heap.size + 1, 2, none⟩ = some (.int .i64 p.step) := fun z => (HS1.out.pb.below (HOF.out z) HS1.out.pb.lt).cell 2
                      have v0 : ∀ z, (of z).cell? ⟨b3, off3 + i, none⟩ = some (.int .i64 v) := fun z => HPC.out _ (HOF.out z)
                      have hfw : ∀ f, Fence.wide.fn f := fun _ => trivial
                      simp only [pickB]
                      repeat (gi_big_quiet_step (exact dleads_none x v dk p HLD.out HFit.out HP.out HOF.out HCL.out _))
                      refine wpQuietIn_nil ?_
                      exact rfl
                    case hf1 =>
                      intro W hb
                      exact ⟨fun f hf => trivial, rfl⟩
                    case ht1 =>
                      intro cb W hb hbb hR
                      have HB := Lib.hid hb
                      have HBB := Lib.hid hbb
                      have HR4 := Lib.hid hR
                      have hbl1 := hR.lt
                      have c0 := hR.cell 0
                      have c1 := hR.cell 1
                      have c2 := hR.cell 2
                      have c3 := hR.cell 3
                      have d0 := hR.frozen 0
                      have d1 := hR.frozen 1
                      have d2 := hR.frozen 2
                      have d3 := hR.frozen 3
                      clear hb hbb hR
                      simp only [pickB]
                      refine wpE_cons ?_
                      gi_wp2
                      have R5 := Lib.hid (ret4 HR4.out HB.out HBB.out (.int .i64 0) (.int .i64 0) (.int .i64 0) (.int .i64 0))
                      refine ⟨R5.out.2, wpE_nil ?_⟩
                      have HW5 := Lib.hid (HS1.out.below R5.out.2)
                      generalize (((W.setCell ⟨cb, 0, none⟩ (.int .i64 0)).setCell ⟨cb, 1, none⟩ (.int .i64 0)).setCell ⟨cb, 2, none⟩ (.int .i64 0)).setCell ⟨cb, 3, none⟩ (.int .i64 0) = W5 at *
                      clear c0 c1 c2 c3 d0 d1 d2 d3
                      have hbl5 := R5.out.1.lt
                      gi_wp2
                      have e1 : ((j + 1 : Nat) : Int) = (j : Int) + 1 := by omega
                      have hno : ∀ n cx, leads dk p x v = some (n, cx) → ∀ (i2 : Nat) d, t.places[i2]? = some n → E3[i2]? = some (some d) → leE E3 i (addC cx d) := fun n cx h => by
                        rw [HLD.out] at h
                        cases h
                      exact ⟨⟨ch, j + 1, M3, E3, rfl, by rw [e1], by omega, Lib.hid ⟨HW5.out, HU.out.2.1.skip HX.out HV3.out hno HFI.out, by have := HU.out.2.2.1; omega, fun h => (HU.out.2.2.2.1 h).step HX.out HV3.out hno, HU.out.2.2.2.2⟩⟩, by simp [intOf]; omega⟩
                  · have HLD := Lib.hid hld
                    clear hld
                    refine wpIn_region_new (AF := ?AF2) (fun b => .pointer (some ⟨b, 0, none⟩)) 103 #[.int .i64 0, .int .i64 0, .int .i64 0, .int .i64 0] [0, 1, 2, 3, 4, 5, 6, 7, 8, 9, 10, 11, 12, 14, 16] [15] 13 [true, true, true, true, true, true, true, true, true, true, true, true, true, false, true, false, true] [false, false, false, false, false, false, false, false, false, false, false, false, false, false, false, true, false] (by kernel_rfl) (by kernel_rfl) (by kernel_rfl) (by kernel_rfl) (by kernel_rfl) (below_drewN (Below.refl _ _) 1) rfl rfl rfl ?hq2 ?hf2 ?ht2
                    case hq2 =>
                      rintro σ hσ of hof hcl
                      have HOF := Lib.hid hof
                      have HCL := Lib.hid hcl
                      clear hof hcl
                      have l0 : ∀ z, (of z).cell? ⟨wr.heap.size, 0, none⟩ = some (.int .i64 x.id) := fun z => (HLB.out.below (HOF.out z) HLB.out.lt).cell 0
                      have l1 : ∀ z, (of z).cell? ⟨wr.heap.size, 1, none⟩ = some (.int .i64 x.fr) := fun z => (HLB.out.below (HOF.out z) HLB.out.lt).cell 1
                      have l2 : ∀ z, (of z).cell? ⟨wr.heap.size, 2, none⟩ = some (.int .i64 x.to) := fun z => (HLB.out.below (HOF.out z) HLB.out.lt).cell 2
                      have l3 : ∀ z, (of z).cell? ⟨wr.heap.size, 3, none⟩ = some (.int .i64 x.steps) := fun z => (HLB.out.below (HOF.out z) HLB.out.lt).cell 3
                      have l4 : ∀ z, (of z).cell? ⟨wr.heap.size, 4, none⟩ = some (.int .i64 x.paces) := fun z => (HLB.out.below (HOF.out z) HLB.out.lt).cell 4
                      have t0 : ∀ z, (of z).cell? ⟨w.heap.size, 0, none⟩ = some (.slice (some ⟨b3, off3, none⟩) k c) := fun z => (HS1.out.tb.below (HOF.out z) HS1.out.tb.lt).cell 0
                      have t1 : ∀ z, (of z).cell? ⟨w.heap.size, 1, none⟩ = some (.slice (some ⟨b, off, none⟩) m d) := fun z => (HS1.out.tb.below (HOF.out z) HS1.out.tb.lt).cell 1
                      have p0 : ∀ z, (of z).cell? ⟨w.heap.size + 1, 0, none⟩ = some (.int .i64 p.pace) := fun z => (HS1.out.pb.below (HOF.out z) HS1.out.pb.lt).cell 0
                      have p1 : ∀ z, (of z).cell? ⟨w.heap.size + 1, 1, none⟩ = some (.int .i64 p.up) := fun z => (HS1.out.pb.below (HOF.out z) HS1.out.pb.lt).cell 1
                      have p2 : ∀ z, (of z).cell? ⟨w.heap.size + 1, 2, none⟩ = some (.int .i64 p.step) := fun z => (HS1.out.pb.below (HOF.out z) HS1.out.pb.lt).cell 2
                      have v0 : ∀ z, (of z).cell? ⟨b3, off3 + i, none⟩ = some (.int .i64 v) := fun z => HPC.out _ (HOF.out z)
                      have hfw : ∀ f, Fence.wide.fn f := fun _ => trivial
                      simp only [pickB]
                      repeat (gi_big_quiet_step (exact dleads_some x v dk p v' cx HLD.out HFit.out HP.out HOF.out HCL.out _))
                      refine wpQuietIn_nil ?_
                      exact rfl
                    case hf2 =>
                      intro W hb
                      exact ⟨fun f hf => trivial, rfl⟩
                    case ht2 =>
                      intro cb W hb hbb hR
                      have HB := Lib.hid hb
                      have HBB := Lib.hid hbb
                      have HR4 := Lib.hid hR
                      have hbl1 := hR.lt
                      have c0 := hR.cell 0
                      have c1 := hR.cell 1
                      have c2 := hR.cell 2
                      have c3 := hR.cell 3
                      have d0 := hR.frozen 0
                      have d1 := hR.frozen 1
                      have d2 := hR.frozen 2
                      have d3 := hR.frozen 3
                      clear hb hbb hR
                      simp only [pickB]
                      refine wpE_cons ?_
                      gi_wp2
                      have R5 := Lib.hid (ret4 HR4.out HB.out HBB.out (.int .i64 cx.a) (.int .i64 cx.b) (.int .i64 cx.c) (.int .i64 cx.d))
                      refine ⟨R5.out.2, wpE_nil ?_⟩
                      have HW5 := Lib.hid (HS1.out.below R5.out.2)
                      generalize (((W.setCell ⟨cb, 0, none⟩ (.int .i64 cx.a)).setCell ⟨cb, 1, none⟩ (.int .i64 cx.b)).setCell ⟨cb, 2, none⟩ (.int .i64 cx.c)).setCell ⟨cb, 3, none⟩ (.int .i64 cx.d) = W5 at *
                      clear c0 c1 c2 c3 d0 d1 d2 d3
                      have hbl5 := R5.out.1.lt
                      obtain ⟨i2, hpi, hi2, hi2l⟩ := placeI_at (leads_ends HXM.out HFI.out HLD.out).2
                      have HPI := Lib.hid hpi
                      have HI2 := Lib.hid hi2
                      have hi2k : i2 < k := by have := HLn.out; omega
                      obtain ⟨r, hr⟩ : ∃ r, E3[i2]? = some r := ⟨_, List.getElem?_eq_getElem (by rw [HU.out.2.1.len]; exact hi2l)⟩
                      have HR := Lib.hid hr
                      have HCX := Lib.hid (leads_cost HXM.out HFI.out HFA.out HLD.out)
                      have HLT : Hid (∀ (q : Nat) d, E3[q]? = some (some d) → Little d) := Lib.hid (fun q d hd => HU.out.2.1.little HFI.out HFA.out (by have := HU.out.2.2.1; omega) hd)
                      have HSM : Hid (Small cx ∧ Small (entC r)) := Lib.hid ⟨by
                        have h1 := HCX.out
                        exact ⟨by omega, by omega, by omega, by omega⟩, Small.ent fun d hd => HLT.out i2 d (by rw [HR.out, hd])⟩
                      have hi2I : (0 : Int) ≤ (i2 : Int) ∧ (i2 : Int) < (k : Int) := by omega
                      clear hpi hi2 hi2l hr
                      gi_wp2
                      have hcb5 : cb < W5.heap.size := hbl5
                      have htl5 : w.heap.size < W5.heap.size := HW5.out.tb.lt
                      have hpl5 : w.heap.size + 1 < W5.heap.size := HW5.out.pb.lt
                      have hel5 : w.heap.size + 1 + 1 < W5.heap.size := HW5.out.eb.lt
                      refine wpIn_region_new (AF := ?AF3) (fun b => .pointer (some ⟨b, 0, none⟩)) 103 #[.int .i64 0, .int .i64 0, .int .i64 0, .int .i64 0] [0, 1, 2, 3, 4, 5, 6, 7] [9] 8 [true, true, true, true, true, true, true, true, false, false] [false, false, false, false, false, false, false, false, false, true] (by kernel_rfl) (by kernel_rfl) (by kernel_rfl) (by kernel_rfl) (by kernel_rfl) (below_drewN (Below.refl _ _) 1) rfl rfl rfl ?hq3 ?hf3 ?ht3
                      case hq3 =>
                        rintro σ hσ of hof hcl
                        have HOF := Lib.hid hof
                        have HCL := Lib.hid hcl
                        clear hof hcl
                        have q0 : ∀ z, (of z).cell? ⟨cb, 0, none⟩ = some (.int .i64 cx.a) := fun z => (R5.out.1.below (HOF.out z) hbl5).cell 0
                        have q1 : ∀ z, (of z).cell? ⟨cb, 1, none⟩ = some (.int .i64 cx.b) := fun z => (R5.out.1.below (HOF.out z) hbl5).cell 1
                        have q2 : ∀ z, (of z).cell? ⟨cb, 2, none⟩ = some (.int .i64 cx.c) := fun z => (R5.out.1.below (HOF.out z) hbl5).cell 2
                        have q3 : ∀ z, (of z).cell? ⟨cb, 3, none⟩ = some (.int .i64 cx.d) := fun z => (R5.out.1.below (HOF.out z) hbl5).cell 3
                        have t0 : ∀ z, (of z).cell? ⟨w.heap.size, 0, none⟩ = some (.slice (some ⟨b3, off3, none⟩) k c) := fun z => (HW5.out.tb.below (HOF.out z) HW5.out.tb.lt).cell 0
                        have t1 : ∀ z, (of z).cell? ⟨w.heap.size, 1, none⟩ = some (.slice (some ⟨b, off, none⟩) m d) := fun z => (HW5.out.tb.below (HOF.out z) HW5.out.tb.lt).cell 1
                        have v0 : ∀ z, (of z).cell? ⟨w.heap.size + 1 + 1, i2 * 4, none⟩ = some (.int .i64 (entC r).a) := fun z => ((HW5.out.below (HOF.out z)).cell HR.out).1
                        have v1 : ∀ z, (of z).cell? ⟨w.heap.size + 1 + 1, i2 * 4 + 1, none⟩ = some (.int .i64 (entC r).b) := fun z => ((HW5.out.below (HOF.out z)).cell HR.out).2.1
                        have v2 : ∀ z, (of z).cell? ⟨w.heap.size + 1 + 1, i2 * 4 + 2, none⟩ = some (.int .i64 (entC r).c) := fun z => ((HW5.out.below (HOF.out z)).cell HR.out).2.2.1
                        have v3 : ∀ z, (of z).cell? ⟨w.heap.size + 1 + 1, i2 * 4 + 3, none⟩ = some (.int .i64 (entC r).d) := fun z => ((HW5.out.below (HOF.out z)).cell HR.out).2.2.2
                        have hfw : ∀ f, Fence.wide.fn f := fun _ => trivial
                        simp only [pickB]
                        repeat (gi_big_quiet_step (first | exact place_cls (some ⟨b3, off3, none⟩) k c (some ⟨b, off, none⟩) m d t v' i2 HPI.out (by unfold maxLen; omega) w.heap.size HW5.out.bel.size (HA.out.below HW5.out.bel) HOF.out HCL.out _ | exact rplus_cls cx (entC r) HSM.out.1 HSM.out.2 HOF.out HCL.out _))
                        refine wpQuietIn_nil ?_
                        exact rfl
                      case hf3 =>
                        intro W hb
                        exact ⟨fun f hf => trivial, rfl⟩
                      case ht3 =>
                        intro sb W hb hbb hR
                        have HB3 := Lib.hid hb
                        have HBB3 := Lib.hid hbb
                        have HR43 := Lib.hid hR
                        have hbl1 := hR.lt
                        have c0 := hR.cell 0
                        have c1 := hR.cell 1
                        have c2 := hR.cell 2
                        have c3 := hR.cell 3
                        have d0 := hR.frozen 0
                        have d1 := hR.frozen 1
                        have d2 := hR.frozen 2
                        have d3 := hR.frozen 3
                        clear hb hbb hR
                        simp only [pickB]
                        refine wpE_cons ?_
                        gi_wp2
                        have R6 := Lib.hid (ret4 HR43.out HB3.out HBB3.out (.int .i64 (addC cx (entC r)).a) (.int .i64 (addC cx (entC r)).b) (.int .i64 (addC cx (entC r)).c) (.int .i64 (addC cx (entC r)).d))
                        refine ⟨R6.out.2, wpE_nil ?_⟩
                        have HW6 := Lib.hid (HW5.out.below R6.out.2)
                        generalize (((W.setCell ⟨sb, 0, none⟩ (.int .i64 (addC cx (entC r)).a)).setCell ⟨sb, 1, none⟩ (.int .i64 (addC cx (entC r)).b)).setCell ⟨sb, 2, none⟩ (.int .i64 (addC cx (entC r)).c)).setCell ⟨sb, 3, none⟩ (.int .i64 (addC cx (entC r)).d) = W6 at *
                        clear c0 c1 c2 c3 d0 d1 d2 d3
                        have hbl6 := R6.out.1.lt
                        obtain ⟨s, hs⟩ : ∃ s, addC cx (entC r) = s := ⟨_, rfl⟩
                        rw [hs] at R6 ⊢
                        have HSS := Lib.hid hs
                        clear hs
                        have e1 : ((j + 1 : Nat) : Int) = (j : Int) + 1 := by omega
                        obtain ⟨r2, hr2⟩ : ∃ r2, E3[i]? = some r2 := ⟨_, List.getElem?_eq_getElem (by rw [HU.out.2.1.len, HLn.out]; exact hlt)⟩
                        have HR2 := Lib.hid hr2
                        clear hr2
                        have HUQ : Hid (∀ (i' : Nat), t.places[i']? = some v' → i' = i2) := Lib.hid (fun i' h => by
                          have hl := (List.getElem?_eq_some_iff.1 h).1
                          exact (List.getElem?_inj hl HND.out).1 (h.trans HI2.out.symm))
                        have hsbl : sb < W6.heap.size := hbl6
                        have hel6 : w.heap.size + 1 + 1 < W6.heap.size := HW6.out.eb.lt
                        cases r with
                        | none =>
                          have hsa : decide (s.a < 1000000000) = false := by
                            have h1 := HCX.out
                            have h2 : s.a = cx.a + 1000000000 := by rw [← HSS.out]; rfl
                            simp
                            omega
                          have HNO : Hid (∀ n cx, leads dk p x v = some (n, cx) → ∀ (i2 : Nat) d, t.places[i2]? = some n → E3[i2]? = some (some d) → leE E3 i (addC cx d)) := Lib.hid (fun n' cx' h i' d' hp' he' => by
                            rw [HLD.out] at h
                            cases h
                            obtain rfl := HUQ.out i' hp'
                            rw [HR.out] at he'
                            cases he')
                          gi_wp2
                          refine wpIn_region_old (AF := ?AF4) [0, 1, 2, 3, 4, 5, 6, 7, 8, 9, 10] [] [true, true, true, true, true, true, true, true, true, true, true] [false, false, false, false, false, false, false, false, false, false, false] (by kernel_rfl) (by kernel_rfl) (by kernel_rfl) (by kernel_rfl) (by kernel_rfl) (below_drewN (Below.refl _ _) 1) ?hq4 ?ht4
                          case hq4 =>
                            rintro σ hσ of hof hcl
                            have HOF := Lib.hid hof
                            have HCL := Lib.hid hcl
                            clear hof hcl
                            have q0 : ∀ z, (of z).cell? ⟨sb, 0, none⟩ = some (.int .i64 s.a) := fun z => (R6.out.1.below (HOF.out z) hbl6).cell 0
                            have hfw : ∀ f, Fence.wide.fn f := fun _ => trivial
                            simp only [pickB]
                            repeat (gi_big_quiet_step (fail))
                            refine wpQuietIn_nil ?_
                            exact rfl
                          case ht4 =>
                            intro W hb
                            have HW7 := Lib.hid (HW6.out.below hb)
                            have HS7 := Lib.hid (R6.out.1.below hb hbl6)
                            have hbl7 : sb < W.heap.size := HS7.out.lt
                            clear hb
                            simp only [pickB]
                            refine wpE_nil ?_
                            gi_wp2
                            exact ⟨⟨ch, j + 1, M3, E3, rfl, by rw [e1], by omega, Lib.hid ⟨HW7.out, HU.out.2.1.skip HX.out HV3.out HNO.out HFI.out, by have := HU.out.2.2.1; omega, fun h => (HU.out.2.2.2.1 h).step HX.out HV3.out HNO.out, HU.out.2.2.2.2⟩⟩, by simp [intOf]; omega⟩
                        | some d1 =>
                          have hsb : s.a < 1000000000 := by
                            have h1 := HCX.out
                            have h2 : s.a = cx.a + d1.a := by rw [← HSS.out]; rfl
                            have h3 := (HLT.out i2 d1 HR.out).a
                            omega
                          have hsa : decide (s.a < 1000000000) = true := by simpa using hsb
                          have HSB := Lib.hid hsb
                          clear hsb
                          cases hls : lessC s (entC r2) with
                          | false =>
                            have HLS := Lib.hid hls
                            clear hls
                            have HNO : Hid (∀ n cx, leads dk p x v = some (n, cx) → ∀ (i2 : Nat) d, t.places[i2]? = some n → E3[i2]? = some (some d) → leE E3 i (addC cx d)) := Lib.hid (fun n' cx' h i' d' hp' he' => by
                              rw [HLD.out] at h
                              cases h
                              obtain rfl := HUQ.out i' hp'
                              rw [HR.out] at he'
                              cases he'
                              have h1 := HLS.out
                              rw [lessC_cmp] at h1
                              have h2 := of_decide_eq_false h1
                              have hss : addC cx d1 = s := HSS.out
                              rw [hss]
                              cases hr2 : r2 with
                              | none =>
                                rw [hr2] at h2
                                have h3 := HSB.out
                                simp [entC, infC, cmpL, Cost.list, h3] at h2
                              | some e2 =>
                                rw [hr2] at h2
                                refine ⟨e2, by rw [HR2.out, hr2], ?_⟩
                                have h3 := cmpL_swap s.list e2.list
                                simp only [entC, Option.getD_some] at h2
                                omega)
                            gi_wp2
                            refine wpIn_region_old (AF := ?AF5) [0, 1, 2, 3, 4, 5, 6, 7, 8, 9, 10] [] [true, true, true, true, true, true, true, true, true, true, true] [false, false, false, false, false, false, false, false, false, false, false] (by kernel_rfl) (by kernel_rfl) (by kernel_rfl) (by kernel_rfl) (by kernel_rfl) (below_drewN (Below.refl _ _) 1) ?hq5 ?ht5
                            case hq5 =>
                              rintro σ hσ of hof hcl
                              have HOF := Lib.hid hof
                              have HCL := Lib.hid hcl
                              clear hof hcl
                              have q0 : ∀ z, (of z).cell? ⟨sb, 0, none⟩ = some (.int .i64 s.a) := fun z => (R6.out.1.below (HOF.out z) hbl6).cell 0
                              have q1 : ∀ z, (of z).cell? ⟨sb, 1, none⟩ = some (.int .i64 s.b) := fun z => (R6.out.1.below (HOF.out z) hbl6).cell 1
                              have q2 : ∀ z, (of z).cell? ⟨sb, 2, none⟩ = some (.int .i64 s.c) := fun z => (R6.out.1.below (HOF.out z) hbl6).cell 2
                              have q3 : ∀ z, (of z).cell? ⟨sb, 3, none⟩ = some (.int .i64 s.d) := fun z => (R6.out.1.below (HOF.out z) hbl6).cell 3
                              have v0 : ∀ z, (of z).cell? ⟨w.heap.size + 1 + 1, i * 4, none⟩ = some (.int .i64 (entC r2).a) := fun z => ((HW6.out.below (HOF.out z)).cell HR2.out).1
                              have v1 : ∀ z, (of z).cell? ⟨w.heap.size + 1 + 1, i * 4 + 1, none⟩ = some (.int .i64 (entC r2).b) := fun z => ((HW6.out.below (HOF.out z)).cell HR2.out).2.1
                              have v2 : ∀ z, (of z).cell? ⟨w.heap.size + 1 + 1, i * 4 + 2, none⟩ = some (.int .i64 (entC r2).c) := fun z => ((HW6.out.below (HOF.out z)).cell HR2.out).2.2.1
                              have v3 : ∀ z, (of z).cell? ⟨w.heap.size + 1 + 1, i * 4 + 3, none⟩ = some (.int .i64 (entC r2).d) := fun z => ((HW6.out.below (HOF.out z)).cell HR2.out).2.2.2
                              have hfw : ∀ f, Fence.wide.fn f := fun _ => trivial
                              simp only [pickB]
                              repeat (gi_big_quiet_step (exact rless_cls s (entC r2) _ HLS.out HOF.out HCL.out _))
                              refine wpQuietIn_nil ?_
                              exact rfl
                            case ht5 =>
                              intro W hb
                              have HW7 := Lib.hid (HW6.out.below hb)
                              have HS7 := Lib.hid (R6.out.1.below hb hbl6)
                              have hbl7 : sb < W.heap.size := HS7.out.lt
                              clear hb
                              simp only [pickB]
                              refine wpE_nil ?_
                              gi_wp2
                              exact ⟨⟨ch, j + 1, M3, E3, rfl, by rw [e1], by omega, Lib.hid ⟨HW7.out, HU.out.2.1.skip HX.out HV3.out HNO.out HFI.out, by have := HU.out.2.2.1; omega, fun h => (HU.out.2.2.2.1 h).step HX.out HV3.out HNO.out, HU.out.2.2.2.2⟩⟩, by simp [intOf]; omega⟩
                          | true =>
                            have HLS := Lib.hid hls
                            clear hls
                            have HLE : Hid (∀ e2, r2 = some e2 → cmpL s.list e2.list < 0) := Lib.hid (fun e2 he => by
                              have h1 := HLS.out
                              rw [lessC_cmp, he] at h1
                              exact of_decide_eq_true h1)
                            have HTK : Hid (BSt t dk p to q i (j + 1) (M3 + 1) (E3.set i (some s))) := Lib.hid (by
                              have h := HU.out.2.1.take HX.out HV3.out HLD.out HI2.out HR.out (fun e he => by
                                rw [HR2.out] at he
                                have h1 := HLE.out e (Option.some.inj he)
                                have hss : addC cx d1 = s := HSS.out
                                rw [hss]
                                omega) HND.out
                              have hss : addC cx d1 = s := HSS.out
                              rw [hss] at h
                              exact h)
                            have HQ7 : Hid (q ≤ 7) := Lib.hid (by
                              apply Decidable.byContradiction
                              intro hc
                              obtain ⟨l, hw, _⟩ := HU.out.2.1.sound i2 v' d1 HI2.out HR.out
                              have hw2 : Walk t dk p v to s (x.id :: l) := by
                                have hss : addC cx d1 = s := HSS.out
                                rw [← hss]
                                exact .cons HXM.out HLD.out hw
                              obtain ⟨e2, h1, h2⟩ := HU.out.2.1.settled (by omega) HFI.out HFA.out HV3.out hw2
                              rw [HR2.out] at h1
                              have h3 := HLE.out e2 (Option.some.inj h1)
                              have h4 := cmpL_swap s.list e2.list
                              omega)
                            gi_wp2
                            refine wpIn_region_old (AF := ?AF6) [0, 1, 2, 3, 4, 5, 6, 7, 8, 9, 10] [] [true, true, true, true, true, true, true, true, true, true, true] [false, false, false, false, false, false, false, false, false, false, false] (by kernel_rfl) (by kernel_rfl) (by kernel_rfl) (by kernel_rfl) (by kernel_rfl) (below_drewN (Below.refl _ _) 1) ?hq6 ?ht6
                            case hq6 =>
                              rintro σ hσ of hof hcl
                              have HOF := Lib.hid hof
                              have HCL := Lib.hid hcl
                              clear hof hcl
                              have q0 : ∀ z, (of z).cell? ⟨sb, 0, none⟩ = some (.int .i64 s.a) := fun z => (R6.out.1.below (HOF.out z) hbl6).cell 0
                              have q1 : ∀ z, (of z).cell? ⟨sb, 1, none⟩ = some (.int .i64 s.b) := fun z => (R6.out.1.below (HOF.out z) hbl6).cell 1
                              have q2 : ∀ z, (of z).cell? ⟨sb, 2, none⟩ = some (.int .i64 s.c) := fun z => (R6.out.1.below (HOF.out z) hbl6).cell 2
                              have q3 : ∀ z, (of z).cell? ⟨sb, 3, none⟩ = some (.int .i64 s.d) := fun z => (R6.out.1.below (HOF.out z) hbl6).cell 3
                              have v0 : ∀ z, (of z).cell? ⟨w.heap.size + 1 + 1, i * 4, none⟩ = some (.int .i64 (entC r2).a) := fun z => ((HW6.out.below (HOF.out z)).cell HR2.out).1
                              have v1 : ∀ z, (of z).cell? ⟨w.heap.size + 1 + 1, i * 4 + 1, none⟩ = some (.int .i64 (entC r2).b) := fun z => ((HW6.out.below (HOF.out z)).cell HR2.out).2.1
                              have v2 : ∀ z, (of z).cell? ⟨w.heap.size + 1 + 1, i * 4 + 2, none⟩ = some (.int .i64 (entC r2).c) := fun z => ((HW6.out.below (HOF.out z)).cell HR2.out).2.2.1
                              have v3 : ∀ z, (of z).cell? ⟨w.heap.size + 1 + 1, i * 4 + 3, none⟩ = some (.int .i64 (entC r2).d) := fun z => ((HW6.out.below (HOF.out z)).cell HR2.out).2.2.2
                              have hfw : ∀ f, Fence.wide.fn f := fun _ => trivial
                              simp only [pickB]
                              repeat (gi_big_quiet_step (exact rless_cls s (entC r2) _ HLS.out HOF.out HCL.out _))
                              refine wpQuietIn_nil ?_
                              exact rfl
                            case ht6 =>
                              intro W hb
                              have HW7 := Lib.hid (HW6.out.below hb)
                              have HS7 := Lib.hid (R6.out.1.below hb hbl6)
                              have hbl7 : sb < W.heap.size := HS7.out.lt
                              clear hb
                              simp only [pickB]
                              refine wpE_nil ?_
                              have c0 := HS7.out.cell 0
                              have c1 := HS7.out.cell 1
                              have c2 := HS7.out.cell 2
                              have c3 := HS7.out.cell 3
                              have f0 := HW7.out.eb.frozen (i * 4)
                              have f1 := HW7.out.eb.frozen (i * 4 + 1)
                              have f2 := HW7.out.eb.frozen (i * 4 + 2)
                              have f3 := HW7.out.eb.frozen (i * 4 + 3)
                              have o0 := (HW7.out.cell HR2.out).1
                              have o1 := (HW7.out.cell HR2.out).2.1
                              have o2 := (HW7.out.cell HR2.out).2.2.1
                              have o3 := (HW7.out.cell HR2.out).2.2.2
                              have HP8 := Lib.hid (HW7.out.put (k := i) (by rw [HU.out.2.1.len, HLn.out]; exact hlt) s)
                              gi_wp2
                              exact ⟨⟨true, j + 1, M3 + 1, E3.set i (some s), rfl, by rw [e1], by omega, Lib.hid ⟨HP8.out, HTK.out, by have := HU.out.2.2.1; omega, fun h => (by cases h), fun _ => HQ7.out⟩⟩, by simp [intOf]; omega⟩
                · obtain rfl : j = m := by omega
                  have e1 : ((i + 1 : Nat) : Int) = (i : Int) + 1 := by omega
                  gi_wp2
                  refine ⟨⟨ch, i + 1, M3, E3, rfl, by rw [e1], by omega, Lib.hid ⟨HU.out.1, HU.out.2.1.next (by rw [HLm.out]; exact Nat.le_refl _), by have := HU.out.2.2.1; omega, fun h => (HU.out.2.2.2.1 h).keep (by rw [HLm.out]; exact Nat.le_refl _), HU.out.2.2.2.2⟩⟩, by simp [intOf]; omega⟩
            · obtain rfl : i = k := by omega
              gi_wp2
              gi_roundg (if ch then 8 - q else 0)
              case rel => exact ⟨ch, q + 1, M2, E2, rfl, by cases ch <;> simp <;> omega, fun h => by have := HW.out.2.2.2.2 h; omega, Lib.hid ⟨HW.out.1, HW.out.2.1.round (by rw [HLn.out]; exact Nat.le_refl _), by have := HW.out.2.2.1; omega, by omega, fun h => HW.out.2.2.2.1 h⟩⟩
              case measure => rw [hg']; split <;> omega

theorem rcosts_any (A : Option Addr) (n c : Nat) (A' : Option Addr) (m d : Nat) (p : Price) (t : Town) (dk : Bool) (to : Int) (w : World)
    (hm : m ≤ 20) (ha : IntsAt w w.heap.size A n t.places) (ht : LinksAt w w.heap.size A' m t.links) (hp : Cheap p) (hfine : Fine t) (hfair : Fair p) (hnd : t.places.Nodup) :
    Calls Tryd.prog 119 #[.agg #[.slice A n c, .slice A' m d], .int .i64 to, .bool dk, .agg #[.int .i64 p.pace, .int .i64 p.up, .int .i64 p.step]] w (RCostsOut w t dk p to n) :=
  callsIn_wide.1 (rcosts_in A n c A' m d p t dk to w hm ha ht hp hfine hfair hnd)
end Go.Proofs.YtahkjagjcogeiaaDoor
/- Two costs of the answer compared. -/
namespace Go.Proofs.YtahkjagjcogeiaaDoor
open Go.RowKit Go.Shelf
theorem eql_cost (x y : Cost) (W : World) : (binOp .eql 103 (.agg #[.int .i64 x.a, .int .i64 x.b, .int .i64 x.c, .int .i64 x.d]) (.agg #[.int .i64 y.a, .int .i64 y.b, .int .i64 y.c, .int .i64 y.d])).run Tryd.prog W = .ok (.bool (decide (x = y))) W := by
  obtain ⟨i0, hi, hz0, hz1, hz2⟩ := info_parts info_int
  have hc : Tryd.prog.cellsOf 3 = 1 := by simp [Program.cellsOf, hi, hz1]
  rw [run_eql_struct, show (10000 : Nat) = 9998 + 1 + 1 from rfl, run_equalIn_array W (9998 + 1) (n := 4) (e := 3) _ _ Tryd.underlying103 hi, hc]
  have hp : ∀ (k : Nat) (a : Array Value) (z : Int), a[k]? = some (.int .i64 z) → (part 3 a k).run Tryd.prog W = .ok (.int .i64 z) W := by
    intro k a z h
    simp [part, go_sem]
    rw [h]
    rfl
  have he : ∀ (a b : Int), (Op.equalIn (9998 + 1) 3 (.int .i64 a) (.int .i64 b)).run Tryd.prog W = .ok (a == b) W := fun a b => run_equalIn_int W 9998 3 .i64 .i64 a b Tryd.underlying3
  simp only [List.range, List.range.loop, Op.eqItems, Sem.run_bind, Nat.mul_one]
  rw [hp 0 _ x.a rfl, Result.andThen_ok, hp 0 _ y.a rfl, Result.andThen_ok, he, Result.andThen_ok]
  have hxy : x = y ↔ x.a = y.a ∧ x.b = y.b ∧ x.c = y.c ∧ x.d = y.d := by
    cases x; cases y; simp
  by_cases h1 : x.a = y.a
  · rw [if_neg (by simp [h1]), Sem.run_bind, hp 1 _ x.b rfl, Result.andThen_ok, Sem.run_bind, hp 1 _ y.b rfl, Result.andThen_ok, Sem.run_bind, he, Result.andThen_ok]
    by_cases h2 : x.b = y.b
    · rw [if_neg (by simp [h2]), Sem.run_bind, hp 2 _ x.c rfl, Result.andThen_ok, Sem.run_bind, hp 2 _ y.c rfl, Result.andThen_ok, Sem.run_bind, he, Result.andThen_ok]
      by_cases h3 : x.c = y.c
      · rw [if_neg (by simp [h3]), Sem.run_bind, hp 3 _ x.d rfl, Result.andThen_ok, Sem.run_bind, hp 3 _ y.d rfl, Result.andThen_ok, Sem.run_bind, he, Result.andThen_ok]
        by_cases h4 : x.d = y.d
        · rw [if_neg (by simp [h4])]
          simp [hxy, h1, h2, h3, h4, Result.andThen]
        · rw [if_pos (by simp [h4])]
          simp [hxy, h4, Result.andThen]
      · rw [if_pos (by simp [h3])]
        simp [hxy, h3, Result.andThen]
    · rw [if_pos (by simp [h2])]
      simp [hxy, h2, Result.andThen]
  · rw [if_pos (by simp [h1])]
    simp [hxy, h1, Result.andThen]
theorem quietIn_eql_cost {F : Fence} {n : Nat} {C : World → Prop} {a : Act} {o : Oper} {K : Act → Prop} (x y : Cost) (b : Bool) (hb : decide (x = y) = b) (xo yo : Operand) {t' : TypeId} (h : o.op = .binOp .eql 103 xo yo t')
    (hx : a.eval xo = .agg #[.int .i64 x.a, .int .i64 x.b, .int .i64 x.c, .int .i64 x.d]) (hy : a.eval yo = .agg #[.int .i64 y.a, .int .i64 y.b, .int .i64 y.c, .int .i64 y.d]) (hk : K (a.put o.dst (.bool b))) : o.quietIn F n Tryd.prog a C K :=
  ⟨.bool b, fun w _ => by
    have hg := run_eqGuard_agg (P := Tryd.prog) w .eql 103 xo yo #[.int .i64 x.a, .int .i64 x.b, .int .i64 x.c, .int .i64 x.d] #[.int .i64 y.a, .int .i64 y.b, .int .i64 y.c, .int .i64 y.d] Tryd.eqGuardType103
    have he := eql_cost x y w
    unfold Oper.quietAtIn
    rw [hb] at he
    have e : (execOp a.eval o).run Tryd.prog w = .ok (.value (.bool b)) w := by
      unfold execOp
      rw [h]
      simp only [hx, hy, Sem.run_bind, hg, Result.andThen_ok, he]
      rfl
    rw [e]
    exact ⟨rfl, rfl⟩, hk⟩
end Go.Proofs.YtahkjagjcogeiaaDoor
/- The answer's first: the first walk out of the least costs. -/
namespace Go.Proofs.YtahkjagjcogeiaaDoor
open Go.RowKit Go.Shelf
set_option linter.unusedVariables false

theorem EAt.cell {w : World} {B : Nat} {A : Option Addr} {n : Nat} {E : List (Option Cost)} (h : EAt w B A n E) {k : Nat} {r : Option Cost} (hk : E[k]? = some r) : ∃ b off, A = some ⟨b, off, none⟩ ∧ b < B ∧
    w.cell? ⟨b, off + k * 4, none⟩ = some (.int .i64 (entC r).a) ∧ w.cell? ⟨b, off + k * 4 + 1, none⟩ = some (.int .i64 (entC r).b) ∧ w.cell? ⟨b, off + k * 4 + 2, none⟩ = some (.int .i64 (entC r).c) ∧ w.cell? ⟨b, off + k * 4 + 3, none⟩ = some (.int .i64 (entC r).d) := by
  have hk' := (List.getElem?_eq_some_iff.1 hk).1
  obtain ⟨b, off, e, hb, hc⟩ := Reads.plain h (by rw [eVals_len]; omega)
  exact ⟨b, off, e, hb, hc (k * 4) _ (eVals_at (j := 0) hk (by omega)), hc (k * 4 + 1) _ (eVals_at (j := 1) hk (by omega)), hc (k * 4 + 2) _ (eVals_at (j := 2) hk (by omega)), hc (k * 4 + 3) _ (eVals_at (j := 3) hk (by omega))⟩

def RFirstOut (w : World) (r : Option (Cost × List Int)) (e : Ending) (w' : World) : Prop :=
  ∃ (A : Option Addr) (n cap : Nat) (co : Cost), e = .returned (.tuple #[.slice A n cap, costV co, .bool r.isSome]) ∧ (r = none → A = none ∧ n = 0 ∧ cap = 0 ∧ co = zeroC) ∧ (∀ q, r = some q → q.1 = co ∧ IntsAt w' w'.heap.size A n q.2) ∧ (∀ a, A = some a → w.heap.size ≤ a.block ∧ a.block < w'.heap.size) ∧ Below w.heap.size w w'

/-- What lies in memory while first works. -/
structure RFSt (w : World) (T : Array Value) (p : Price) (A : Option Addr) (n : Nat) (E : List (Option Cost)) (B : Nat) (c0 : Cost) (W : World) : Prop where
  bel : Below w.heap.size w W
  tb : Blk W w.heap.size 25 T
  pb : Blk W (w.heap.size + 1) 107 #[.int .i64 p.pace, .int .i64 p.up, .int .i64 p.step]
  rb : Blk W (w.heap.size + 1 + 1) 103 #[.int .i64 0, .int .i64 0, .int .i64 0, .int .i64 0]
  ea : EAt W B A n E
  eb : w.heap.size + 1 + 1 < B
  fb : Blk W B 103 #[.int .i64 c0.a, .int .i64 c0.b, .int .i64 c0.c, .int .i64 c0.d]
theorem RFSt.below {w W W' : World} {T : Array Value} {p : Price} {A : Option Addr} {n B : Nat} {E : List (Option Cost)} {c0 : Cost} (h : RFSt w T p A n E B c0 W) (hb : Below W.heap.size W W') : RFSt w T p A n E B c0 W' :=
  ⟨h.bel.trans (hb.mono h.bel.size), h.tb.below hb h.tb.lt, h.pb.below hb h.pb.lt, h.rb.below hb h.rb.lt, h.ea.below (hb.mono (Nat.le_of_lt h.fb.lt)), h.eb, h.fb.below hb h.fb.lt⟩

theorem RFSt.low {w W W' : World} {T : Array Value} {p : Price} {A : Option Addr} {n B : Nat} {E : List (Option Cost)} {c0 : Cost} (h : RFSt w T p A n E B c0 W) (hb : Below (B + 1) W W') : RFSt w T p A n E B c0 W' := by
  have h1 := h.eb
  have h2 := h.fb.lt
  exact ⟨h.bel.trans (hb.mono (by omega)), h.tb.below hb (by omega), h.pb.below hb (by omega), h.rb.below hb (by omega), h.ea.below (hb.mono (by omega)), h.eb, h.fb.below hb (by omega)⟩

theorem RFSt.entry {w W : World} {T : Array Value} {p : Price} {be oe n B : Nat} {E : List (Option Cost)} {c0 : Cost} (h : RFSt w T p (some ⟨be, oe, none⟩) n E B c0 W) {k : Nat} {r : Option Cost} (hk : E[k]? = some r) :
    W.cell? ⟨be, oe + k * 4, none⟩ = some (.int .i64 (entC r).a) ∧ W.cell? ⟨be, oe + k * 4 + 1, none⟩ = some (.int .i64 (entC r).b) ∧ W.cell? ⟨be, oe + k * 4 + 2, none⟩ = some (.int .i64 (entC r).c) ∧ W.cell? ⟨be, oe + k * 4 + 3, none⟩ = some (.int .i64 (entC r).d) := by
  obtain ⟨b, off, e, _, h1, h2, h3, h4⟩ := h.ea.cell hk
  cases e
  exact ⟨h1, h2, h3, h4⟩
theorem rplus_cls' {W : World} {n : Nat} (x y s : Cost) (hs : addC x y = s) (hx : Small x) (hy : Small y) {σ : Type} {of : σ → World} (h1 : ∀ z, Below W.heap.size W (of z)) (h2 : ∀ z W', Below (of z).heap.size (of z) W' → Cls of W') (z : σ) :
    CallsIn Fence.wide n Tryd.prog 113 #[.agg #[.int .i64 x.a, .int .i64 x.b, .int .i64 x.c, .int .i64 x.d], .agg #[.int .i64 y.a, .int .i64 y.b, .int .i64 y.c, .int .i64 y.d]] (of z) fun e w'' => e = .returned (.agg #[.int .i64 s.a, .int .i64 s.b, .int .i64 s.c, .int .i64 s.d]) ∧ Cls of w'' := by
  subst hs
  exact rplus_cls x y hx hy h1 h2 z

theorem Cost.ext_list {c d : Cost} (h : c.list = d.list) : c = d := by
  obtain ⟨a, b, e, f⟩ := c
  obtain ⟨a', b', e', f'⟩ := d
  simp only [Cost.list, List.cons.injEq, and_true] at h
  obtain ⟨rfl, rfl, rfl, rfl⟩ := h
  rfl
theorem first_here {t : Town} {dk : Bool} {p : Price} (ht : Fine t) (hp : Fair p) (u : Int) : First t dk p u u (some (zeroC, [])) := by
  refine ⟨.nil u, fun c' l' h => ?_⟩
  have hb := h.bound ht hp
  rw [cmp_key]
  by_cases hl : l' = []
  · subst hl
    cases h
    rw [if_pos (cmpL_refl _), cmpL_refl]
    exact Int.le_refl _
  · have h1 : 0 < l'.length := List.length_pos_iff.2 hl
    have h2 : cmpL zeroC.list c'.list = -1 := by
      rw [cmpC_unf]
      have za : zeroC.a = 0 := rfl
      have zb : zeroC.b = 0 := rfl
      have zc : zeroC.c = 0 := rfl
      by_cases ha : zeroC.a < c'.a
      · rw [if_pos ha]
      · rw [if_neg ha, if_neg (by omega)]
        by_cases hb' : zeroC.b < c'.b
        · rw [if_pos hb']
        · rw [if_neg hb', if_neg (by omega), if_pos (by omega)]
    rw [h2, if_neg (by omega)]
    omega
theorem first_end {t : Town} {dk : Bool} {p : Price} {v to : Int} {E : List (Option Cost)} {ia : Nat} {ca cc k0 : Cost} {acc : List Int} (hC : Costs t dk p to E) (ht : Fine t) (hp : Fair p) (hia : t.places[ia]? = some to) (hcc : E[ia]? = some (some cc)) (hk : addC ca cc = k0)
    (hF : ∀ c' r, First t dk p to to (some (c', r)) → First t dk p v to (some (addC ca c', acc ++ r))) : best t dk p v to = some (k0, acc) := by
  have h0 := first_here (dk := dk) ht hp to
  have h1 := hF _ _ h0
  rw [List.append_nil, addC_zero] at h1
  have h2 := hC.2 ia to hia _ hcc
  obtain ⟨⟨l, hw⟩, hmin⟩ := h2
  have h3 := key_cost (h0.2 _ _ hw)
  have h4 := hmin _ _ (.nil to)
  have h5 : cc = zeroC := Cost.ext_list (cmpL_antisymm h4 h3)
  rw [h5, addC_zero] at hk
  subst hk
  exact ((first_iff ht hp).1 h1).symm
theorem Own.keepB {w w' : World} {base n cap size : Nat} {e : TypeId} {A : Option Addr} {xs : List Value} (o : Own w base e size A n cap xs) (hk : ∀ g : Nat, base ≤ g → g < w.heap.size → w'.heap[g]? = w.heap[g]?) : Own w' base e size A n cap xs := by
  refine ⟨o.1, ?_⟩
  rcases o.2 with h' | ⟨g, cap', cur, hv, hb, hg, hr⟩
  · exact .inl h'
  · exact .inr ⟨g, cap', cur, hv, hb, (hk g hb (Array.getElem?_eq_some_iff.1 hg).1).trans hg, hr⟩

set_option maxRecDepth 100000 in
set_option maxHeartbeats 16000000 in
theorem rfirst_in (A : Option Addr) (n c : Nat) (A' : Option Addr) (m d : Nat) (p : Price) (t : Town) (dk : Bool) (v to : Int) (w : World)
    (hm : m ≤ 20) (ha : IntsAt w w.heap.size A n t.places) (ht : LinksAt w w.heap.size A' m t.links) (hp : Cheap p) (hfine : Fine t) (hfair : Fair p) (hnd : t.places.Nodup) (hv : v ∈ t.places) :
    CallsIn Fence.wide 9 Tryd.prog 57 #[.agg #[.slice A n c, .slice A' m d], .int .i64 v, .int .i64 to, .bool dk, .agg #[.int .i64 p.pace, .int .i64 p.up, .int .i64 p.step]] w (RFirstOut w (best t dk p v to)) := by
  have HT := Lib.hid ht
  have HP := Lib.hid hp
  have HA := Lib.hid ha
  have HFI := Lib.hid hfine
  have HFA := Lib.hid hfair
  have HND := Lib.hid hnd
  have HLm := Lib.hid ht.len
  have HLn := Lib.hid ha.len
  have hn9 : n ≤ 9 := by have := hfine.size; have := ha.len; omega
  obtain ⟨i0, hpi, hi0, hi0l⟩ := placeI_at hv
  have HPI := Lib.hid hpi
  have HI0 := Lib.hid hi0
  have hi0n : i0 < n := by have := HLn.out; omega
  clear ha ht hp hfine hfair hnd hpi hi0 hv
  refine callsIn_of_wp Tryd.func57 rfl trivial ?_ rfl
  simp only [Tryd.ntmps57, List.size_toArray, List.length_cons, List.length_nil, Nat.reduceAdd, Nat.reduceSub, Array.replicate_succ, Array.replicate_zero, List.push_toArray, List.append_toArray, List.nil_append, List.cons_append]
  gi_wp2
  have B0 : Below w.heap.size w (((w.alloc (.cells #[.slice A n c, .slice A' m d] 25)).alloc (.cells #[.int .i64 p.pace, .int .i64 p.up, .int .i64 p.step] 107)).alloc (.cells #[.int .i64 0, .int .i64 0, .int .i64 0, .int .i64 0] 103)) :=
    (((Below.refl w.heap.size w).alloc (Nat.le_refl _) (.cells #[.slice A n c, .slice A' m d] 25)).alloc (by simp) (.cells #[.int .i64 p.pace, .int .i64 p.up, .int .i64 p.step] 107)).alloc (by simp; omega) (.cells #[.int .i64 0, .int .i64 0, .int .i64 0, .int .i64 0] 103)
  have T0 := ((Blk.new w 25 #[.slice A n c, .slice A' m d]).alloc (.cells #[.int .i64 p.pace, .int .i64 p.up, .int .i64 p.step] 107)).alloc (.cells #[.int .i64 0, .int .i64 0, .int .i64 0, .int .i64 0] 103)
  have P0 := (Blk.new (w.alloc (.cells #[.slice A n c, .slice A' m d] 25)) 107 #[.int .i64 p.pace, .int .i64 p.up, .int .i64 p.step]).alloc (.cells #[.int .i64 0, .int .i64 0, .int .i64 0, .int .i64 0] 103)
  have R0 := Blk.new ((w.alloc (.cells #[.slice A n c, .slice A' m d] 25)).alloc (.cells #[.int .i64 p.pace, .int .i64 p.up, .int .i64 p.step] 107)) 103 #[.int .i64 0, .int .i64 0, .int .i64 0, .int .i64 0]
  rw [World.size_alloc] at P0
  rw [World.size_alloc, World.size_alloc] at R0
  have HB0 := Lib.hid B0
  have HT0 := Lib.hid T0
  have HP0 := Lib.hid P0
  have HR0 := Lib.hid R0
  clear B0 T0 P0 R0
  generalize (((w.alloc (.cells #[.slice A n c, .slice A' m d] 25)).alloc (.cells #[.int .i64 p.pace, .int .i64 p.up, .int .i64 p.step] 107)).alloc (.cells #[.int .i64 0, .int .i64 0, .int .i64 0, .int .i64 0] 103)) = w0 at *
  refine ⟨trivial, (callsIn_wide.2 (rcosts_any A n c A' m d p t dk to w0 hm ((HA.out.below HB0.out).more HB0.out.size) ((HT.out.below HB0.out).more HB0.out.size) HP.out HFI.out HFA.out HND.out)).mono ?_⟩
  rintro e w1 ⟨AE, E, rfl, hea, hC, hL, hb1⟩
  have HEA := Lib.hid hea
  have HC := Lib.hid hC
  have HL := Lib.hid hL
  have HB1 := Lib.hid hb1
  have HT1 := Lib.hid (HT0.out.below hb1 HT0.out.lt)
  have HP1 := Lib.hid (HP0.out.below hb1 HP0.out.lt)
  have HR1 := Lib.hid (HR0.out.below hb1 HR0.out.lt)
  have BB1 := Lib.hid (HB0.out.trans (hb1.mono HB0.out.size))
  clear hea hC hL hb1 HT0 HP0 HR0
  have t0 := HT1.out.cell 0
  have t1 := HT1.out.cell 1
  gi_wp2
  refine ⟨trivial, (callsIn_wide.2 (place_any A n c A' m d t v w1 (by unfold maxLen; omega) ((HA.out.below BB1.out).more BB1.out.size))).mono ?_⟩
  rintro e w2 ⟨rfl, hb2⟩
  rw [HPI.out]
  have HEA2 : Hid (EAt w2 w1.heap.size AE n E) := Lib.hid (Reads.below HEA.out hb2)
  have HT2 := Lib.hid (HT1.out.below hb2 HT1.out.lt)
  have HP2 := Lib.hid (HP1.out.below hb2 HP1.out.lt)
  have HR2 := Lib.hid (HR1.out.below hb2 HR1.out.lt)
  have BB2 := Lib.hid (BB1.out.trans (hb2.mono BB1.out.size))
  have hsz2 := hb2.size
  clear hb2 t0 t1 HT1 HP1 HR1
  obtain ⟨r, hr⟩ : ∃ r, E[i0]? = some r := ⟨_, List.getElem?_eq_getElem (by rw [HC.out.1]; exact hi0l)⟩
  have HR := Lib.hid hr
  clear hr
  obtain ⟨be, oe, rfl, hbe, c0, c1, c2, c3⟩ := HEA2.out.cell HR.out
  have hbel : be < w2.heap.size := Nat.lt_of_lt_of_le hbe hsz2
  have f0 := HR2.out.cell 0
  have f1 := HR2.out.cell 1
  have f2 := HR2.out.cell 2
  have f3 := HR2.out.cell 3
  have z0 := HR2.out.frozen 0
  have z1 := HR2.out.frozen 1
  have z2 := HR2.out.frozen 2
  have z3 := HR2.out.frozen 3
  have hrl : w.heap.size + 1 + 1 < w2.heap.size := HR2.out.lt
  cases r with
  | none =>
    have hge : decide ((1000000000 : Int) ≤ (entC none).a) = true := by simp [entC, infC]
    gi_wp2
    have R4 := ret4 HR2.out BB2.out (by omega) (.int .i64 0) (.int .i64 0) (.int .i64 0) (.int .i64 0)
    have R5 := R4.1.alloc (.cells #[.int .i64 (entC none).a, .int .i64 (entC none).b, .int .i64 (entC none).c, .int .i64 (entC none).d] 103)
    have y0 := R5.cell 0
    have y1 := R5.cell 1
    have y2 := R5.cell 2
    have y3 := R5.cell 3
    refine bodyPost_ret (v := .tuple #[.slice none 0 0, costV zeroC, .bool false]) (by simp [results, Tryd.results57, go_sem, y0, y1, y2, y3, zeroC]) rfl ?_
    have hno : best t dk p v to = none := by
      have h := HC.out.2 i0 v HI0.out none HR.out
      exact ((first_iff HFI.out HFA.out (r := none)).1 h).symm
    rw [hno]
    exact ⟨none, 0, 0, zeroC, rfl, fun _ => ⟨rfl, rfl, rfl, rfl⟩, (fun q hq => by cases hq), (fun a ha => by cases ha), R4.2.alloc R4.2.size _⟩
  | some k0 =>
    have hge : decide ((1000000000 : Int) ≤ (entC (some k0)).a) = false := by
      have := (HL.out i0 k0 HR.out).a
      exact decide_eq_false (show ¬ (1000000000 : Int) ≤ k0.a by omega)
    gi_wp2
    have hbW : Below w2.heap.size w2 (w2.alloc (.cells #[.int .i64 (entC (some k0)).a, .int .i64 (entC (some k0)).b, .int .i64 (entC (some k0)).c, .int .i64 (entC (some k0)).d] 103)) := (Below.refl _ _).alloc (Nat.le_refl _) _
    have HS3 : Hid (RFSt w #[.slice A n c, .slice A' m d] p (some ⟨be, oe, none⟩) n E w2.heap.size k0 (w2.alloc (.cells #[.int .i64 (entC (some k0)).a, .int .i64 (entC (some k0)).b, .int .i64 (entC (some k0)).c, .int .i64 (entC (some k0)).d] 103))) := Lib.hid
      ⟨BB2.out.trans (hbW.mono BB2.out.size), HT2.out.below hbW HT2.out.lt, HP2.out.below hbW HP2.out.lt, HR2.out.below hbW HR2.out.lt, (HEA2.out.more hsz2).below hbW, hrl, Blk.new _ _ _⟩
    generalize (w2.alloc (.cells #[.int .i64 (entC (some k0)).a, .int .i64 (entC (some k0)).b, .int .i64 (entC (some k0)).c, .int .i64 (entC (some k0)).d] 103)) = w3 at *
    clear hbW c0 c1 c2 c3 f0 f1 f2 f3 z0 z1 z2 z3
    gi_loopg [1, 15] k0.c.toNat (fun g v1 v15 wr => ∃ (at_ : Int) (ia : Nat) (ca cc : Cost) (acc : List Int) (AO : Option Addr) (capO : Nat), v1 = .int .i64 at_ ∧ v15 = .slice AO acc.length capO ∧ g = cc.c.toNat ∧ Hid (RFSt w #[.slice A n c, .slice A' m d] p (some ⟨be, oe, none⟩) n E w2.heap.size k0 wr ∧ t.places[ia]? = some at_ ∧ E[ia]? = some (some cc) ∧ Walk t dk p v at_ ca acc ∧ addC ca cc = k0 ∧ (∀ c' r, First t dk p at_ to (some (c', r)) → First t dk p v to (some (addC ca c', acc ++ r))) ∧ Own wr (w2.heap.size + 1) 3 1 AO acc.length capO (acc.map (Value.int .i64))))
    case atStart =>
      exact ⟨v, i0, zeroC, k0, [], none, 0, rfl, rfl, rfl, Lib.hid ⟨HS3.out, HI0.out, HR.out, .nil _, zero_addC k0, fun c' r h => by rw [zero_addC]; exact h, Own.none_ _ _ _ _⟩⟩
    case round =>
      obtain ⟨at_, ia, ca, cc, acc, AO, capO, rfl, rfl, hg, HS⟩ := hrel
      clear HS3
      by_cases hne : at_ = to
      · have HNE := Lib.hid hne
        subst hne
        have s0 := HS.out.1.rb.cell 0
        have s1 := HS.out.1.rb.cell 1
        have s2 := HS.out.1.rb.cell 2
        have s3 := HS.out.1.rb.cell 3
        have z0 := HS.out.1.rb.frozen 0
        have z1 := HS.out.1.rb.frozen 1
        have z2 := HS.out.1.rb.frozen 2
        have z3 := HS.out.1.rb.frozen 3
        have f0 := HS.out.1.fb.cell 0
        have f1 := HS.out.1.fb.cell 1
        have f2 := HS.out.1.fb.cell 2
        have f3 := HS.out.1.fb.cell 3
        have HEND := Lib.hid (first_end HC.out HFI.out HFA.out HS.out.2.1 HS.out.2.2.1 HS.out.2.2.2.2.1 HS.out.2.2.2.2.2.1)
        gi_wp2
        gi_region
        all_goals
          gi_wp2
          have R4 := ret4 (w := w) HS.out.1.rb (HS.out.1.bel) (by omega) (.int .i64 k0.a) (.int .i64 k0.b) (.int .i64 k0.c) (.int .i64 k0.d)
          have L4 := (ret4 (w := wr) (B := w.heap.size + 1 + 1) HS.out.1.rb (Below.refl _ _) (Nat.le_refl _) (.int .i64 k0.a) (.int .i64 k0.b) (.int .i64 k0.c) (.int .i64 k0.d))
          have y0 := R4.1.cell 0
          have y1 := R4.1.cell 1
          have y2 := R4.1.cell 2
          have y3 := R4.1.cell 3
          refine bodyPost_ret (v := .tuple #[.slice AO acc.length capO, costV k0, .bool true]) (by simp [results, Tryd.results57, go_sem, y0, y1, y2, y3]) rfl ?_
          rw [HEND.out]
          have hown := HS.out.2.2.2.2.2.2.keepB (w' := ((((wr.setCell ⟨w.heap.size + 1 + 1, 0, none⟩ (.int .i64 k0.a)).setCell ⟨w.heap.size + 1 + 1, 1, none⟩ (.int .i64 k0.b)).setCell ⟨w.heap.size + 1 + 1, 2, none⟩ (.int .i64 k0.c)).setCell ⟨w.heap.size + 1 + 1, 3, none⟩ (.int .i64 k0.d))) (fun g hg _ => by
            have hne : g ≠ w.heap.size + 1 + 1 := by omega
            exact (Below.heap_setCell _ ⟨w.heap.size + 1 + 1, 3, none⟩ _ g hne).trans ((Below.heap_setCell _ ⟨w.heap.size + 1 + 1, 2, none⟩ _ g hne).trans ((Below.heap_setCell _ ⟨w.heap.size + 1 + 1, 1, none⟩ _ g hne).trans (Below.heap_setCell _ ⟨w.heap.size + 1 + 1, 0, none⟩ _ g hne))))
          exact ⟨AO, acc.length, capO, k0, rfl, (fun h => by cases h), (fun q hq => by cases hq; exact ⟨rfl, hown.reads (Nat.le_refl _)⟩), (fun a ha => ⟨by have := (hown.lt ha).1; omega, (hown.lt ha).2⟩), below_drewN R4.2 1⟩
      · have HNE := Lib.hid hne
        have t0 := HS.out.1.tb.cell 0
        have t1 := HS.out.1.tb.cell 1
        have hnb : (at_ != to) = true := by simpa using HNE.out
        gi_wp2
        gi_loopw [1, 15, 42] (fun v1 v15 vj wr => ∃ j : Nat, v1 = .int .i64 at_ ∧ v15 = .slice AO acc.length capO ∧ vj = .int .i64 j ∧ j ≤ m ∧ Hid (RFSt w #[.slice A n c, .slice A' m d] p (some ⟨be, oe, none⟩) n E w2.heap.size k0 wr ∧ Own wr (w2.heap.size + 1) 3 1 AO acc.length capO (acc.map (Value.int .i64)) ∧
          ∀ y ∈ t.links.take j, ∀ n' cy (i' : Nat) d', leads dk p y at_ = some (n', cy) → t.places[i']? = some n' → E[i']? = some (some d') → addC cy d' ≠ cc)) (fun _ _ vj _ => m - (intOf vj).toNat)
        case atStart => exact ⟨0, rfl, rfl, rfl, Nat.zero_le _, Lib.hid ⟨HS.out.1, HS.out.2.2.2.2.2.2, fun y hy => by simp at hy⟩⟩
        case round =>
          obtain ⟨j, rfl, rfl, rfl, hjm, HU⟩ := hrel
          have HREL := Lib.hid HS.out.2
          clear HS
          by_cases hjl : j < m
          · obtain ⟨b, off, x, rfl, hb, hx, l0, l1, l2, l3, l4⟩ := (HT.out.below HU.out.1.bel).cell hjl
            have hbl : b < wr.heap.size := Nat.lt_of_lt_of_le hb HU.out.1.bel.size
            have HX := Lib.hid hx
            clear hx hb t0 t1
            have p0 := HU.out.1.pb.cell 0
            have p1 := HU.out.1.pb.cell 1
            have p2 := HU.out.1.pb.cell 2
            have hpl := HU.out.1.pb.lt
            have htl := HU.out.1.tb.lt
            gi_wp2
            have HS4 : Hid (RFSt w #[.slice A n c, .slice (some ⟨b, off, none⟩) m d] p (some ⟨be, oe, none⟩) n E w2.heap.size k0 (wr.alloc (.cells #[.int .i64 x.id, .int .i64 x.fr, .int .i64 x.to, .int .i64 x.steps, .int .i64 x.paces] 45)) ∧ Own (wr.alloc (.cells #[.int .i64 x.id, .int .i64 x.fr, .int .i64 x.to, .int .i64 x.steps, .int .i64 x.paces] 45)) (w2.heap.size + 1) 3 1 AO acc.length capO (acc.map (Value.int .i64))) := Lib.hid ⟨HU.out.1.below ((Below.refl _ _).alloc (Nat.le_refl _) _), HU.out.2.1.alloc _⟩
            have HLB4 : Hid (Blk (wr.alloc (.cells #[.int .i64 x.id, .int .i64 x.fr, .int .i64 x.to, .int .i64 x.steps, .int .i64 x.paces] 45)) wr.heap.size 45 #[.int .i64 x.id, .int .i64 x.fr, .int .i64 x.to, .int .i64 x.steps, .int .i64 x.paces]) := Lib.hid (Blk.new _ _ _)
            have HNO := Lib.hid HU.out.2.2
            have HLO : Hid (w2.heap.size + 1 ≤ wr.heap.size) := Lib.hid (HU.out.1.fb.lt)
            have HXM : Hid (x ∈ t.links) := Lib.hid (List.mem_of_getElem? HX.out)
            have HFit : Hid (Fit x) := Lib.hid ⟨HFI.out.steps x HXM.out, HFI.out.paces x HXM.out⟩
            clear HU p0 p1 p2 l0 l1 l2 l3 l4 hbl hpl htl
            generalize (wr.alloc (.cells #[.int .i64 x.id, .int .i64 x.fr, .int .i64 x.to, .int .i64 x.steps, .int .i64 x.paces] 45)) = w4 at *
            have e1 : ((j + 1 : Nat) : Int) = (j : Int) + 1 := by omega
            refine ⟨trivial, (callsIn_wide.2 (leads_any x at_ dk p w4 HFit.out HP.out)).mono ?_⟩
            rcases hld : leads dk p x at_ with _ | ⟨v', cx⟩
            · rintro e w5 ⟨he, hb5⟩
              obtain rfl : e = .returned (.tuple #[.int .i64 0, .agg #[.int .i64 0, .int .i64 0, .int .i64 0, .int .i64 0], .bool false]) := he
              have HLD := Lib.hid hld
              have HS5 := Lib.hid (show _ ∧ _ from ⟨HS4.out.1.below hb5, HS4.out.2.below hb5 (Nat.le_refl _)⟩)
              clear hld hb5
              gi_wp2
              have HS6 := Lib.hid (show _ ∧ _ from ⟨HS5.out.1.below ((Below.refl _ _).alloc (Nat.le_refl _) (.cells #[.int .i64 0, .int .i64 0, .int .i64 0, .int .i64 0] 103)), HS5.out.2.alloc (.cells #[.int .i64 0, .int .i64 0, .int .i64 0, .int .i64 0] 103)⟩)
              generalize (w5.alloc (.cells #[.int .i64 0, .int .i64 0, .int .i64 0, .int .i64 0] 103)) = w6 at *
              refine wpIn_region_old (AF := ?AF1) [0, 1, 2, 3, 4, 5, 6, 7, 8, 9, 10, 11, 12, 13, 14, 15, 16, 17] [] [true, true, true, true, true, true, true, true, true, true, true, true, true, true, true, true, true, true] [false, false, false, false, false, false, false, false, false, false, false, false, false, false, false, false, false, false] (by kernel_rfl) (by kernel_rfl) (by kernel_rfl) (by kernel_rfl) (by kernel_rfl) (below_drewN (Below.refl _ _) 1) ?hq1 ?ht1
              case hq1 =>
                rintro σ hσ of hof hcl
                have HOF := Lib.hid hof
                have HCL := Lib.hid hcl
                clear hof hcl
                have hfw : ∀ f, Fence.wide.fn f := fun _ => trivial
                simp only [pickB]
                repeat (gi_big_quiet_step (fail))
                refine wpQuietIn_nil ?_
                exact rfl
              case ht1 =>
                intro W hb
                have HS7 := Lib.hid (show _ ∧ _ from ⟨HS6.out.1.below hb, HS6.out.2.below hb (Nat.le_refl _)⟩)
                clear hb
                simp only [pickB]
                refine wpE_nil ?_
                gi_wp2
                refine ⟨⟨j + 1, rfl, rfl, by rw [e1], by omega, Lib.hid ⟨HS7.out.1, HS7.out.2, fun y hy n' cy i' d' g1 g2 g3 => ?_⟩⟩, by simp [intOf]; omega⟩
                rw [List.take_add_one, HX.out] at hy
                rcases List.mem_append.1 hy with hy | hy
                · exact HNO.out y hy n' cy i' d' g1 g2 g3
                · obtain rfl : y = x := by simpa using hy
                  rw [HLD.out] at g1
                  cases g1
            · rintro e w5 ⟨he, hb5⟩
              obtain rfl : e = .returned (.tuple #[.int .i64 v', .agg #[.int .i64 cx.a, .int .i64 cx.b, .int .i64 cx.c, .int .i64 cx.d], .bool true]) := he
              have HLD := Lib.hid hld
              have HS5 := Lib.hid (show _ ∧ _ from ⟨HS4.out.1.below hb5, HS4.out.2.below hb5 (Nat.le_refl _)⟩)
              have HLB5 := Lib.hid (HLB4.out.below hb5 HLB4.out.lt)
              clear hld hb5
              obtain ⟨i2, hpi, hi2, hi2l⟩ := placeI_at (leads_ends HXM.out HFI.out HLD.out).2
              have HPI2 := Lib.hid hpi
              have HI2 := Lib.hid hi2
              have hi2n : i2 < n := by have := HLn.out; omega
              obtain ⟨r, hr⟩ : ∃ r, E[i2]? = some r := ⟨_, List.getElem?_eq_getElem (by rw [HC.out.1]; exact hi2l)⟩
              have HR2 := Lib.hid hr
              have HCX := Lib.hid (leads_cost HXM.out HFI.out HFA.out HLD.out)
              have HSM : Hid (Small cx ∧ Small (entC r)) := Lib.hid ⟨by
                have h1 := HCX.out
                exact ⟨by omega, by omega, by omega, by omega⟩, Small.ent fun d hd => HL.out i2 d (by rw [HR2.out, hd])⟩
              have HUQ : Hid (∀ (i' : Nat), t.places[i']? = some v' → i' = i2) := Lib.hid (fun i' h => by
                have hl := (List.getElem?_eq_some_iff.1 h).1
                exact (List.getElem?_inj hl HND.out).1 (h.trans HI2.out.symm))
              have HPIA : Hid (placeI t.places at_ = ia ∧ ia < n) := Lib.hid (by
                obtain ⟨i', h1, h2, h3⟩ := placeI_at (List.mem_of_getElem? HREL.out.1)
                have h4 : i' = ia := (List.getElem?_inj h3 HND.out).1 (h2.trans HREL.out.1.symm)
                rw [← h4]
                exact ⟨h1, by have := HLn.out; omega⟩)
              have hian : ia < n := HPIA.out.2
              have hi2I : (0 : Int) ≤ (i2 : Int) ∧ (i2 : Int) < (n : Int) := by omega
              have hiaI : (0 : Int) ≤ (ia : Int) ∧ (ia : Int) < (n : Int) := by omega
              clear hpi hi2 hi2l hr
              gi_wp2
              have HS6 := Lib.hid (show _ ∧ _ from ⟨HS5.out.1.below ((Below.refl _ _).alloc (Nat.le_refl _) (.cells #[.int .i64 cx.a, .int .i64 cx.b, .int .i64 cx.c, .int .i64 cx.d] 103)), HS5.out.2.alloc (.cells #[.int .i64 cx.a, .int .i64 cx.b, .int .i64 cx.c, .int .i64 cx.d] 103)⟩)
              have HLB6 := Lib.hid (HLB5.out.alloc (.cells #[.int .i64 cx.a, .int .i64 cx.b, .int .i64 cx.c, .int .i64 cx.d] 103))
              have HCB6 : Hid (Blk (w5.alloc (.cells #[.int .i64 cx.a, .int .i64 cx.b, .int .i64 cx.c, .int .i64 cx.d] 103)) w5.heap.size 103 #[.int .i64 cx.a, .int .i64 cx.b, .int .i64 cx.c, .int .i64 cx.d]) := Lib.hid (Blk.new _ _ _)
              generalize (w5.alloc (.cells #[.int .i64 cx.a, .int .i64 cx.b, .int .i64 cx.c, .int .i64 cx.d] 103)) = w6 at *
              have hcb6 : w5.heap.size < w6.heap.size := HCB6.out.lt
              have hbe6 : be < w6.heap.size := by have := HS6.out.1.fb.lt; omega
              have htl6 : w.heap.size < w6.heap.size := HS6.out.1.tb.lt
              obtain ⟨s, hs⟩ : ∃ s, addC cx (entC r) = s := ⟨_, rfl⟩
              have HSS := Lib.hid hs
              clear hs
              by_cases hsc : s = cc
              · have HSC : Hid (decide (s = cc) = true) := Lib.hid (decide_eq_true hsc)
                clear hsc
                refine wpIn_region_old (AF := ?AF2) [0, 1, 2, 3, 4, 5, 6, 7, 8, 9, 10, 11, 12, 13, 14, 15, 16, 17] [] [true, true, true, true, true, true, true, true, true, true, true, true, true, true, true, true, true, true] [false, false, false, false, false, false, false, false, false, false, false, false, false, false, false, false, false, false] (by kernel_rfl) (by kernel_rfl) (by kernel_rfl) (by kernel_rfl) (by kernel_rfl) (below_drewN (Below.refl _ _) 1) ?hq2 ?ht2
                case hq2 =>
                  rintro σ hσ of hof hcl
                  have HOF := Lib.hid hof
                  have HCL := Lib.hid hcl
                  clear hof hcl
                  have q0 : ∀ z, (of z).cell? ⟨w5.heap.size, 0, none⟩ = some (.int .i64 cx.a) := fun z => (HCB6.out.below (HOF.out z) hcb6).cell 0
                  have q1 : ∀ z, (of z).cell? ⟨w5.heap.size, 1, none⟩ = some (.int .i64 cx.b) := fun z => (HCB6.out.below (HOF.out z) hcb6).cell 1
                  have q2 : ∀ z, (of z).cell? ⟨w5.heap.size, 2, none⟩ = some (.int .i64 cx.c) := fun z => (HCB6.out.below (HOF.out z) hcb6).cell 2
                  have q3 : ∀ z, (of z).cell? ⟨w5.heap.size, 3, none⟩ = some (.int .i64 cx.d) := fun z => (HCB6.out.below (HOF.out z) hcb6).cell 3
                  have t0 : ∀ z, (of z).cell? ⟨w.heap.size, 0, none⟩ = some (.slice A n c) := fun z => (HS6.out.1.tb.below (HOF.out z) htl6).cell 0
                  have t1 : ∀ z, (of z).cell? ⟨w.heap.size, 1, none⟩ = some (.slice (some ⟨b, off, none⟩) m d) := fun z => (HS6.out.1.tb.below (HOF.out z) htl6).cell 1
                  have v0 : ∀ z, (of z).cell? ⟨be, oe + i2 * 4, none⟩ = some (.int .i64 (entC r).a) := fun z => ((HS6.out.1.below (HOF.out z)).entry HR2.out).1
                  have v1 : ∀ z, (of z).cell? ⟨be, oe + i2 * 4 + 1, none⟩ = some (.int .i64 (entC r).b) := fun z => ((HS6.out.1.below (HOF.out z)).entry HR2.out).2.1
                  have v2 : ∀ z, (of z).cell? ⟨be, oe + i2 * 4 + 2, none⟩ = some (.int .i64 (entC r).c) := fun z => ((HS6.out.1.below (HOF.out z)).entry HR2.out).2.2.1
                  have v3 : ∀ z, (of z).cell? ⟨be, oe + i2 * 4 + 3, none⟩ = some (.int .i64 (entC r).d) := fun z => ((HS6.out.1.below (HOF.out z)).entry HR2.out).2.2.2
                  have u0 : ∀ z, (of z).cell? ⟨be, oe + ia * 4, none⟩ = some (.int .i64 cc.a) := fun z => ((HS6.out.1.below (HOF.out z)).entry HREL.out.2.1).1
                  have u1 : ∀ z, (of z).cell? ⟨be, oe + ia * 4 + 1, none⟩ = some (.int .i64 cc.b) := fun z => ((HS6.out.1.below (HOF.out z)).entry HREL.out.2.1).2.1
                  have u2 : ∀ z, (of z).cell? ⟨be, oe + ia * 4 + 2, none⟩ = some (.int .i64 cc.c) := fun z => ((HS6.out.1.below (HOF.out z)).entry HREL.out.2.1).2.2.1
                  have u3 : ∀ z, (of z).cell? ⟨be, oe + ia * 4 + 3, none⟩ = some (.int .i64 cc.d) := fun z => ((HS6.out.1.below (HOF.out z)).entry HREL.out.2.1).2.2.2
                  have hfw : ∀ f, Fence.wide.fn f := fun _ => trivial
                  simp only [pickB]
                  iterate 7 (gi_big_quiet_step (exact place_cls A n c (some ⟨b, off, none⟩) m d t v' i2 HPI2.out (by unfold maxLen; omega) w.heap.size HS6.out.1.bel.size (HA.out.below HS6.out.1.bel) HOF.out HCL.out _))
                  iterate 3 (gi_big_quiet_step (exact rplus_cls' cx (entC r) s HSS.out HSM.out.1 HSM.out.2 HOF.out HCL.out _))
                  iterate 6 (gi_big_quiet_step (exact place_cls A n c (some ⟨b, off, none⟩) m d t at_ ia HPIA.out.1 (by unfold maxLen; omega) w.heap.size HS6.out.1.bel.size (HA.out.below HS6.out.1.bel) HOF.out HCL.out _))
                  have hql : ∀ W : World, (binOp .eql 103 (.agg #[.int .i64 s.a, .int .i64 s.b, .int .i64 s.c, .int .i64 s.d]) (.agg #[.int .i64 cc.a, .int .i64 cc.b, .int .i64 cc.c, .int .i64 cc.d])).run Tryd.prog W = .ok (.bool true) W := fun W => (eql_cost s cc W).trans (by rw [HSC.out])
                  gi_big_quiet_step (fail)
                  gi_big_quiet_step (fail)
                  refine wpQuietIn_nil ?_
                  exact rfl
                case ht2 =>
                  intro W hb
                  have HS7 := Lib.hid (show _ ∧ _ from ⟨HS6.out.1.below hb, HS6.out.2.below hb (Nat.le_refl _)⟩)
                  have HLB7 := Lib.hid (HLB6.out.below hb HLB6.out.lt)
                  clear hb
                  simp only [pickB]
                  refine wpE_nil ?_
                  obtain ⟨d1, hd1⟩ : ∃ d1, r = some d1 := by
                    cases hr1 : r with
                    | some d1 => exact ⟨d1, rfl⟩
                    | none =>
                      exfalso
                      have h1 := HCX.out
                      have h2 : s.a = cx.a + 1000000000 := by rw [← HSS.out, hr1]; rfl
                      have h3 := of_decide_eq_true HSC.out
                      have h4 := (HL.out ia cc HREL.out.2.1).a
                      rw [h3] at h2
                      omega
                  have HD1 : Hid (E[i2]? = some (some d1)) := Lib.hid (by rw [HR2.out, hd1])
                  have HADD : Hid (addC cx d1 = cc) := Lib.hid (by
                    have h3 := of_decide_eq_true HSC.out
                    rw [← h3, ← HSS.out, hd1]
                    rfl)
                  have HAL : Hid (acc.length ≤ 2000) := Lib.hid (by
                    have h1 := HREL.out.2.2.1.bound HFI.out HFA.out
                    have h2 := (HL.out i0 k0 HR.out).d
                    have h3 := (HL.out ia cc HREL.out.2.1).d
                    have h4 : ca.d + cc.d = k0.d := by rw [← HREL.out.2.2.2.1]; rfl
                    omega)
                  have hal := HAL.out
                  have l0 := HLB7.out.cell 0
                  have HOW := Lib.hid (HS7.out.2.alloc (.cells #[.int .i64 x.id] 3))
                  have HOB : Hid (Blk (W.alloc (.cells #[.int .i64 x.id] 3)) W.heap.size 3 #[.int .i64 x.id]) := Lib.hid (Blk.new _ _ _)
                  have HSW := Lib.hid (HS7.out.1.below ((Below.refl _ _).alloc (Nat.le_refl _) (.cells #[.int .i64 x.id] 3)))
                  gi_wp2_with (first | (gi_at_builtin; refine wpListIn_append_any rfl (.tmp 73) (.tmp 76) (by rfl) elem_int rfl HOW.out rfl (one_int (x := x.id) HOB.out.lt (HOB.out.cell 0)) (ints_one _) (by unfold maxLen; omega) (by omega) HSW.out.fb.lt ?_) | fail)
                  rintro A8 c8 W8 hown hgr hA8
                  have hbV : Below (w2.heap.size + 1) (W.alloc (.cells #[.int .i64 x.id] 3)) W8 := below_of_grown hgr (fun k hk => own_row HOW.out hk) HSW.out.fb.lt
                  have HS8 := Lib.hid (HSW.out.low hbV)
                  have HOW8 := Lib.hid hown
                  clear hown hgr hA8 hbV l0
                  gi_wp2
                  gi_roundg (d1.c.toNat)
                  case rel =>
                    refine ⟨v', i2, addC ca cx, d1, acc ++ [x.id], A8, c8, rfl, by simp, rfl, Lib.hid ⟨HS8.out, HI2.out, HD1.out, HREL.out.2.2.1.snoc HXM.out HLD.out, by rw [addC_assoc, HADD.out]; exact HREL.out.2.2.2.1, fun c' r' hf => ?_, ?_⟩⟩
                    · have h1 := (greedy HC.out HFI.out HFA.out HREL.out.1 HREL.out.2.1 HNE.out).2 j x v' cx i2 d1 HX.out HLD.out HI2.out HD1.out HADD.out HNO.out c' r' hf
                      have h2 := HREL.out.2.2.2.2.1 _ _ h1
                      rw [addC_assoc, List.append_assoc]
                      exact h2
                    · have h := HOW8.out
                      simpa using h
                  case measure =>
                    have h1 := HCX.out
                    have h2 := (HL.out i2 d1 HD1.out).c
                    have h3 : cx.c + d1.c = cc.c := by rw [← HADD.out]; rfl
                    rw [hg]
                    omega
              · have HSC : Hid (decide (s = cc) = false) := Lib.hid (decide_eq_false hsc)
                clear hsc
                refine wpIn_region_old (AF := ?AF3) [0, 1, 2, 3, 4, 5, 6, 7, 8, 9, 10, 11, 12, 13, 14, 15, 16, 17] [] [true, true, true, true, true, true, true, true, true, true, true, true, true, true, true, true, true, true] [false, false, false, false, false, false, false, false, false, false, false, false, false, false, false, false, false, false] (by kernel_rfl) (by kernel_rfl) (by kernel_rfl) (by kernel_rfl) (by kernel_rfl) (below_drewN (Below.refl _ _) 1) ?hq3 ?ht3
                case hq3 =>
                  rintro σ hσ of hof hcl
                  have HOF := Lib.hid hof
                  have HCL := Lib.hid hcl
                  clear hof hcl
                  have q0 : ∀ z, (of z).cell? ⟨w5.heap.size, 0, none⟩ = some (.int .i64 cx.a) := fun z => (HCB6.out.below (HOF.out z) hcb6).cell 0
                  have q1 : ∀ z, (of z).cell? ⟨w5.heap.size, 1, none⟩ = some (.int .i64 cx.b) := fun z => (HCB6.out.below (HOF.out z) hcb6).cell 1
                  have q2 : ∀ z, (of z).cell? ⟨w5.heap.size, 2, none⟩ = some (.int .i64 cx.c) := fun z => (HCB6.out.below (HOF.out z) hcb6).cell 2
                  have q3 : ∀ z, (of z).cell? ⟨w5.heap.size, 3, none⟩ = some (.int .i64 cx.d) := fun z => (HCB6.out.below (HOF.out z) hcb6).cell 3
                  have t0 : ∀ z, (of z).cell? ⟨w.heap.size, 0, none⟩ = some (.slice A n c) := fun z => (HS6.out.1.tb.below (HOF.out z) htl6).cell 0
                  have t1 : ∀ z, (of z).cell? ⟨w.heap.size, 1, none⟩ = some (.slice (some ⟨b, off, none⟩) m d) := fun z => (HS6.out.1.tb.below (HOF.out z) htl6).cell 1
                  have v0 : ∀ z, (of z).cell? ⟨be, oe + i2 * 4, none⟩ = some (.int .i64 (entC r).a) := fun z => ((HS6.out.1.below (HOF.out z)).entry HR2.out).1
                  have v1 : ∀ z, (of z).cell? ⟨be, oe + i2 * 4 + 1, none⟩ = some (.int .i64 (entC r).b) := fun z => ((HS6.out.1.below (HOF.out z)).entry HR2.out).2.1
                  have v2 : ∀ z, (of z).cell? ⟨be, oe + i2 * 4 + 2, none⟩ = some (.int .i64 (entC r).c) := fun z => ((HS6.out.1.below (HOF.out z)).entry HR2.out).2.2.1
                  have v3 : ∀ z, (of z).cell? ⟨be, oe + i2 * 4 + 3, none⟩ = some (.int .i64 (entC r).d) := fun z => ((HS6.out.1.below (HOF.out z)).entry HR2.out).2.2.2
                  have u0 : ∀ z, (of z).cell? ⟨be, oe + ia * 4, none⟩ = some (.int .i64 cc.a) := fun z => ((HS6.out.1.below (HOF.out z)).entry HREL.out.2.1).1
                  have u1 : ∀ z, (of z).cell? ⟨be, oe + ia * 4 + 1, none⟩ = some (.int .i64 cc.b) := fun z => ((HS6.out.1.below (HOF.out z)).entry HREL.out.2.1).2.1
                  have u2 : ∀ z, (of z).cell? ⟨be, oe + ia * 4 + 2, none⟩ = some (.int .i64 cc.c) := fun z => ((HS6.out.1.below (HOF.out z)).entry HREL.out.2.1).2.2.1
                  have u3 : ∀ z, (of z).cell? ⟨be, oe + ia * 4 + 3, none⟩ = some (.int .i64 cc.d) := fun z => ((HS6.out.1.below (HOF.out z)).entry HREL.out.2.1).2.2.2
                  have hfw : ∀ f, Fence.wide.fn f := fun _ => trivial
                  simp only [pickB]
                  iterate 7 (gi_big_quiet_step (exact place_cls A n c (some ⟨b, off, none⟩) m d t v' i2 HPI2.out (by unfold maxLen; omega) w.heap.size HS6.out.1.bel.size (HA.out.below HS6.out.1.bel) HOF.out HCL.out _))
                  iterate 3 (gi_big_quiet_step (exact rplus_cls' cx (entC r) s HSS.out HSM.out.1 HSM.out.2 HOF.out HCL.out _))
                  iterate 6 (gi_big_quiet_step (exact place_cls A n c (some ⟨b, off, none⟩) m d t at_ ia HPIA.out.1 (by unfold maxLen; omega) w.heap.size HS6.out.1.bel.size (HA.out.below HS6.out.1.bel) HOF.out HCL.out _))
                  have hql : ∀ W : World, (binOp .eql 103 (.agg #[.int .i64 s.a, .int .i64 s.b, .int .i64 s.c, .int .i64 s.d]) (.agg #[.int .i64 cc.a, .int .i64 cc.b, .int .i64 cc.c, .int .i64 cc.d])).run Tryd.prog W = .ok (.bool false) W := fun W => (eql_cost s cc W).trans (by rw [HSC.out])
                  gi_big_quiet_step (fail)
                  gi_big_quiet_step (fail)
                  refine wpQuietIn_nil ?_
                  exact rfl
                case ht3 =>
                  intro W hb
                  have HS7 := Lib.hid (show _ ∧ _ from ⟨HS6.out.1.below hb, HS6.out.2.below hb (Nat.le_refl _)⟩)
                  clear hb
                  simp only [pickB]
                  refine wpE_nil ?_
                  gi_wp2
                  refine ⟨⟨j + 1, rfl, rfl, by rw [e1], by omega, Lib.hid ⟨HS7.out.1, HS7.out.2, fun y hy n' cy i' d' g1 g2 g3 => ?_⟩⟩, by simp [intOf]; omega⟩
                  rw [List.take_add_one, HX.out] at hy
                  rcases List.mem_append.1 hy with hy | hy
                  · exact HNO.out y hy n' cy i' d' g1 g2 g3
                  · obtain rfl : y = x := by simpa using hy
                    rw [HLD.out] at g1
                    cases g1
                    obtain rfl := HUQ.out i' g2
                    rw [HR2.out] at g3
                    cases g3
                    have h1 := of_decide_eq_false HSC.out
                    intro h2
                    exact h1 (HSS.out.symm.trans h2)
          · obtain rfl : j = m := by omega
            exfalso
            obtain ⟨x, hx, n', cx, i2, d', h1, h2, h3, h4⟩ := (greedy HC.out HFI.out HFA.out HREL.out.1 HREL.out.2.1 HNE.out).1
            exact HU.out.2.2 x (by rw [List.take_of_length_le (by rw [HLm.out]; exact Nat.le_refl _)]; exact hx) n' cx i2 d' h1 h2 h3 h4

theorem rfirst_any (A : Option Addr) (n c : Nat) (A' : Option Addr) (m d : Nat) (p : Price) (t : Town) (dk : Bool) (v to : Int) (w : World)
    (hm : m ≤ 20) (ha : IntsAt w w.heap.size A n t.places) (ht : LinksAt w w.heap.size A' m t.links) (hp : Cheap p) (hfine : Fine t) (hfair : Fair p) (hnd : t.places.Nodup) (hv : v ∈ t.places) :
    Calls Tryd.prog 57 #[.agg #[.slice A n c, .slice A' m d], .int .i64 v, .int .i64 to, .bool dk, .agg #[.int .i64 p.pace, .int .i64 p.up, .int .i64 p.step]] w (RFirstOut w (best t dk p v to)) :=
  callsIn_wide.1 (rfirst_in A n c A' m d p t dk v to w hm ha ht hp hfine hfair hnd hv)
end Go.Proofs.YtahkjagjcogeiaaDoor
/- The answer's Has. -/
namespace Go.Proofs.YtahkjagjcogeiaaDoor
open Go.RowKit Go.Shelf
set_option linter.unusedVariables false

set_option maxRecDepth 100000 in
set_option maxHeartbeats 16000000 in
theorem rhas_in (A : Option Addr) (n c : Nat) (A' : Option Addr) (m d : Nat) (t : Town) (u v : Int) (dk : Bool) (w : World)
    (hm : m ≤ 20) (ht : TownAt w w.heap.size A n A' m t) (hg : GoodT t) (hu : u ∈ t.places) :
    CallsIn Fence.wide 9 Tryd.prog 73 #[.agg #[.slice A n c, .slice A' m d], .int .i64 u, .int .i64 v, .bool dk] w (fun x w' => x = .returned (.bool (best t dk freeP u v).isSome) ∧ Below w.heap.size w w') := by
  have HT := Lib.hid ht
  have HG := Lib.hid hg
  clear ht hg
  refine callsIn_of_wp Tryd.func73 rfl trivial ?_ rfl
  simp only [Tryd.ntmps73, List.size_toArray, List.length_cons, List.length_nil, Nat.reduceAdd, Nat.reduceSub, Array.replicate_succ, Array.replicate_zero, List.push_toArray, List.append_toArray, List.nil_append, List.cons_append]
  gi_wp2
  have HLay := Lib.hid (Lay.one w 25 #[.slice A n c, .slice A' m d])
  generalize (w.alloc (.cells #[.slice A n c, .slice A' m d] 25)) = w0 at *
  refine ⟨trivial, (callsIn_wide.2 (rfirst_any A n c A' m d freeP t dk u v w0 hm ((HT.out.places.below HLay.out.1).more HLay.out.1.size) ((HT.out.links.below HLay.out.1).more HLay.out.1.size) freeP_cheap HG.out.fine freeP_fair HG.out.nodup hu)).mono ?_⟩
  rintro e W1 ⟨AO, nO, cO, co, rfl, hno, hq, hfr, hb⟩
  replace HLay := Lib.hid (HLay.out.below hb)
  clear hb
  clear hno hq hfr
  gi_wp2
  exact bodyPost_ret (v := .bool (best t dk freeP u v).isSome) (by simp [results, Tryd.results73, go_sem]) rfl ⟨rfl, HLay.out.1.alloc HLay.out.1.size _⟩

theorem rhas_any (A : Option Addr) (n c : Nat) (A' : Option Addr) (m d : Nat) (t : Town) (u v : Int) (dk : Bool) (w : World)
    (hm : m ≤ 20) (ht : TownAt w w.heap.size A n A' m t) (hg : GoodT t) (hu : u ∈ t.places) :
    Calls Tryd.prog 73 #[.agg #[.slice A n c, .slice A' m d], .int .i64 u, .int .i64 v, .bool dk] w (fun x w' => x = .returned (.bool (best t dk freeP u v).isSome) ∧ Below w.heap.size w w') :=
  callsIn_wide.1 (rhas_in A n c A' m d t u v dk w hm ht hg hu)
end Go.Proofs.YtahkjagjcogeiaaDoor
/- The answer's spans, skins and gaits. -/
namespace Go.Proofs.YtahkjagjcogeiaaDoor
open Go.RowKit
set_option linter.unusedVariables false

theorem inB_span (most : Int) (x : Span) : (inB 0 most [x.hi] && inB 0 x.hi [x.lo]) = spanB most x := by
  unfold spanB inB
  simp only [List.any_cons, List.any_nil, Bool.or_false]
  by_cases h1 : x.hi < 0 <;> by_cases h2 : most < x.hi <;> by_cases h3 : x.lo < 0 <;> by_cases h4 : x.hi < x.lo <;> simp [h1, h2, h3, h4] <;> omega

set_option maxRecDepth 100000 in
set_option maxHeartbeats 2000000 in
theorem rspanned_any (x : Span) (most : Int) (w : World) :
    Calls Tryd.prog 111 #[.agg #[.int .i64 x.lo, .int .i64 x.hi], .int .i64 most] w fun e w' => e = .returned (.bool (spanB most x)) ∧ Below w.heap.size w w' := by
  have HS := Lib.hid (inB_span most x)
  have B0 : Below w.heap.size w (w.alloc (.cells #[.int .i64 x.lo, .int .i64 x.hi] 27)) := (Below.refl _ _).alloc (Nat.le_refl _) _
  go_enter Tryd.func111, Tryd.ntmps111
  go_wp2_with fail
  refine (within_any x.hi 0 most _).mono ?_
  rintro e w1 ⟨rfl, rfl⟩
  cases hi : inB 0 most [x.hi] with
  | false =>
    have HI := Lib.hid hi
    clear hi
    go_wp2_with fail
    go_ret
    exact ⟨ret_bool (by rw [← HS.out, HI.out]; rfl), B0⟩
  | true =>
    have HI := Lib.hid hi
    clear hi
    go_wp2_with fail
    refine (within_any x.lo 0 x.hi _).mono ?_
    rintro e w1 ⟨rfl, rfl⟩
    go_wp2_with fail
    go_ret
    exact ⟨ret_bool (by rw [← HS.out, HI.out]; rfl), B0⟩

set_option maxRecDepth 100000 in
set_option maxHeartbeats 2000000 in
theorem rskin_any (s : Skin) (w : World) :
    Calls Tryd.prog 53 #[.agg #[.int .i64 s.drops, .int .i64 s.pace.lo, .int .i64 s.pace.hi, .int .i64 s.step.lo, .int .i64 s.step.hi]] w fun e w' => e = .returned (.bool (skinB s)) ∧ Below w.heap.size w w' := by
  have hs : skinB s = (inB 0 100000 [s.drops] && (spanB 50 s.pace && spanB 50 s.step)) := by
    unfold skinB spansB
    simp [Bool.not_or]
  have HS := Lib.hid hs
  clear hs
  go_enter Tryd.func53, Tryd.ntmps53
  go_wp2_with fail
  refine (within_any s.drops 0 100000 _).mono ?_
  rintro e w1 ⟨rfl, rfl⟩
  have B0 : Below w.heap.size w (w.alloc (.cells #[.int .i64 s.drops, .int .i64 s.pace.lo, .int .i64 s.pace.hi, .int .i64 s.step.lo, .int .i64 s.step.hi] 29)) := (Below.refl _ _).alloc (Nat.le_refl _) _
  have X0 := Blk.new w 29 #[.int .i64 s.drops, .int .i64 s.pace.lo, .int .i64 s.pace.hi, .int .i64 s.step.lo, .int .i64 s.step.hi]
  cases hi : inB 0 100000 [s.drops] with
  | false =>
    have HI := Lib.hid hi
    clear hi
    go_wp2_with fail
    go_ret
    exact ⟨ret_bool (by rw [HS.out, HI.out]; rfl), B0⟩
  | true =>
    have HI := Lib.hid hi
    clear hi
    go_wp2_with fail
    refine (rspanned_any s.pace 50 _).mono ?_
    rintro e w1 ⟨rfl, hb1⟩
    have X1 := X0.below hb1 X0.lt
    have B1 := B0.trans (hb1.mono B0.size)
    have x3 := X1.cell 3
    have x4 := X1.cell 4
    clear X0 hb1 B0 X1
    cases hj : spanB 50 s.pace with
    | false =>
      have HJ := Lib.hid hj
      clear hj
      go_wp2_with fail
      go_ret
      exact ⟨ret_bool (by rw [HS.out, HI.out, HJ.out]; rfl), B1⟩
    | true =>
      have HJ := Lib.hid hj
      clear hj
      go_wp2_with fail
      refine (rspanned_any s.step 50 _).mono ?_
      rintro e w2 ⟨rfl, hb2⟩
      have B2 := B1.trans (hb2.mono B1.size)
      clear hb2
      go_wp2_with fail
      go_ret
      exact ⟨ret_bool (by rw [HS.out, HI.out, HJ.out]; rfl), B2⟩

set_option maxRecDepth 100000 in
set_option maxHeartbeats 2000000 in
theorem rgait_any (s : Gait) (w : World) :
    Calls Tryd.prog 85 #[.agg #[.int .i64 s.pace.lo, .int .i64 s.pace.hi, .int .i64 s.step.lo, .int .i64 s.step.hi]] w fun e w' => e = .returned (.bool (gaitB s)) ∧ Below w.heap.size w w' := by
  have hs : gaitB s = (spanB 20 s.pace && spanB 20 s.step) := by
    unfold gaitB spansB
    simp [Bool.not_or]
  have HS := Lib.hid hs
  clear hs
  go_enter Tryd.func85, Tryd.ntmps85
  go_wp2_with fail
  have B0 : Below w.heap.size w (w.alloc (.cells #[.int .i64 s.pace.lo, .int .i64 s.pace.hi, .int .i64 s.step.lo, .int .i64 s.step.hi] 66)) := (Below.refl _ _).alloc (Nat.le_refl _) _
  have X0 := Blk.new w 66 #[.int .i64 s.pace.lo, .int .i64 s.pace.hi, .int .i64 s.step.lo, .int .i64 s.step.hi]
  refine (rspanned_any s.pace 20 _).mono ?_
  rintro e w1 ⟨rfl, hb1⟩
  have X1 := X0.below hb1 X0.lt
  have B1 := B0.trans (hb1.mono B0.size)
  have x2 := X1.cell 2
  have x3 := X1.cell 3
  clear X0 hb1 B0 X1
  cases hj : spanB 20 s.pace with
  | false =>
    have HJ := Lib.hid hj
    clear hj
    go_wp2_with fail
    go_ret
    exact ⟨ret_bool (by rw [HS.out, HJ.out]; rfl), B1⟩
  | true =>
    have HJ := Lib.hid hj
    clear hj
    go_wp2_with fail
    refine (rspanned_any s.step 20 _).mono ?_
    rintro e w2 ⟨rfl, hb2⟩
    have B2 := B1.trans (hb2.mono B1.size)
    clear hb2
    go_wp2_with fail
    go_ret
    exact ⟨ret_bool (by rw [HS.out, HJ.out]; rfl), B2⟩

set_option maxRecDepth 100000 in
set_option maxHeartbeats 2000000 in
theorem lost_any (pace step : Int) (w : World) :
    Calls Tryd.prog 55 #[.int .i64 pace, .int .i64 step] w fun e w' => e = .returned (.agg #[.int .i64 pace, .int .i64 0, .int .i64 step]) ∧ Below w.heap.size w w' := by
  go_enter Tryd.func55, Tryd.ntmps55
  go_wp2_with fail
  exact bodyPost_ret (v := .agg #[.int .i64 pace, .int .i64 0, .int .i64 step]) (by simp [results, Tryd.results55, go_sem]) rfl ⟨rfl, (Below.refl _ _).alloc (Nat.le_refl _) _⟩
end Go.Proofs.YtahkjagjcogeiaaDoor
/- The answer's asked. -/
namespace Go.Proofs.YtahkjagjcogeiaaDoor
open Go.RowKit
set_option linter.unusedVariables false

theorem hasB_two (t : Town) (x y : Int) : hasB t [x, y] = (memI t.places x && memI t.places y) := by
  unfold hasB
  simp [Bool.not_or]

set_option maxRecDepth 100000 in
set_option maxHeartbeats 2000000 in
theorem rasked_any (A : Option Addr) (n c : Nat) (A' : Option Addr) (m d : Nat) (t : Town) (x y : Int) (w : World) (hn : n ≤ 1000) (hm : m ≤ 1000) (ht : TownAt w w.heap.size A n A' m t) :
    Calls Tryd.prog 52 #[.agg #[.slice A n c, .slice A' m d], .int .i64 x, .int .i64 y] w fun e w' => e = .returned (.int .i64 (askE t [x, y])) ∧ Below w.heap.size w w' := by
  have HT := Lib.hid ht
  have HXY := Lib.hid (hasB_two t x y)
  have hn' : n ≤ maxLen := by unfold maxLen; omega
  clear ht
  go_enter Tryd.func52, Tryd.ntmps52
  go_wp2_with fail
  have X0 := Blk.new w 25 #[.slice A n c, .slice A' m d]
  have B0 : Below w.heap.size w (w.alloc (.cells #[.slice A n c, .slice A' m d] 25)) := (Below.refl _ _).alloc (Nat.le_refl _) _
  generalize (w.alloc (.cells #[.slice A n c, .slice A' m d] 25)) = w0 at *
  refine (rtown_any A n c A' m d t w0 hn hm ((HT.out.below B0).more B0.size)).mono ?_
  rintro e w1 ⟨rfl, hb1⟩
  have X1 := X0.below hb1 X0.lt
  have B1 := B0.trans (hb1.mono B0.size)
  have x0 := X1.cell 0
  have x1 := X1.cell 1
  have HX1 := Lib.hid X1
  clear X0 B0 hb1 X1
  cases ht : townB t with
  | false =>
    have HTB := Lib.hid ht
    clear ht
    go_wp2_with fail
    go_ret
    exact ⟨ret_int (by unfold askE; rw [HTB.out]; rfl), B1⟩
  | true =>
    have HTB := Lib.hid ht
    clear ht
    go_wp2_with fail
    refine (place_any A n c A' m d t x w1 hn' ((HT.out.below B1).more B1.size).places).mono ?_
    rintro e w2 ⟨rfl, hb2⟩
    have B2 := B1.trans (hb2.mono B1.size)
    have X2 := HX1.out.below hb2 HX1.out.lt
    have y0 := X2.cell 0
    have y1 := X2.cell 1
    clear X2 hb2 x0 x1
    cases hmx : memI t.places x with
    | false =>
      have hlt := placeI_no hmx
      have HM := Lib.hid hmx
      clear hmx
      go_wp2_with fail
      go_ret
      exact ⟨ret_int (by unfold askE; rw [HTB.out, HXY.out, HM.out]; rfl), B2⟩
    | true =>
      have hge := placeI_yes hmx
      have HM := Lib.hid hmx
      clear hmx
      go_wp2_with fail
      refine (place_any A n c A' m d t y w2 hn' ((HT.out.below B2).more B2.size).places).mono ?_
      rintro e w3 ⟨rfl, hb3⟩
      have B3 := B2.trans (hb3.mono B2.size)
      clear hb3 y0 y1
      cases hmy : memI t.places y with
      | false =>
        have hlt := placeI_no hmy
        have HMY := Lib.hid hmy
        clear hmy
        go_wp2_with fail
        go_ret
        exact ⟨ret_int (by unfold askE; rw [HTB.out, HXY.out, HM.out, HMY.out]; rfl), B3⟩
      | true =>
        have hge2 := placeI_yes hmy
        have HMY := Lib.hid hmy
        clear hmy
        go_wp2_with fail
        go_ret
        exact ⟨ret_int (by unfold askE; rw [HTB.out, HXY.out, HM.out, HMY.out]; rfl), B3⟩
end Go.Proofs.YtahkjagjcogeiaaDoor
/- The answer's End: what a skin holds at the end of a walk. -/
namespace Go.Proofs.YtahkjagjcogeiaaDoor
open Go.RowKit Go.Shelf
set_option linter.unusedVariables false

theorem askE_same (t : Town) (x : Int) : askE t [x, x] = askE t [x] := by
  unfold askE hasB
  simp

set_option maxRecDepth 100000 in
set_option maxHeartbeats 16000000 in
theorem rend_in (A : Option Addr) (n c : Nat) (A' : Option Addr) (m d : Nat) (t : Town) (s : Skin) (place : Int) (A2 : Option Addr) (k2 c2 : Nat) (l : List Int) (w : World)
    (hn : n ≤ 1000) (hm : m ≤ 1000) (hk2 : k2 ≤ 1000) (ht : TownAt w w.heap.size A n A' m t) (hr : IntsAt w w.heap.size A2 k2 l) :
    CallsIn Fence.wide 9 Tryd.prog 12 #[.agg #[.slice A n c, .slice A' m d], .agg #[.int .i64 s.drops, .int .i64 s.pace.lo, .int .i64 s.pace.hi, .int .i64 s.step.lo, .int .i64 s.step.hi], .int .i64 place, .slice A2 k2 c2] w (EndOut w (endV t s place l) (endE t s place l)) := by
  have HT := Lib.hid ht
  have HR := Lib.hid hr
  have HA2 := Lib.hid (askE_same t place)
  clear ht hr
  refine callsIn_of_wp Tryd.func12 rfl trivial ?_ rfl
  simp only [Tryd.ntmps12, List.size_toArray, List.length_cons, List.length_nil, Nat.reduceAdd, Nat.reduceSub, Array.replicate_succ, Array.replicate_zero, List.push_toArray, List.append_toArray, List.nil_append, List.cons_append]
  gi_wp2
  have HLay := Lib.hid (Lay.three w 25 #[.slice A n c, .slice A' m d] 29 #[.int .i64 s.drops, .int .i64 s.pace.lo, .int .i64 s.pace.hi, .int .i64 s.step.lo, .int .i64 s.step.hi] 27 #[.int .i64 0, .int .i64 0])
  generalize (((w.alloc (.cells #[.slice A n c, .slice A' m d] 25)).alloc (.cells #[.int .i64 s.drops, .int .i64 s.pace.lo, .int .i64 s.pace.hi, .int .i64 s.step.lo, .int .i64 s.step.hi] 29)).alloc (.cells #[.int .i64 0, .int .i64 0] 27)) = w0 at *
  refine ⟨trivial, (callsIn_wide.2 (rasked_any A n c A' m d t place place w0 hn hm ((HT.out.below HLay.out.1).more HLay.out.1.size))).mono ?_⟩
  rintro e W1 ⟨rfl, hb⟩
  replace HLay := Lib.hid (HLay.out.below hb)
  clear hb
  rw [HA2.out]
  obtain ⟨ea, hea⟩ : ∃ ea, askE t [place] = ea := ⟨_, rfl⟩
  rw [hea]
  have HEA := Lib.hid hea
  clear hea
  have x0_0 := (HLay.out.blk 0 rfl).cell 0
  have x0_1 := (HLay.out.blk 0 rfl).cell 1
  have l0_ := HLay.out.lt 0 rfl
  have x1_0 := (HLay.out.blk 1 rfl).cell 0
  have x1_1 := (HLay.out.blk 1 rfl).cell 1
  have x1_2 := (HLay.out.blk 1 rfl).cell 2
  have x1_3 := (HLay.out.blk 1 rfl).cell 3
  have x1_4 := (HLay.out.blk 1 rfl).cell 4
  have l1_ := HLay.out.lt 1 rfl
  have x2_0 := (HLay.out.blk 2 rfl).cell 0
  have z2_0 := (HLay.out.blk 2 rfl).frozen 0
  have x2_1 := (HLay.out.blk 2 rfl).cell 1
  have z2_1 := (HLay.out.blk 2 rfl).frozen 1
  have l2_ := HLay.out.lt 2 rfl
  by_cases h0 : ea = 0
  · subst h0
    obtain ⟨htb, hhas⟩ := askE_zero HEA.out
    have HG := Lib.hid (goodT htb)
    have hm20 : m ≤ 20 := by have := HG.out.links; have := HT.out.links.len; omega
    clear htb hhas
    gi_wp2
    refine ⟨trivial, (callsIn_wide.2 (rskin_any s W1)).mono ?_⟩
    rintro e W2 ⟨rfl, hb⟩
    replace HLay := Lib.hid (HLay.out.below hb)
    clear hb
    clear x0_0 x0_1 l0_ x1_0 x1_1 x1_2 x1_3 x1_4 l1_ x2_0 z2_0 x2_1 z2_1 l2_
    have x0_0 := (HLay.out.blk 0 rfl).cell 0
    have x0_1 := (HLay.out.blk 0 rfl).cell 1
    have l0_ := HLay.out.lt 0 rfl
    have x1_0 := (HLay.out.blk 1 rfl).cell 0
    have x1_1 := (HLay.out.blk 1 rfl).cell 1
    have x1_2 := (HLay.out.blk 1 rfl).cell 2
    have x1_3 := (HLay.out.blk 1 rfl).cell 3
    have x1_4 := (HLay.out.blk 1 rfl).cell 4
    have l1_ := HLay.out.lt 1 rfl
    have x2_0 := (HLay.out.blk 2 rfl).cell 0
    have z2_0 := (HLay.out.blk 2 rfl).frozen 0
    have x2_1 := (HLay.out.blk 2 rfl).cell 1
    have z2_1 := (HLay.out.blk 2 rfl).frozen 1
    have l2_ := HLay.out.lt 2 rfl
    cases hs : skinB s with
    | false =>
      have HS := Lib.hid hs
      clear hs
      gi_wp2
      have R1 := ret2 (HLay.out.blk 2 rfl) HLay.out.1 (by omega) (.int .i64 0) (.int .i64 0)
      have y0 := R1.1.cell 0
      have y1 := R1.1.cell 1
      have he : endE t s place l = 36 := by unfold endE dryE or2; rw [HEA.out, HS.out]; rfl
      have hv : endV t s place l = ⟨0, 0⟩ := by unfold endV; rw [he]; rfl
      exact bodyPost_ret (v := .tuple #[.agg #[.int .i64 0, .int .i64 0], .int .i64 36]) (by simp [results, Tryd.results12, go_sem, y0, y1]) rfl ⟨by rw [he, hv], R1.2⟩
    | true =>
      have HGS := Lib.hid (goodS hs)
      have HSK := Lib.hid (show dryE s = 0 by unfold dryE; rw [hs]; rfl)
      clear hs
      gi_wp2
      have HF1 := Lib.hid (lossP_fair (a := s.pace.lo) (b := s.step.lo) HGS.out.pace.1 HGS.out.step.1)
      have HF2 := Lib.hid (lossP_fair (a := s.pace.hi) (b := s.step.hi) HGS.out.pace.2.1 HGS.out.step.2.1)
      have HC1 := Lib.hid (lossP_cheap (a := s.pace.lo) (b := s.step.lo) HGS.out.pace.1 HGS.out.step.1)
      have HC2 := Lib.hid (lossP_cheap (a := s.pace.hi) (b := s.step.hi) HGS.out.pace.2.1 HGS.out.step.2.1)
      have HS1 := Lib.hid (walkedF_isSome t (lossP s.pace.lo s.step.lo) ⟨0, 0, 0⟩ place l)
      have HS2 := Lib.hid (walkedF_isSome t (lossP s.pace.hi s.step.hi) ⟨0, 0, 0⟩ place l)
      clear x0_0 x0_1 l0_ x1_0 x1_1 x1_2 x1_3 x1_4 l1_ x2_0 z2_0 x2_1 z2_1 l2_
      have HLay1 := Lib.hid HLay.out
      refine wpIn_flow_new [([true, true, true, true, true, true, true, true, true], 9), ([], 10)] [false, false, false, false, false, false, false, false, false, false, false, true, true, true, true, false, true, false, true] [false, false, false, false, false, false, false, false, false, false, false, false, false, false, false, false, false, true] 15 (fun b => .pointer (some ⟨b, 0, none⟩)) 103 #[.int .i64 0, .int .i64 0, .int .i64 0, .int .i64 0] (by kernel_rfl) (by kernel_rfl) (by kernel_rfl) (below_drewN (Below.refl _ _) 1) rfl rfl rfl (fun _ _ => rfl) (fun _ _ => rfl) ?_
      refine wpFlow_cons (A := ?AF1) rfl ?hq1 ?_
      case hq1 =>
        rintro σ hσ of hof hcl
        have HOF := Lib.hid hof
        have HCL := Lib.hid hcl
        clear hof hcl
        have c0_ : ∀ z, (of z).cell? ⟨w.heap.size, 0, none⟩ = some (.slice A n c) := fun z => ((HLay.out.below (HOF.out z)).blk 0 rfl).cell 0
        have c1_ : ∀ z, (of z).cell? ⟨w.heap.size, 1, none⟩ = some (.slice A' m d) := fun z => ((HLay.out.below (HOF.out z)).blk 0 rfl).cell 1
        have c2_ : ∀ z, (of z).cell? ⟨w.heap.size + 1, 0, none⟩ = some (.int .i64 s.drops) := fun z => ((HLay.out.below (HOF.out z)).blk 1 rfl).cell 0
        have c3_ : ∀ z, (of z).cell? ⟨w.heap.size + 1, 1, none⟩ = some (.int .i64 s.pace.lo) := fun z => ((HLay.out.below (HOF.out z)).blk 1 rfl).cell 1
        have c4_ : ∀ z, (of z).cell? ⟨w.heap.size + 1, 2, none⟩ = some (.int .i64 s.pace.hi) := fun z => ((HLay.out.below (HOF.out z)).blk 1 rfl).cell 2
        have c5_ : ∀ z, (of z).cell? ⟨w.heap.size + 1, 3, none⟩ = some (.int .i64 s.step.lo) := fun z => ((HLay.out.below (HOF.out z)).blk 1 rfl).cell 3
        have c6_ : ∀ z, (of z).cell? ⟨w.heap.size + 1, 4, none⟩ = some (.int .i64 s.step.hi) := fun z => ((HLay.out.below (HOF.out z)).blk 1 rfl).cell 4
        have hfw : ∀ f, Fence.wide.fn f := fun _ => trivial
        simp only [pickB]
        repeat (gi_big_quiet_step (fail))
        refine wpQuietIn_nil ?_
        exact rfl
      intro W3 hW
      replace HLay := Lib.hid (HLay.out.below hW)
      clear hW
      gi_wp2
      refine ⟨trivial, (callsIn_wide.2 (lost_any s.pace.lo s.step.lo W3)).mono ?_⟩
      rintro e W4 ⟨rfl, hb⟩
      replace HLay := Lib.hid (HLay.out.below hb)
      gi_wp2
      refine ⟨trivial, hb, ?_⟩
      clear hb
      refine wpFlow_cons rfl Quietly.none ?_
      intro W5 hW
      replace HLay := Lib.hid (HLay.out.below hW)
      clear hW
      gi_wp2
      refine ⟨trivial, (callsIn_wide.2 (rwalked_any A n c A' m d (lossP s.pace.lo s.step.lo) t place A2 k2 c2 l W5 hm hk2 ((HT.out.links.below HLay.out.1).more HLay.out.1.size) HC1.out HG.out.fine HF1.out ((HR.out.below HLay.out.1).more HLay.out.1.size))).mono ?_⟩
      rintro e W6 ⟨x1, co1, rfl, hq1, hb, hco1, _⟩
      replace HLay := Lib.hid (HLay.out.below hb)
      have HQ1 := Lib.hid hq1
      clear hq1 hco1
      gi_wp2
      refine ⟨trivial, hb, ?_⟩
      clear hb
      obtain ⟨is1, his1⟩ : ∃ b, (walkedF t (lossP s.pace.lo s.step.lo) place l).isSome = b := ⟨_, rfl⟩
      have hisx : (walkedF t (lossP s.pace.lo s.step.lo) place l, partF t (lossP s.pace.lo s.step.lo) place l).1.isSome = is1 := his1
      rw [hisx]
      have HIS1 := Lib.hid his1
      clear his1 hisx
      refine wpFlow_nil (A := ?AF2) ?hq2 ?_
      case hq2 =>
        rintro σ hσ of hof hcl
        have HOF := Lib.hid hof
        have HCL := Lib.hid hcl
        clear hof hcl
        have c0_ : ∀ z, (of z).cell? ⟨w.heap.size, 0, none⟩ = some (.slice A n c) := fun z => ((HLay.out.below (HOF.out z)).blk 0 rfl).cell 0
        have c1_ : ∀ z, (of z).cell? ⟨w.heap.size, 1, none⟩ = some (.slice A' m d) := fun z => ((HLay.out.below (HOF.out z)).blk 0 rfl).cell 1
        have c2_ : ∀ z, (of z).cell? ⟨w.heap.size + 1, 0, none⟩ = some (.int .i64 s.drops) := fun z => ((HLay.out.below (HOF.out z)).blk 1 rfl).cell 0
        have c3_ : ∀ z, (of z).cell? ⟨w.heap.size + 1, 1, none⟩ = some (.int .i64 s.pace.lo) := fun z => ((HLay.out.below (HOF.out z)).blk 1 rfl).cell 1
        have c4_ : ∀ z, (of z).cell? ⟨w.heap.size + 1, 2, none⟩ = some (.int .i64 s.pace.hi) := fun z => ((HLay.out.below (HOF.out z)).blk 1 rfl).cell 2
        have c5_ : ∀ z, (of z).cell? ⟨w.heap.size + 1, 3, none⟩ = some (.int .i64 s.step.lo) := fun z => ((HLay.out.below (HOF.out z)).blk 1 rfl).cell 3
        have c6_ : ∀ z, (of z).cell? ⟨w.heap.size + 1, 4, none⟩ = some (.int .i64 s.step.hi) := fun z => ((HLay.out.below (HOF.out z)).blk 1 rfl).cell 4
        have hfw : ∀ f, Fence.wide.fn f := fun _ => trivial
        simp only [pickB]
        repeat (gi_big_quiet_step (fail))
        refine wpQuietIn_nil ?_
        exact rfl
      intro G1 W7 hW hbg hbb hbi
      replace HLay := Lib.hid (HLay.out.below hW)
      have c0 := hbb.cell 0
      have z0 := hbb.frozen 0
      have c1 := hbb.cell 1
      have z1 := hbb.frozen 1
      have c2 := hbb.cell 2
      have z2 := hbb.frozen 2
      have c3 := hbb.cell 3
      have z3 := hbb.frozen 3
      have hbl := hbb.lt
      have hbw : w.heap.size ≤ G1 := Nat.le_trans HLay1.out.1.size hbg
      simp only [pickB]
      refine wpT_cons ?_
      gi_wp2
      refine wpT_nil ?_
      have R4 := ret4 hbb (Below.refl G1 W7) (Nat.le_refl _) (.int .i64 co1.a) (.int .i64 co1.b) (.int .i64 co1.c) (.int .i64 co1.d)
      replace HLay := Lib.hid (Lay.add (w := w) (bs := [(w.heap.size, 25, #[.slice A n c, .slice A' m d]), (w.heap.size + 1, 29, #[.int .i64 s.drops, .int .i64 s.pace.lo, .int .i64 s.pace.hi, .int .i64 s.step.lo, .int .i64 s.step.hi]), (w.heap.size + 1 + 1, 27, #[.int .i64 0, .int .i64 0])]) ⟨HLay.out.1.trans (R4.2.mono hbw), fun p hp => ⟨(HLay.out.2 p hp).1, (HLay.out.2 p hp).2.below R4.2 (by have := (HLay1.out.2 p hp).2.lt; omega)⟩⟩ hbw R4.1)
      generalize ((((W7.setCell ⟨G1, 0, none⟩ (.int .i64 co1.a)).setCell ⟨G1, 1, none⟩ (.int .i64 co1.b)).setCell ⟨G1, 2, none⟩ (.int .i64 co1.c)).setCell ⟨G1, 3, none⟩ (.int .i64 co1.d)) = W8 at *
      clear c0 z0 c1 z1 c2 z2 c3 z3 hbl hbb hW hbg R4 hbw hbi HLay1
      have x0_0 := (HLay.out.blk 0 rfl).cell 0
      have x0_1 := (HLay.out.blk 0 rfl).cell 1
      have l0_ := HLay.out.lt 0 rfl
      have x1_0 := (HLay.out.blk 1 rfl).cell 0
      have x1_1 := (HLay.out.blk 1 rfl).cell 1
      have x1_2 := (HLay.out.blk 1 rfl).cell 2
      have x1_3 := (HLay.out.blk 1 rfl).cell 3
      have x1_4 := (HLay.out.blk 1 rfl).cell 4
      have l1_ := HLay.out.lt 1 rfl
      have x2_0 := (HLay.out.blk 2 rfl).cell 0
      have z2_0 := (HLay.out.blk 2 rfl).frozen 0
      have x2_1 := (HLay.out.blk 2 rfl).cell 1
      have z2_1 := (HLay.out.blk 2 rfl).frozen 1
      have l2_ := HLay.out.lt 2 rfl
      have x3_0 := (HLay.out.blk 3 rfl).cell 0
      have x3_1 := (HLay.out.blk 3 rfl).cell 1
      have x3_2 := (HLay.out.blk 3 rfl).cell 2
      have x3_3 := (HLay.out.blk 3 rfl).cell 3
      have l3_ := HLay.out.lt 3 rfl
      cases is1 with
      | false =>
        gi_wp2
        have R1 := ret2 (HLay.out.blk 2 rfl) HLay.out.1 (by omega) (.int .i64 0) (.int .i64 0)
        have y0 := R1.1.cell 0
        have y1 := R1.1.cell 1
        have he : endE t s place l = 32 := by unfold endE betE or2; rw [HEA.out, HSK.out, ← HS1.out, HIS1.out]; rfl
        have hv : endV t s place l = ⟨0, 0⟩ := by unfold endV; rw [he]; rfl
        exact bodyPost_ret (v := .tuple #[.agg #[.int .i64 0, .int .i64 0], .int .i64 32]) (by simp [results, Tryd.results12, go_sem, y0, y1]) rfl ⟨by rw [he, hv], R1.2⟩
      | true =>
        gi_wp2
        clear x0_0 x0_1 l0_ x1_0 x1_1 x1_2 x1_3 x1_4 l1_ x2_0 z2_0 x2_1 z2_1 l2_ x3_0 x3_1 x3_2 x3_3 l3_
        have HLay2 := Lib.hid HLay.out
        refine wpIn_flow_new [([true, true, true, true, true, true, true, true, true], 9), ([], 10)] [false, false, false, false, false, false, false, false, false, false, false, true, true, true, true, false, true, false, true] [false, false, false, false, false, false, false, false, false, false, false, false, false, false, false, false, false, true] 15 (fun b => .pointer (some ⟨b, 0, none⟩)) 103 #[.int .i64 0, .int .i64 0, .int .i64 0, .int .i64 0] (by kernel_rfl) (by kernel_rfl) (by kernel_rfl) (below_drewN (Below.refl _ _) 1) rfl rfl rfl (fun _ _ => rfl) (fun _ _ => rfl) ?_
        refine wpFlow_cons (A := ?AF3) rfl ?hq3 ?_
        case hq3 =>
          rintro σ hσ of hof hcl
          have HOF := Lib.hid hof
          have HCL := Lib.hid hcl
          clear hof hcl
          have c0_ : ∀ z, (of z).cell? ⟨w.heap.size, 0, none⟩ = some (.slice A n c) := fun z => ((HLay.out.below (HOF.out z)).blk 0 rfl).cell 0
          have c1_ : ∀ z, (of z).cell? ⟨w.heap.size, 1, none⟩ = some (.slice A' m d) := fun z => ((HLay.out.below (HOF.out z)).blk 0 rfl).cell 1
          have c2_ : ∀ z, (of z).cell? ⟨w.heap.size + 1, 0, none⟩ = some (.int .i64 s.drops) := fun z => ((HLay.out.below (HOF.out z)).blk 1 rfl).cell 0
          have c3_ : ∀ z, (of z).cell? ⟨w.heap.size + 1, 1, none⟩ = some (.int .i64 s.pace.lo) := fun z => ((HLay.out.below (HOF.out z)).blk 1 rfl).cell 1
          have c4_ : ∀ z, (of z).cell? ⟨w.heap.size + 1, 2, none⟩ = some (.int .i64 s.pace.hi) := fun z => ((HLay.out.below (HOF.out z)).blk 1 rfl).cell 2
          have c5_ : ∀ z, (of z).cell? ⟨w.heap.size + 1, 3, none⟩ = some (.int .i64 s.step.lo) := fun z => ((HLay.out.below (HOF.out z)).blk 1 rfl).cell 3
          have c6_ : ∀ z, (of z).cell? ⟨w.heap.size + 1, 4, none⟩ = some (.int .i64 s.step.hi) := fun z => ((HLay.out.below (HOF.out z)).blk 1 rfl).cell 4
          have hfw : ∀ f, Fence.wide.fn f := fun _ => trivial
          simp only [pickB]
          repeat (gi_big_quiet_step (fail))
          refine wpQuietIn_nil ?_
          exact rfl
        intro W9 hW
        replace HLay := Lib.hid (HLay.out.below hW)
        clear hW
        gi_wp2
        refine ⟨trivial, (callsIn_wide.2 (lost_any s.pace.hi s.step.hi W9)).mono ?_⟩
        rintro e W10 ⟨rfl, hb⟩
        replace HLay := Lib.hid (HLay.out.below hb)
        gi_wp2
        refine ⟨trivial, hb, ?_⟩
        clear hb
        refine wpFlow_cons rfl Quietly.none ?_
        intro W11 hW
        replace HLay := Lib.hid (HLay.out.below hW)
        clear hW
        gi_wp2
        refine ⟨trivial, (callsIn_wide.2 (rwalked_any A n c A' m d (lossP s.pace.hi s.step.hi) t place A2 k2 c2 l W11 hm hk2 ((HT.out.links.below HLay.out.1).more HLay.out.1.size) HC2.out HG.out.fine HF2.out ((HR.out.below HLay.out.1).more HLay.out.1.size))).mono ?_⟩
        rintro e W12 ⟨x2, co2, rfl, hq2, hb, hco2, _⟩
        replace HLay := Lib.hid (HLay.out.below hb)
        have HQ2 := Lib.hid hq2
        clear hq2 hco2
        gi_wp2
        refine ⟨trivial, hb, ?_⟩
        clear hb
        obtain ⟨is2, his2⟩ : ∃ b, (walkedF t (lossP s.pace.hi s.step.hi) place l).isSome = b := ⟨_, rfl⟩
        have hisx : (walkedF t (lossP s.pace.hi s.step.hi) place l, partF t (lossP s.pace.hi s.step.hi) place l).1.isSome = is2 := his2
        rw [hisx]
        have HIS2 := Lib.hid his2
        clear his2 hisx
        refine wpFlow_nil (A := ?AF4) ?hq4 ?_
        case hq4 =>
          rintro σ hσ of hof hcl
          have HOF := Lib.hid hof
          have HCL := Lib.hid hcl
          clear hof hcl
          have c0_ : ∀ z, (of z).cell? ⟨w.heap.size, 0, none⟩ = some (.slice A n c) := fun z => ((HLay.out.below (HOF.out z)).blk 0 rfl).cell 0
          have c1_ : ∀ z, (of z).cell? ⟨w.heap.size, 1, none⟩ = some (.slice A' m d) := fun z => ((HLay.out.below (HOF.out z)).blk 0 rfl).cell 1
          have c2_ : ∀ z, (of z).cell? ⟨w.heap.size + 1, 0, none⟩ = some (.int .i64 s.drops) := fun z => ((HLay.out.below (HOF.out z)).blk 1 rfl).cell 0
          have c3_ : ∀ z, (of z).cell? ⟨w.heap.size + 1, 1, none⟩ = some (.int .i64 s.pace.lo) := fun z => ((HLay.out.below (HOF.out z)).blk 1 rfl).cell 1
          have c4_ : ∀ z, (of z).cell? ⟨w.heap.size + 1, 2, none⟩ = some (.int .i64 s.pace.hi) := fun z => ((HLay.out.below (HOF.out z)).blk 1 rfl).cell 2
          have c5_ : ∀ z, (of z).cell? ⟨w.heap.size + 1, 3, none⟩ = some (.int .i64 s.step.lo) := fun z => ((HLay.out.below (HOF.out z)).blk 1 rfl).cell 3
          have c6_ : ∀ z, (of z).cell? ⟨w.heap.size + 1, 4, none⟩ = some (.int .i64 s.step.hi) := fun z => ((HLay.out.below (HOF.out z)).blk 1 rfl).cell 4
          have hfw : ∀ f, Fence.wide.fn f := fun _ => trivial
          simp only [pickB]
          repeat (gi_big_quiet_step (fail))
          refine wpQuietIn_nil ?_
          exact rfl
        intro G2 W13 hW hbg hbb hbi
        replace HLay := Lib.hid (HLay.out.below hW)
        have c0 := hbb.cell 0
        have z0 := hbb.frozen 0
        have c1 := hbb.cell 1
        have z1 := hbb.frozen 1
        have c2 := hbb.cell 2
        have z2 := hbb.frozen 2
        have c3 := hbb.cell 3
        have z3 := hbb.frozen 3
        have hbl := hbb.lt
        have hbw : w.heap.size ≤ G2 := Nat.le_trans HLay2.out.1.size hbg
        simp only [pickB]
        refine wpT_cons ?_
        gi_wp2
        refine wpT_nil ?_
        have R4 := ret4 hbb (Below.refl G2 W13) (Nat.le_refl _) (.int .i64 co2.a) (.int .i64 co2.b) (.int .i64 co2.c) (.int .i64 co2.d)
        replace HLay := Lib.hid (Lay.add (w := w) (bs := [(w.heap.size, 25, #[.slice A n c, .slice A' m d]), (w.heap.size + 1, 29, #[.int .i64 s.drops, .int .i64 s.pace.lo, .int .i64 s.pace.hi, .int .i64 s.step.lo, .int .i64 s.step.hi]), (w.heap.size + 1 + 1, 27, #[.int .i64 0, .int .i64 0]), (G1, 103, #[.int .i64 co1.a, .int .i64 co1.b, .int .i64 co1.c, .int .i64 co1.d])]) ⟨HLay.out.1.trans (R4.2.mono hbw), fun p hp => ⟨(HLay.out.2 p hp).1, (HLay.out.2 p hp).2.below R4.2 (by have := (HLay2.out.2 p hp).2.lt; omega)⟩⟩ hbw R4.1)
        generalize ((((W13.setCell ⟨G2, 0, none⟩ (.int .i64 co2.a)).setCell ⟨G2, 1, none⟩ (.int .i64 co2.b)).setCell ⟨G2, 2, none⟩ (.int .i64 co2.c)).setCell ⟨G2, 3, none⟩ (.int .i64 co2.d)) = W14 at *
        clear c0 z0 c1 z1 c2 z2 c3 z3 hbl hbb hW hbg R4 hbw hbi HLay2
        have hfa1 : firstA t (lossP s.pace.lo s.step.lo) place l = co1.a := by
          obtain ⟨q, e1⟩ := Option.isSome_iff_exists.1 HIS1.out
          unfold firstA
          rw [e1, HQ1.out q e1]
        have hi2 : (walkedF t (lossP s.pace.hi s.step.hi) place l).isSome = true := HS2.out.trans (HS1.out.symm.trans HIS1.out)
        have hfa2 : firstA t (lossP s.pace.hi s.step.hi) place l = co2.a := by
          obtain ⟨q, e1⟩ := Option.isSome_iff_exists.1 hi2
          unfold firstA
          rw [e1, HQ2.out q e1]
        have hb1 := firstA_bound HG.out.fine HF1.out place l
        have hb2 := firstA_bound HG.out.fine HF2.out place l
        have he : endE t s place l = 0 := by unfold endE betE or2; rw [HEA.out, HSK.out, ← HS1.out, HIS1.out]; rfl
        have hv : endV t s place l = ⟨max 0 (s.drops - co2.a), max 0 (s.drops - co1.a)⟩ := by unfold endV; rw [he, if_pos rfl, hfa1, hfa2]
        rw [hfa1] at hb1
        rw [hfa2] at hb2
        obtain ⟨b10, b11⟩ := hb1
        obtain ⟨b20, b21⟩ := hb2
        obtain ⟨hd0, hd1⟩ := HGS.out.drops
        have HE := Lib.hid he
        have HV := Lib.hid hv
        clear hfa1 hfa2 hi2 he hv
        have x0_0 := (HLay.out.blk 0 rfl).cell 0
        have x0_1 := (HLay.out.blk 0 rfl).cell 1
        have l0_ := HLay.out.lt 0 rfl
        have x1_0 := (HLay.out.blk 1 rfl).cell 0
        have x1_1 := (HLay.out.blk 1 rfl).cell 1
        have x1_2 := (HLay.out.blk 1 rfl).cell 2
        have x1_3 := (HLay.out.blk 1 rfl).cell 3
        have x1_4 := (HLay.out.blk 1 rfl).cell 4
        have l1_ := HLay.out.lt 1 rfl
        have x2_0 := (HLay.out.blk 2 rfl).cell 0
        have z2_0 := (HLay.out.blk 2 rfl).frozen 0
        have x2_1 := (HLay.out.blk 2 rfl).cell 1
        have z2_1 := (HLay.out.blk 2 rfl).frozen 1
        have l2_ := HLay.out.lt 2 rfl
        have x3_0 := (HLay.out.blk 3 rfl).cell 0
        have x3_1 := (HLay.out.blk 3 rfl).cell 1
        have x3_2 := (HLay.out.blk 3 rfl).cell 2
        have x3_3 := (HLay.out.blk 3 rfl).cell 3
        have l3_ := HLay.out.lt 3 rfl
        have x4_0 := (HLay.out.blk 4 rfl).cell 0
        have x4_1 := (HLay.out.blk 4 rfl).cell 1
        have x4_2 := (HLay.out.blk 4 rfl).cell 2
        have x4_3 := (HLay.out.blk 4 rfl).cell 3
        have l4_ := HLay.out.lt 4 rfl
        gi_wp2
        all_goals
          first
            | (have R1 := ret2 (HLay.out.blk 2 rfl) HLay.out.1 (by omega) (.int .i64 (max 0 (s.drops - co2.a))) (.int .i64 (max 0 (s.drops - co1.a)))
               have y0 := R1.1.cell 0
               have y1 := R1.1.cell 1
               exact bodyPost_ret (v := .tuple #[.agg #[.int .i64 (max 0 (s.drops - co2.a)), .int .i64 (max 0 (s.drops - co1.a))], .int .i64 0]) (by simp [results, Tryd.results12, go_sem, y0, y1]) rfl ⟨by rw [HE.out, HV.out], R1.2⟩)
            | (have hx : max 0 (s.drops - co2.a) = 0 := by omega
               have hy : max 0 (s.drops - co1.a) = 0 := by omega
               have R1 := ret2 (HLay.out.blk 2 rfl) HLay.out.1 (by omega) (.int .i64 (0)) (.int .i64 (0))
               have y0 := R1.1.cell 0
               have y1 := R1.1.cell 1
               exact bodyPost_ret (v := .tuple #[.agg #[.int .i64 (0), .int .i64 (0)], .int .i64 0]) (by simp [results, Tryd.results12, go_sem, y0, y1]) rfl ⟨by rw [HE.out, HV.out, hx, hy], R1.2⟩)
            | (have hx : max 0 (s.drops - co2.a) = 0 := by omega
               have hy : max 0 (s.drops - co1.a) = s.drops - co1.a := by omega
               have R1 := ret2 (HLay.out.blk 2 rfl) HLay.out.1 (by omega) (.int .i64 (0)) (.int .i64 (s.drops - co1.a))
               have y0 := R1.1.cell 0
               have y1 := R1.1.cell 1
               exact bodyPost_ret (v := .tuple #[.agg #[.int .i64 (0), .int .i64 (s.drops - co1.a)], .int .i64 0]) (by simp [results, Tryd.results12, go_sem, y0, y1]) rfl ⟨by rw [HE.out, HV.out, hx, hy], R1.2⟩)
            | (have hx : max 0 (s.drops - co2.a) = s.drops - co2.a := by omega
               have hy : max 0 (s.drops - co1.a) = 0 := by omega
               have R1 := ret2 (HLay.out.blk 2 rfl) HLay.out.1 (by omega) (.int .i64 (s.drops - co2.a)) (.int .i64 (0))
               have y0 := R1.1.cell 0
               have y1 := R1.1.cell 1
               exact bodyPost_ret (v := .tuple #[.agg #[.int .i64 (s.drops - co2.a), .int .i64 (0)], .int .i64 0]) (by simp [results, Tryd.results12, go_sem, y0, y1]) rfl ⟨by rw [HE.out, HV.out, hx, hy], R1.2⟩)
            | (have hx : max 0 (s.drops - co2.a) = s.drops - co2.a := by omega
               have hy : max 0 (s.drops - co1.a) = s.drops - co1.a := by omega
               have R1 := ret2 (HLay.out.blk 2 rfl) HLay.out.1 (by omega) (.int .i64 (s.drops - co2.a)) (.int .i64 (s.drops - co1.a))
               have y0 := R1.1.cell 0
               have y1 := R1.1.cell 1
               exact bodyPost_ret (v := .tuple #[.agg #[.int .i64 (s.drops - co2.a), .int .i64 (s.drops - co1.a)], .int .i64 0]) (by simp [results, Tryd.results12, go_sem, y0, y1]) rfl ⟨by rw [HE.out, HV.out, hx, hy], R1.2⟩)
  · have h1 : (ea != 0) = true := by simpa using h0
    have HE0 := Lib.hid h0
    clear h0
    gi_wp2
    have R1 := ret2 (HLay.out.blk 2 rfl) HLay.out.1 (by omega) (.int .i64 0) (.int .i64 0)
    have y0 := R1.1.cell 0
    have y1 := R1.1.cell 1
    have he : endE t s place l = ea := by unfold endE or2; rw [HEA.out, if_neg HE0.out, if_neg HE0.out]
    have hv : endV t s place l = ⟨0, 0⟩ := by unfold endV; rw [he, if_neg HE0.out]
    exact bodyPost_ret (v := .tuple #[.agg #[.int .i64 0, .int .i64 0], .int .i64 ea]) (by simp [results, Tryd.results12, go_sem, y0, y1]) rfl ⟨by rw [he, hv], R1.2⟩

theorem rend_any (A : Option Addr) (n c : Nat) (A' : Option Addr) (m d : Nat) (t : Town) (s : Skin) (place : Int) (A2 : Option Addr) (k2 c2 : Nat) (l : List Int) (w : World)
    (hn : n ≤ 1000) (hm : m ≤ 1000) (hk2 : k2 ≤ 1000) (ht : TownAt w w.heap.size A n A' m t) (hr : IntsAt w w.heap.size A2 k2 l) :
    Calls Tryd.prog 12 #[.agg #[.slice A n c, .slice A' m d], .agg #[.int .i64 s.drops, .int .i64 s.pace.lo, .int .i64 s.pace.hi, .int .i64 s.step.lo, .int .i64 s.step.hi], .int .i64 place, .slice A2 k2 c2] w (EndOut w (endV t s place l) (endE t s place l)) :=
  callsIn_wide.1 (rend_in A n c A' m d t s place A2 k2 c2 l w hn hm hk2 ht hr)
end Go.Proofs.YtahkjagjcogeiaaDoor
/- copy, and append of zero values, on structs. -/
namespace Go.Proofs.YtahkjagjcogeiaaDoor
open Go.RowKit
set_option linter.unusedVariables false

/-- copy into a known block. -/
theorem run_copy_blk {P : Program} {w : World} {g : Nat} {e : TypeId} {cs : Array Value} (hb : Blk w g e cs) {dT sT ty elem : TypeId} {size : Nat} (hu : P.underlying dT = some (.slice elem)) (hs : (P.info? elem).map (·.size) = some size) (o dLen dCap : Nat) (a : Addr) (sLen sCap : Nat) (news : List Value)
    (hn : news.length = Nat.min sLen dLen * size) (hsrc : ∀ j v, news[j]? = some v → w.cell? (a.add j) = some v) (hfit : o + news.length ≤ cs.size) (h1 : ∀ v ∈ news, v.oneCell' = true) :
    (Builtin.copy_ #[dT, sT] ty #[.slice (some ⟨g, o, none⟩) dLen dCap, .slice (some a) sLen sCap]).run P w = .ok (goInt (Nat.min sLen dLen)) (w.setCells g o news) := by
  have hl := run_loadCells_list (P := P) w a news hsrc
  have hst := run_storeCells_cells (P := P) g o news 0 w (by
    intro j hj
    rw [hb.cell, Array.getElem?_eq_getElem (by omega)]; rfl) (fun j _ => hb.frozen _) h1
  simp only [Nat.add_zero] at hst
  cases hq : P.info? elem with
  | none => simp [hq] at hs
  | some i =>
    have hi : i.size = size := by simpa [hq] using hs
    simp [Builtin.copy_, run_underlying hu, Builtin.lenOf, Builtin.firstCells, sizeOf, typeInfo, hq, hi, ← hn, hl, hst]

theorem nextcap_le {need cap : Nat} (h : cap < need) (hc : need ≤ 200) : Builtin.nextslicecap need cap ≤ 400 := by
  unfold Builtin.nextslicecap
  split
  · omega
  · split
    · omega
    · omega

/-- append(s[:i], make(S, m)...) where there is no room. -/
theorem run_append_make {P : Program} {w : World} {g : Nat} {e : TypeId} {cs : Array Value} (hb : Blk w g e cs) {t tn ty : TypeId} {i : TypeInfo} {z : Value} {kn : IntKind} (ht : P.underlying t = some (.slice e)) (htn : P.underlying tn = some (.int kn)) (hi : P.info? e = some i) (hz : i.zero = some z)
    (n cap m : Nat) (olds : List Value) (hold : olds.length = n * i.size) (hcs : ∀ k, k < n * i.size → cs[k]? = olds[k]?) (h0 : 0 < m) (hs : 0 < i.size) (hg : cap < n + m) (hnm : n + m ≤ 200) (hbytes : i.bytes ≤ 1000) :
    (Builtin.append_ #[t, tn] ty #[.slice (some ⟨g, 0, none⟩) n cap, .int .i64 m]).run P w =
      .ok (.slice (some ⟨w.heap.size, 0, none⟩) (n + m) (grownCap w (n + m) cap e)) (w.drew.alloc (.cells (olds.toArray ++ Builtin.zeroCells z.cells m ++ Builtin.zeroCells z.cells (grownCap w (n + m) cap e - (n + m))) e)) := by
  have hn : ¬ (n + m ≤ cap) := by omega
  have hw : IntKind.i64.wrap (m : Int) = m := by rw [IntKind.wrap_i64]; omega
  have h63' : ¬ (9223372036854775807 < ((n : Int) + (m : Int))) := by omega
  have hcap := nextcap_le hg hnm
  have h48' : ¬ (281474976710656 < Builtin.nextslicecap (n + m) cap * i.bytes) := by
    have := Nat.mul_le_mul hcap hbytes
    omega
  have h48i : ¬ (281474976710656 < (m : Int) * (i.bytes : Int)) := by
    rw [← Int.natCast_mul]
    have := Nat.mul_le_mul (show m ≤ 200 by omega) hbytes
    omega
  have hneg : ¬ ((m : Int) < 0) := by omega
  have hns : ¬ (m * i.size = 0) := Nat.mul_ne_zero (by omega) (by omega)
  have hl := run_loadCells_list (P := P) w.drew ⟨g, 0, none⟩ olds (by
    intro j v hv
    have hj : j < n * i.size := by rw [← hold]; exact (List.getElem?_eq_some_iff.1 hv).1
    have ha : ((⟨g, 0, none⟩ : Addr).add j) = ⟨g, j, none⟩ := by
      unfold Addr.add
      by_cases hj : j = 0
      · simp [hj]
      · simp [hj]
    rw [ha]
    exact (hb.cell j).trans ((hcs j hj).trans hv))
  rw [hold] at hl
  simp [Builtin.append_, run_underlying ht, run_underlying htn, sizeOf, typeInfo, zeroValue, hi, hz, asInt, asIntOf, hw, hn, hneg, hns, h63', h48', h48i, Question.forced, Builtin.firstCells, hl, newRow, grownCap]

end Go.Proofs.YtahkjagjcogeiaaDoor
/- slices.Insert of one link into an owned slice. -/
namespace Go.Proofs.YtahkjagjcogeiaaDoor
open Go.RowKit
set_option linter.unusedVariables false

theorem lit_add (g o k : Nat) : ((⟨g, o, none⟩ : Addr).add k) = ⟨g, o + k, none⟩ := by
  unfold Addr.add
  by_cases hk : k = 0
  · simp [hk]
  · simp [hk]
theorem flat_take {α : Type} {vals : α → List Value} {size : Nat} (hv : ∀ x, (vals x).length = size) (l : List α) (k : Nat) : (l.flatMap vals).take (k * size) = (l.take k).flatMap vals := by
  induction l generalizing k with
  | nil => simp
  | cons x l ih =>
    cases k with
    | zero => simp
    | succ k =>
      rw [List.flatMap_cons, List.take_succ_cons, List.flatMap_cons, ← ih k, List.take_append, hv, show (k + 1) * size - size = k * size by rw [Nat.add_mul]; omega, List.take_of_length_le (by rw [hv, Nat.add_mul]; omega)]
theorem flat_drop {α : Type} {vals : α → List Value} {size : Nat} (hv : ∀ x, (vals x).length = size) (l : List α) (k : Nat) : (l.flatMap vals).drop (k * size) = (l.drop k).flatMap vals := by
  induction l generalizing k with
  | nil => simp
  | cons x l ih =>
    cases k with
    | zero => simp
    | succ k =>
      rw [List.flatMap_cons, List.drop_succ_cons, ← ih k, List.drop_append, hv, show (k + 1) * size - size = k * size by rw [Nat.add_mul]; omega, List.drop_of_length_le (by rw [hv, Nat.add_mul]; omega), List.nil_append]

/-- Cells behind two copies: the head as it was, x, the tail. -/
theorem ins_cells {l : List Link} {x : Link} {at_ n : Nat} (hl : l.length = n) (hat : at_ ≤ n) {cs : Array Value} (hsz : (n + 1) * 5 ≤ cs.size) (hhead : ∀ k, k < at_ * 5 → cs[k]? = (l.flatMap Link.vals)[k]?) (first : Bool) :
    ∀ k, k < (n + 1) * 5 → (if first then wrt (wrt cs (at_ * 5) x.vals) ((at_ + 1) * 5) ((l.drop at_).flatMap Link.vals) else wrt (wrt cs ((at_ + 1) * 5) ((l.drop at_).flatMap Link.vals)) (at_ * 5) x.vals)[k]? = ((l.take at_ ++ x :: l.drop at_).flatMap Link.vals)[k]? := by
  have hd : ((l.drop at_).flatMap Link.vals).length = (n - at_) * 5 := by rw [flat_len' vals5, List.length_drop, hl]
  have ht : ((l.take at_).flatMap Link.vals).length = at_ * 5 := by rw [flat_len' vals5, List.length_take]; congr 1; omega
  have hx : x.vals.length = 5 := rfl
  intro k hk
  rw [List.flatMap_append, List.flatMap_cons]
  by_cases h1 : k < at_ * 5
  · rw [List.getElem?_append_left (by omega)]
    have : (l.flatMap Link.vals)[k]? = ((l.take at_).flatMap Link.vals)[k]? := by
      rw [← flat_take vals5, List.getElem?_take, if_pos h1]
    rw [← this, ← hhead k h1]
    cases first
    · simp only [Bool.false_eq_true, if_false]
      rw [wrt_out _ _ _ _ (.inl h1), wrt_out _ _ _ _ (.inl (by omega))]
    · simp only [if_true]
      rw [wrt_out _ _ _ _ (.inl (by omega)), wrt_out _ _ _ _ (.inl h1)]
  · rw [List.getElem?_append_right (by omega), ht]
    by_cases h2 : k < (at_ + 1) * 5
    · rw [List.getElem?_append_left (by omega)]
      obtain ⟨q, rfl⟩ : ∃ q, k = at_ * 5 + q := ⟨k - at_ * 5, by omega⟩
      rw [show at_ * 5 + q - at_ * 5 = q by omega]
      cases first
      · simp only [Bool.false_eq_true, if_false]
        rw [wrt_in _ _ _ _ (by omega) (by rw [wrt_size]; omega)]
      · simp only [if_true]
        rw [wrt_out _ _ _ _ (.inl (by omega)), wrt_in _ _ _ _ (by omega) (by omega)]
    · rw [List.getElem?_append_right (by omega), hx]
      obtain ⟨q, rfl⟩ : ∃ q, k = (at_ + 1) * 5 + q := ⟨k - (at_ + 1) * 5, by omega⟩
      rw [show (at_ + 1) * 5 + q - at_ * 5 - 5 = q by omega]
      cases first
      · simp only [Bool.false_eq_true, if_false]
        rw [wrt_out _ _ _ _ (.inr (by omega)), wrt_in _ _ _ _ (by omega) (by omega)]
      · simp only [if_true]
        rw [wrt_in _ _ _ _ (by omega) (by rw [wrt_size]; omega)]

/-- A one-element slice of a link in a block of its own. -/
theorem one_link {w : World} {vb : Nat} {tv : TypeId} {x : Link} (h : Blk w vb tv #[.int .i64 x.id, .int .i64 x.fr, .int .i64 x.to, .int .i64 x.steps, .int .i64 x.paces]) {B : Nat} (hB : vb < B) : Reads w B 5 (some ⟨vb, 0, none⟩) 1 x.vals :=
  ⟨rfl, fun _ => ⟨_, rfl, hB, fun j u hu => by
    rw [lit_add, Nat.zero_add, h.cell, ← hu]
    simp [Link.vals]⟩⟩
theorem vals_one (x : Link) : ∀ u ∈ x.vals, u.oneCell' = true := by
  intro u hu
  simp only [Link.vals, List.mem_cons, List.not_mem_nil, or_false] at hu
  rcases hu with rfl | rfl | rfl | rfl | rfl <;> rfl

theorem sizeof_link (w : World) : (sizeOf 45).run Tryd.prog w = .ok 5 w := by kernel_rfl
theorem size_link : (Tryd.prog.info? 45).map (·.size) = some 5 := by kernel_rfl

set_option maxRecDepth 100000 in
set_option maxHeartbeats 4000000 in
/-- At the end. -/
theorem insert_end (base : Nat) (A : Option Addr) (n c : Nat) (l : List Link) (vb : Nat) (tv : TypeId) (x : Link) (w : World) (hO : Own w base 45 5 A n c (l.flatMap Link.vals)) (hbase : base ≤ w.heap.size) (hn : n ≤ 100) (hx : Blk w vb tv #[.int .i64 x.id, .int .i64 x.fr, .int .i64 x.to, .int .i64 x.steps, .int .i64 x.paces]) :
    Calls Tryd.prog 69 #[.slice A n c, .int .i64 n, .slice (some ⟨vb, 0, none⟩) 1 1] w fun e w' => ∃ A' c', e = .returned (.slice A' (n + 1) c') ∧ Own w' base 45 5 A' (n + 1) c' ((l ++ [x]).flatMap Link.vals) ∧ w.grownBy w' (A.map (·.block)) ∧ (A' = A ∨ A' = some ⟨w.heap.size, 0, none⟩) := by
  have hcap := hO.cap_le
  have hcn := hcap.1
  have hmax : c ≤ 9223372036854775807 := by have := hcap.2; unfold maxLen at this; omega
  have hnil : A = none → n = 0 ∧ c = 0 ∧ l.flatMap Link.vals = [] := fun h => by subst h; exact hO.nil
  have HO := Lib.hid hO
  have HX := Lib.hid hx
  have HR : Hid (Reads w (vb + 1) 5 (some ⟨vb, 0, none⟩) 1 x.vals) := one_link hx (by omega)
  clear hO hx hcap
  cases A with
  | none =>
    obtain ⟨rfl, rfl, hl0⟩ := hnil rfl
    clear hnil hl0
    go_enter Tryd.func69, Tryd.ntmps69
    go_wp2_with (at_builtin; refine wpList_append_any _ rfl _ _ rfl elem_link rfl HO.out rfl HR.out (vals_one x) (by decide) (by decide) hbase ?_)
    rintro A' cap' w' hown hg hA
    go_wp2_with fail
    go_ret
    exact ⟨A', cap', rfl, by rw [List.flatMap_append]; simpa using hown, hg, hA⟩
  | some a =>
    clear hnil
    obtain ⟨g, rfl⟩ : ∃ g, a = ⟨g, 0, none⟩ := by
      rcases HO.out.form with ⟨h, _⟩ | ⟨g, cur, h, _⟩
      · cases h
      · cases h; exact ⟨g, rfl⟩
    go_enter Tryd.func69, Tryd.ntmps69
    go_wp2_with (at_builtin; refine wpList_append_any _ rfl _ _ rfl elem_link rfl HO.out rfl HR.out (vals_one x) (by unfold maxLen; omega) (by omega) hbase ?_)
    all_goals
      rintro A' cap' w' hown hg hA
      go_wp2_with fail
      go_ret
      exact ⟨A', cap', rfl, by rw [List.flatMap_append]; simpa using hown, hg, hA⟩

theorem below_of_grown_setCells {B : Nat} {w : World} : ∀ {vs : List Value} {o : Nat} {w' : World}, Below B w w' → Below B w (w'.setCells B o vs)
  | [], _, _, h => h
  | v :: r, o, w', h => below_of_grown_setCells (vs := r) (o := o + 1) (h.setCell (p := ⟨B, o, none⟩) (Nat.le_refl _) v)
theorem splitc {w : World} {g : Nat} {e : TypeId} {cs : Array Value} (hb : Blk w g e cs) {l : List Link} {n : Nat} (hl : l.length = n) (hcs : ∀ k, k < n * 5 → cs[k]? = (l.flatMap Link.vals)[k]?) (at_ : Nat) (hat : at_ ≤ n) :
    ∀ j v, ((l.drop at_).flatMap Link.vals)[j]? = some v → w.cell? ((⟨g, at_ * 5, none⟩ : Addr).add j) = some v := by
  intro j v hv
  have hd : ((l.drop at_).flatMap Link.vals).length = (n - at_) * 5 := by rw [flat_len' vals5, List.length_drop, hl]
  have hj : j < (n - at_) * 5 := by rw [← hd]; exact (List.getElem?_eq_some_iff.1 hv).1
  rw [lit_add, hb.cell, hcs _ (by omega), ← hv, ← flat_drop vals5, List.getElem?_drop]

set_option maxRecDepth 100000 in
set_option maxHeartbeats 400000 in
/-- In the middle, where there is room. -/
theorem insert_room (base g n c at_ : Nat) (l : List Link) (vb : Nat) (x : Link) (w : World) (hO : Own w base 45 5 (some ⟨g, 0, none⟩) n c (l.flatMap Link.vals)) (hat : at_ < n) (hc : n + 1 ≤ c) (hx : Blk w vb 45 #[.int .i64 x.id, .int .i64 x.fr, .int .i64 x.to, .int .i64 x.steps, .int .i64 x.paces]) (hne : vb ≠ g) :
    Calls Tryd.prog 69 #[.slice (some ⟨g, 0, none⟩) n c, .int .i64 at_, .slice (some ⟨vb, 0, none⟩) 1 1] w fun e w' => e = .returned (.slice (some ⟨g, 0, none⟩) (n + 1) c) ∧ Own w' base 45 5 (some ⟨g, 0, none⟩) (n + 1) c ((l.take at_ ++ x :: l.drop at_).flatMap Link.vals) ∧ w.grownBy w' (some g) := by
  have hl : l.length = n := by have := hO.len; rw [flat_len' vals5] at this; omega
  have hcap := hO.cap_le
  have hmax : c ≤ 9223372036854775807 := by have := hcap.2; unfold maxLen at this; omega
  rcases hO.form with ⟨h, _⟩ | ⟨g', cur, h, hbg, hblk, _, _, hsz, htake, _⟩
  · cases h
  · cases h
    have hcs : ∀ k, k < n * 5 → cur[k]? = (l.flatMap Link.vals)[k]? := by
      intro k hk
      rw [← htake, List.getElem?_take, if_pos hk, Array.getElem?_toList]
    have hd : ((l.drop at_).flatMap Link.vals).length = (n - at_) * 5 := by rw [flat_len' vals5, List.length_drop, hl]
    have hz1 : ¬ ((at_ : Int) = (n : Int)) := by omega
    have hov : ∀ lb cb, (callFunc 123 #[.slice (some ⟨vb, 0, none⟩) 1 1, .slice (some ⟨g, (at_ + 1) * 5, none⟩) lb cb]).run Tryd.prog w = .ok (.value (.bool false)) w := fun lb cb => by
      rw [run_callFunc_extern (P := Tryd.prog) (f := 123) (fn := Tryd.f123) (by kernel_rfl) (by kernel_rfl) (by kernel_rfl) (by kernel_rfl) (e := Extern.SlicesOverlaps.overlaps #[23, 23] #[4]) (by kernel_rfl),
        Lib.run_overlaps_apart w 23 4 45 Tryd.underlying23 5 sizeof_link ⟨vb, 0, none⟩ ⟨g, (at_ + 1) * 5, none⟩ 1 1 lb cb hne 45 45 5 cur.size
          (by unfold World.shape?; rw [show w.heap[vb]? = _ from hx]; rfl) (by unfold World.shape?; rw [show w.heap[g]? = _ from hblk]) (by omega) (hx.frozen 0) (hx.frozen 5)]
      rfl
    have hcp1 : ∀ ty dc sc, (Builtin.copy_ #[23, 23] ty #[.slice (some ⟨g, (at_ + 1) * 5, none⟩) (n - at_) dc, .slice (some ⟨g, at_ * 5, none⟩) (n + 1 - at_) sc]).run Tryd.prog w.drew = .ok (goInt (Nat.min (n + 1 - at_) (n - at_))) (w.drew.setCells g ((at_ + 1) * 5) ((l.drop at_).flatMap Link.vals)) := fun ty dc sc =>
      run_copy_blk (Blk.drewN hblk 1) Tryd.underlying23 size_link _ _ dc ⟨g, at_ * 5, none⟩ _ sc _ (by rw [hd, show Nat.min (n + 1 - at_) (n - at_) = n - at_ from Nat.min_eq_right (by omega)]) (splitc hblk hl hcs at_ (by omega)) (by rw [hd, hsz]; omega) (links_one _)
    have hb1 := Blk.setCells ((l.drop at_).flatMap Link.vals) ((at_ + 1) * 5) (Blk.drewN hblk 1)
    have hx1 : Blk (w.drew.setCells g ((at_ + 1) * 5) ((l.drop at_).flatMap Link.vals)) vb 45 #[.int .i64 x.id, .int .i64 x.fr, .int .i64 x.to, .int .i64 x.steps, .int .i64 x.paces] := ((grown_setCells (g := g) ((l.drop at_).flatMap Link.vals) ((at_ + 1) * 5) (grown_drew (grown_refl w (some g)) 1) (.inl rfl)).block vb hx.lt (by simp [hne])).trans hx
    have hcp2 : ∀ ty dc, (Builtin.copy_ #[23, 23] ty #[.slice (some ⟨g, at_ * 5, none⟩) (n + 1 - at_) dc, .slice (some ⟨vb, 0, none⟩) 1 1]).run Tryd.prog (w.drew.setCells g ((at_ + 1) * 5) ((l.drop at_).flatMap Link.vals)) = .ok (goInt (Nat.min 1 (n + 1 - at_))) ((w.drew.setCells g ((at_ + 1) * 5) ((l.drop at_).flatMap Link.vals)).setCells g (at_ * 5) x.vals) := fun ty dc =>
      run_copy_blk hb1 Tryd.underlying23 size_link _ _ dc ⟨vb, 0, none⟩ _ 1 _ (by rw [show Nat.min 1 (n + 1 - at_) = 1 from Nat.min_eq_left (by omega)]; rfl) (by
        intro j v hv
        rw [lit_add, Nat.zero_add]
        refine (hx1.cell j).trans ?_
        rw [← hv]
        simp [Link.vals]) (by rw [wrt_size, hsz]; simp [Link.vals]; omega) (vals_one x)
    have hic := ins_cells (x := x) hl (show at_ ≤ n by omega) (cs := cur) (by omega) (fun k hk => hcs k (by omega)) false
    simp only [Bool.false_eq_true, if_false] at hic
    have hfin : Own ((w.drew.setCells g ((at_ + 1) * 5) ((l.drop at_).flatMap Link.vals)).setCells g (at_ * 5) x.vals) base 45 5 (some ⟨g, 0, none⟩) (n + 1) c ((l.take at_ ++ x :: l.drop at_).flatMap Link.vals) :=
      Own.mk_ hbg (Blk.setCells x.vals (at_ * 5) hb1) hc hcap.2 (by rw [wrt_size, wrt_size]; exact hsz) (by rw [flat_len' vals5]; simp; omega) hic
    have hgr : w.grownBy ((w.drew.setCells g ((at_ + 1) * 5) ((l.drop at_).flatMap Link.vals)).setCells g (at_ * 5) x.vals) (some g) := grown_setCells x.vals (at_ * 5) (grown_setCells _ _ (grown_drew (grown_refl w (some g)) 1) (.inl rfl)) (.inl rfl)
    have mixed : Tryd.prog.follows .mixedOrders = true := by kernel_rfl
    have k1 : ((at_ : Int) == (n : Int)) = false := by simp; omega
    have k2 : ¬ (c = at_ + 1) := by omega
    have k3 : ¬ (c = at_) := by omega
    have k4 : decide ((c : Int) < (n : Int) + 1) = false := by simp; omega
    have k5 : ((at_ : Int) + 1).toNat = at_ + 1 := by omega
    have k6 : ((n : Int) + 1).toNat = n + 1 := by omega
    have k7 : IntKind.i64.wrap ((at_ : Int) + 1) = (at_ : Int) + 1 := by rw [IntKind.wrap_i64]; omega
    have k8 : (0 : Int) ≤ (at_ : Int) + 1 := by omega
    have k9 : at_ ≤ n := by omega
    have k10 : (at_ : Int) ≤ (n : Int) + 1 := by omega
    have k11 : n + 1 - (at_ + 1) = n - at_ := by omega
    have HF := Lib.hid hfin
    have HG := Lib.hid hgr
    have H1 := Lib.hid hcp1
    have H2 := Lib.hid hcp2
    clear hcp1 hcp2
    clear hfin hgr hic hb1 hx1 hx hO hcs hd hsz htake hl hblk hcap
    go_enter Tryd.func69, Tryd.ntmps69
    go_wp2_with (simp only [hov])
    clear hov
    have hcp1 := H1.out
    go_region
    clear hcp1
    have hcp2 := H2.out
    go_wp2_with fail
    go_ret
    exact ⟨rfl, HF.out, HG.out⟩

theorem under_int_kind : Tryd.prog.underlying 3 = some (.int .i64) := Tryd.underlying3

set_option maxRecDepth 100000 in
set_option maxHeartbeats 1000000 in
/-- In the middle, where there is no room. -/
theorem insert_grow (base g n c at_ : Nat) (l : List Link) (vb : Nat) (x : Link) (w : World) (hO : Own w base 45 5 (some ⟨g, 0, none⟩) n c (l.flatMap Link.vals)) (hbase : base ≤ w.heap.size) (hat : at_ < n) (hn : n ≤ 100) (hc : c < n + 1) (hx : Blk w vb 45 #[.int .i64 x.id, .int .i64 x.fr, .int .i64 x.to, .int .i64 x.steps, .int .i64 x.paces]) :
    Calls Tryd.prog 69 #[.slice (some ⟨g, 0, none⟩) n c, .int .i64 at_, .slice (some ⟨vb, 0, none⟩) 1 1] w fun e w' => ∃ c', e = .returned (.slice (some ⟨w.heap.size, 0, none⟩) (n + 1) c') ∧ Own w' base 45 5 (some ⟨w.heap.size, 0, none⟩) (n + 1) c' ((l.take at_ ++ x :: l.drop at_).flatMap Link.vals) ∧ Below w.heap.size w w' := by
  have hl : l.length = n := by have := hO.len; rw [flat_len' vals5] at this; omega
  have hcap := hO.cap_le
  have hmax : c ≤ 9223372036854775807 := by have := hcap.2; unfold maxLen at this; omega
  obtain ⟨i0, hi, hz0, hz1, hz2⟩ := info_parts info_link
  rcases hO.form with ⟨h, _⟩ | ⟨g', cur, h, hbg, hblk, _, _, hsz, htake, _⟩
  · cases h
  · cases h
    have hcs : ∀ k, k < n * 5 → cur[k]? = (l.flatMap Link.vals)[k]? := by
      intro k hk
      rw [← htake, List.getElem?_take, if_pos hk, Array.getElem?_toList]
    have hd : ((l.drop at_).flatMap Link.vals).length = (n - at_) * 5 := by rw [flat_len' vals5, List.length_drop, hl]
    have htk : ((l.take at_).flatMap Link.vals).length = at_ * 5 := by rw [flat_len' vals5, List.length_take]; congr 1; omega
    have hgl := hblk.lt
    have hxl := hx.lt
    have hap : ∀ ty, (Builtin.append_ #[23, 3] ty #[.slice (some ⟨g, 0, none⟩) at_ c, .int .i64 ((n + 1 - at_ : Nat) : Int)]).run Tryd.prog w = _ := fun ty =>
      run_append_make hblk Tryd.underlying23 under_int_kind hi hz0 at_ c (n + 1 - at_) ((l.take at_).flatMap Link.vals) (by rw [hz1]; exact htk) (by
        intro k hk
        rw [hz1] at hk
        rw [hcs k (by omega), ← flat_take vals5, List.getElem?_take, if_pos hk]) (by omega) (by rw [hz1]; omega) (by omega) (by omega) (by rw [hz2]; omega)
    rw [show at_ + (n + 1 - at_) = n + 1 by omega] at hap
    have hge := grownCap_ge w (n + 1) c 45
    have hle := grownCap_le_maxLen w (n + 1) c 45 (by unfold maxLen; omega)
    generalize grownCap w (n + 1) c 45 = cap' at hap hge hle
    obtain ⟨news, hnews⟩ : ∃ news : Array Value, ((l.take at_).flatMap Link.vals).toArray ++ Builtin.zeroCells (Value.agg #[.int .i64 0, .int .i64 0, .int .i64 0, .int .i64 0, .int .i64 0]).cells (n + 1 - at_) ++ Builtin.zeroCells (Value.agg #[.int .i64 0, .int .i64 0, .int .i64 0, .int .i64 0, .int .i64 0]).cells (cap' - (n + 1)) = news := ⟨_, rfl⟩
    rw [hnews] at hap
    have hns : news.size = cap' * 5 := by
      rw [← hnews]
      simp only [Array.size_append, List.size_toArray, htk, Builtin.zeroCells, Array.size_map, Array.size_range, Value.cells]
      simp
      omega
    have hhead : ∀ k, k < at_ * 5 → news[k]? = (l.flatMap Link.vals)[k]? := by
      intro k hk
      rw [← hnews, Array.append_assoc, Array.getElem?_append_left (by simp [htk]; omega), List.getElem?_toArray, ← flat_take vals5, List.getElem?_take, if_pos hk]
    have hw1 : Blk (w.drew.alloc (.cells news 45)) w.heap.size 45 news := Blk.new w.drew _ _
    have hb1 : Below w.heap.size w (w.drew.alloc (.cells news 45)) := (Below.refl _ _).drew.alloc (Nat.le_refl _) _
    have hx1 := hx.below hb1 hxl
    obtain ⟨W1, hW1⟩ : ∃ W1, w.drew.alloc (.cells news 45) = W1 := ⟨_, rfl⟩
    rw [hW1] at hap hw1 hb1 hx1
    have hcp1 : ∀ ty dc, (Builtin.copy_ #[23, 23] ty #[.slice (some ⟨w.heap.size, at_ * 5, none⟩) (n + 1 - at_) dc, .slice (some ⟨vb, 0, none⟩) 1 1]).run Tryd.prog W1 = .ok (goInt (Nat.min 1 (n + 1 - at_))) (W1.setCells w.heap.size (at_ * 5) x.vals) := fun ty dc =>
      run_copy_blk hw1 Tryd.underlying23 size_link _ _ dc ⟨vb, 0, none⟩ _ 1 _ (by rw [show Nat.min 1 (n + 1 - at_) = 1 from Nat.min_eq_left (by omega)]; rfl) (by
        intro j v hv
        rw [lit_add, Nat.zero_add]
        refine (hx1.cell j).trans ?_
        rw [← hv]
        simp [Link.vals]) (by rw [hns]; simp [Link.vals]; omega) (vals_one x)
    have hw2 := Blk.drewN (Blk.setCells x.vals (at_ * 5) hw1) 1
    have hb2 : Below w.heap.size w (W1.setCells w.heap.size (at_ * 5) x.vals) := below_of_grown_setCells hb1
    obtain ⟨W2, hW2⟩ : ∃ W2, W1.setCells w.heap.size (at_ * 5) x.vals = W2 := ⟨_, rfl⟩
    rw [hW2] at hcp1 hw2 hb2
    have hcp2 : ∀ ty dc sc, (Builtin.copy_ #[23, 23] ty #[.slice (some ⟨w.heap.size, (at_ + 1) * 5, none⟩) (n - at_) dc, .slice (some ⟨g, at_ * 5, none⟩) (n - at_) sc]).run Tryd.prog W2.drew = .ok (goInt (Nat.min (n - at_) (n - at_))) (W2.drew.setCells w.heap.size ((at_ + 1) * 5) ((l.drop at_).flatMap Link.vals)) := fun ty dc sc =>
      run_copy_blk hw2 Tryd.underlying23 size_link _ _ dc ⟨g, at_ * 5, none⟩ _ sc _ (by rw [hd, show Nat.min (n - at_) (n - at_) = n - at_ from Nat.min_self _]) (splitc (Blk.drewN (hblk.below hb2 hgl) 1) hl hcs at_ (by omega)) (by rw [wrt_size, hd, hns]; omega) (links_one _)
    have hic := ins_cells (x := x) hl (show at_ ≤ n by omega) (cs := news) (by omega) hhead true
    simp only [if_true] at hic
    have hfin : Own (W2.drew.setCells w.heap.size ((at_ + 1) * 5) ((l.drop at_).flatMap Link.vals)) base 45 5 (some ⟨w.heap.size, 0, none⟩) (n + 1) cap' ((l.take at_ ++ x :: l.drop at_).flatMap Link.vals) :=
      Own.mk_ hbase (Blk.setCells ((l.drop at_).flatMap Link.vals) ((at_ + 1) * 5) hw2) (by omega) hle (by rw [wrt_size, wrt_size]; exact hns) (by rw [flat_len' vals5]; simp; omega) hic
    have hgr : Below w.heap.size w (W2.drew.setCells w.heap.size ((at_ + 1) * 5) ((l.drop at_).flatMap Link.vals)) := below_of_grown_setCells hb2.drew
    have mixed : Tryd.prog.follows .mixedOrders = true := by kernel_rfl
    have k1 : ((at_ : Int) == (n : Int)) = false := by simp; omega
    have k2 : ¬ (cap' = at_ + 1) := by omega
    have k3 : ¬ (cap' = at_) := by omega
    have k2' : ¬ (c = at_) := by omega
    have k4 : decide ((c : Int) < (n : Int) + 1) = true := by simp; omega
    have k5 : ((at_ : Int) + 1).toNat = at_ + 1 := by omega
    have k6 : ((n : Int) + 1).toNat = n + 1 := by omega
    have k7 : IntKind.i64.wrap ((at_ : Int) + 1) = (at_ : Int) + 1 := by rw [IntKind.wrap_i64]; omega
    have k8 : (0 : Int) ≤ (at_ : Int) + 1 := by omega
    have k9 : at_ ≤ n := by omega
    have k10 : (at_ : Int) ≤ (n : Int) + 1 := by omega
    have k11 : n + 1 - (at_ + 1) = n - at_ := by omega
    have k12 : (n : Int) + 1 - (at_ : Int) = ((n + 1 - at_ : Nat) : Int) := by omega
    have HF := Lib.hid hfin
    have HG := Lib.hid hgr
    rw [← k12] at hap
    have HA := Lib.hid hap
    clear hap k12
    have H1 := Lib.hid hcp1
    have H2 := Lib.hid hcp2
    clear hfin hgr hic hb1 hx1 hx hO hcs hd hsz htake hl hblk hcap hcp1 hcp2 hW1 hW2 hnews hns hhead hw1 hw2 hb2 hi hz0 hz1 hz2 htk
    go_enter Tryd.func69, Tryd.ntmps69
    have hcp1 := H1.out
    go_wp2_with (at_builtin; refine Lib.wpList_append_run _ rfl _ _ 23 3 rfl _ _ rfl rfl _ _ (HA.out _) ?_)
    clear hcp1
    have hcp2 := H2.out
    go_region
    clear hcp2
    go_wp2_with fail
    go_ret
    exact ⟨cap', rfl, HF.out, HG.out⟩

/-- slices.Insert of one link. -/
theorem insert_link (base : Nat) (A : Option Addr) (n c at_ : Nat) (l : List Link) (vb : Nat) (x : Link) (w : World) (hO : Own w base 45 5 A n c (l.flatMap Link.vals)) (hbase : base ≤ w.heap.size) (hat : at_ ≤ n) (hn : n ≤ 100) (hx : Blk w vb 45 #[.int .i64 x.id, .int .i64 x.fr, .int .i64 x.to, .int .i64 x.steps, .int .i64 x.paces]) (hne : ∀ a, A = some a → vb ≠ a.block) :
    Calls Tryd.prog 69 #[.slice A n c, .int .i64 at_, .slice (some ⟨vb, 0, none⟩) 1 1] w fun e w' => ∃ A' c', e = .returned (.slice A' (n + 1) c') ∧ Own w' base 45 5 A' (n + 1) c' ((l.take at_ ++ x :: l.drop at_).flatMap Link.vals) ∧ w.grownBy w' (A.map (·.block)) ∧ (A' = A ∨ A' = some ⟨w.heap.size, 0, none⟩) := by
  have hl : l.length = n := by have := hO.len; rw [flat_len' vals5] at this; omega
  rcases Nat.eq_or_lt_of_le hat with rfl | hlt
  · refine (insert_end base A at_ c l vb _ x w hO hbase hn hx).mono ?_
    rintro e w' ⟨A', c', h1, h2, h3, h4⟩
    rw [List.take_of_length_le (by omega), List.drop_eq_nil_of_le (by omega)]
    exact ⟨A', c', h1, h2, h3, h4⟩
  · obtain ⟨g, rfl⟩ : ∃ g, A = some ⟨g, 0, none⟩ := by
      rcases hO.form with ⟨_, h, _⟩ | ⟨g, cur, h, _⟩
      · omega
      · exact ⟨g, h⟩
    by_cases hc : n + 1 ≤ c
    · refine (insert_room base g n c at_ l vb x w hO hlt hc hx (hne _ rfl)).mono ?_
      rintro e w' ⟨h1, h2, h3⟩
      exact ⟨_, _, h1, h2, h3, .inl rfl⟩
    · refine (insert_grow base g n c at_ l vb x w hO hbase hlt hn (by omega) hx).mono ?_
      rintro e w' ⟨c', h1, h2, h3⟩
      exact ⟨_, _, h1, h2, grown_of_below h3 _, .inr rfl⟩
end Go.Proofs.YtahkjagjcogeiaaDoor
