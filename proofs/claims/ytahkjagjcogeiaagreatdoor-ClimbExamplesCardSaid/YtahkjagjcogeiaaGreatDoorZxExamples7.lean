/- Part 7 of the texts of this claim, joined. -/
import Derived.Test.YtahkjagjcogeiaaGreatDoorZxExamples6
set_option linter.unusedVariables false
/- The search for rounds in climb.Round: all rounds from a place with the stops that are left. -/
namespace Go.Proofs.YtahkjagjcogeiaaGreatDoor
section
open Go.RowKit Go.Shelf
attribute [local go_sem] Oper.semAt_some
theorem YieldAt.deep {m : Nat} (m' : Nat) {P : Program} {l : Nat} {args : Array Value} {W : World} {R : Ending → World → Prop} (h : YieldAt Fence.wide m P l args W R) : YieldAt Fence.wide m' P l args W R := by
 obtain ⟨fn, tmps, assign, body, hy, hR⟩ := h
 exact ⟨fn, tmps, assign, body, hy, hR.1, fun c cs _ => hR.2 c cs (fun d hd => by cases hd)⟩
structure TryBox (l' r gl gb gy gt : Nat) (u : Int) (t : Town) (dk : Bool) (D : List Int) (lm : List (P2 × Leg)) (W : World) : Prop where
 legs : LegsAt W r t dk D lm
 bl : Blk W gl 127 #[.map (some r)]
 bb : Blk W gb 3 #[.int .i64 u]
 by_ : Blk W gy 134 #[.func (.yield l') #[] #[]]
 bt : Blk W gt 135 #[.func (.func 78) #[] #[.pointer (some ⟨gl, 0, none⟩), .pointer (some ⟨gb, 0, none⟩), .pointer (some ⟨gy, 0, none⟩), .pointer (some ⟨gt, 0, none⟩)]]
structure TryPl (n0 n1 r gl gb gy gt : Nat) : Prop where
 r : r < n0
 l : gl < n0
 b : gb < n0
 y : n1 ≤ gy
 t : n1 ≤ gt
theorem TryBox.kp {l' r gl gb gy gt n0 n1 : Nat} {u : Int} {t : Town} {dk : Bool} {D : List Int} {lm : List (P2 × Leg)} {W W' : World} (h : TryBox l' r gl gb gy gt u t dk D lm W) (hp : TryPl n0 n1 r gl gb gy gt) (hk : KpR n0 n1 W W') : TryBox l' r gl gb gy gt u t dk D lm W' := by
 refine ⟨⟨?_, h.legs.look⟩, hk.blk (.inl hp.l) h.bl, hk.blk (.inl hp.b) h.bb, hk.blk (.inr hp.y) h.by_, hk.blk (.inr hp.t) h.bt⟩
 obtain ⟨es, cl, h1, h2⟩ := h.legs.map
 exact ⟨es, cl, hk.2 r _ (.inl hp.r) h1 (.inr rfl), h2⟩
theorem safe_ints {n0 n1 : Nat} {W W' : World} {A : Option Addr} {n : Nat} {l : List Int} (h : IntsAt W W.heap.size A n l) (hs : Safe n0 n1 A) (hk : KpR n0 n1 W W') : IntsAt W' W'.heap.size A n l := by
 refine ⟨h.1, fun hn => ?_⟩
 obtain ⟨ad, e, hb, hc⟩ := h.2 hn
 refine ⟨ad, e, Nat.lt_of_lt_of_le hb hk.1, fun j v hv => ?_⟩
 have h1 := hc j v hv
 obtain ⟨o, ho, hcell⟩ := cells_of_cell h1
 rw [← h1]
 refine World.cell?_of_block ?_
 rw [ho]
 refine hk.2 _ _ ?_ ho (.inl hcell)
 rw [block_of_add]
 exact .inr (hs ad e)
structure TryGh where
 C : Option Addr
 cc : Nat
 N : Nat
 D : Option Addr
 dc : Nat
 E : Nat
 ec : Nat
theorem own_some {w : World} {base n c : Nat} {l : List Value} {A : Option Addr} (h : Own w base 3 1 A (n + 1) c l) : ∃ E, A = some ⟨E, 0, none⟩ := by
 rcases h.form with ⟨_, h0, _⟩ | ⟨g, _, rfl, _⟩
 ·omega
 ·exact ⟨g, rfl⟩
theorem erase_at {l : List Int} {i : Nat} {x : Int} (hn : l.Nodup) (hx : l[i]? = some x) : l.eraseIdx i = l.erase x := by
 induction l generalizing i with
 | nil => simp at hx
 | cons y l ih =>
  rw [List.nodup_cons] at hn
  cases i with
  | zero => simp at hx; subst hx; simp
  | succ i =>
   have hx' : l[i]? = some x := by simpa using hx
   have hne : y ≠ x := fun e => hn.1 (by rw [e]; exact List.mem_of_getElem? hx')
   rw [List.eraseIdx_cons_succ, List.erase_cons_tail (by simpa using hne), ih hn.2 hx']
set_option maxRecDepth 100000 in
set_option maxHeartbeats 16000000 in
theorem try_in (l' n0 n1 r gl gb gy gt : Nat) (u : Int) (t : Town) (dk : Bool) (D : List Int) (lm : List (P2 × Leg)) (J : List Rd → World → Prop) (hJ : ∀ s A B, J s A → Below A.heap.size A B → J s B)
  (hpl : TryPl n0 n1 r gl gb gy gt) (hn01 : n0 ≤ n1) (hg : GoodT t) (hD : ∀ v ∈ D, v ∈ t.places) (hu : u ∈ D)
  (hY : ∀ m pre x W, J pre W → AtR n0 n1 x W → YieldAt Fence.wide m Tryz.prog l' #[x.val] W fun e W' => e = .returned (.bool true) ∧ J (pre ++ [x]) W' ∧ KpR n0 n1 W W') :
  ∀ (k : Nat) (Ao : Option Addr) (no co : Nat) (o : List Int) (p : Int) (s1 s2 : Int) (Al : Option Addr) (cl : Nat) (l : List Int) (pre : List Rd) (W : World),
   TryBox l' r gl gb gy gt u t dk D lm W → J pre W → IntsAt W W.heap.size Ao no o → Safe n0 n1 Ao → no + k ≤ 6 → IntsAt W W.heap.size Al k l → Safe n0 n1 Al → n1 ≤ W.heap.size → p ∈ D → (∀ v ∈ l, v ∈ D) → l.Nodup →
   (0 ≤ s1 ∧ s1 + 16000 * ((k : Int) + 1) ≤ 200000) → (0 ≤ s2 ∧ s2 + 16000 * ((k : Int) + 1) ≤ 200000) →
   CallsIn Fence.wide 9 Tryz.prog 78 #[.slice Ao no co, .int .i64 p, .agg #[.int .i64 s1, .int .i64 s2], .slice Al k cl, .pointer (some ⟨gl, 0, none⟩), .pointer (some ⟨gb, 0, none⟩), .pointer (some ⟨gy, 0, none⟩), .pointer (some ⟨gt, 0, none⟩)] W fun e W' =>
    e = .returned (.tuple #[]) ∧ ∃ xs, xs.map Rd.rnd = dfs (legF t dk) u k o p (s1, s2) l ∧ J (pre ++ xs) W' ∧ KpR n0 n1 W W' := by
 intro k
 induction k with
 | zero =>
  intro Ao no co o p s1 s2 Al cl l pre W hbox hJ0 hro hso hnk hrl hsl hsz hp hlD hnd hs1 hs2
  have hl0 : l = [] := List.length_eq_zero_iff.1 hrl.len
  have HBX := lh hbox
  have HJ0 := lh hJ0
  have HRO := lh hro
  have HSO := lh hso
  have HJ := lh hJ
  clear hbox hJ0 hro hso hrl hsl hlD hnd hJ
  refine callsIn_of_wp Tryz.func78 rfl trivial ?_ rfl
  simp only [Tryz.ntmps78, List.size_toArray, List.length_cons, List.length_nil, Nat.reduceAdd, Nat.reduceSub, Array.replicate_succ, Array.replicate_zero, List.push_toArray, List.append_toArray, List.nil_append, List.cons_append]
  gi_upto_region 2 with fail
  have hb0 : Below W.heap.size W (W.alloc (.cells #[.int .i64 s1, .int .i64 s2] 34)) := (Below.refl _ _).alloc (Nat.le_refl _) _
  have HB0 := lh hb0
  have HBX0 := lh (HBX.out.kp hpl (KpR.of_below hb0))
  have HSB := lh (Blk.new W 34 #[.int .i64 s1, .int .i64 s2])
  clear hb0
  generalize hW0 : (W.alloc (.cells #[.int .i64 s1, .int .i64 s2] 34)) = W0 at *
  generalize hGS : W.heap.size = gs at *
  clear hW0
  have c0 := HBX0.out.bl.cell 0
  have c1 := HBX0.out.bb.cell 0
  have c2 := HSB.out.cell 0
  have c3 := HSB.out.cell 1
  have HAD := lh (add_any r lm (s1, s2) p u W0 HBX0.out.legs.map (okI_of (by have := hg.ids p (hD p hp); omega) (by have := hg.ids p (hD p hp); omega)) (okI_of (by have := hg.ids u (hD u hu); omega) (by have := hg.ids u (hD u hu); omega)) ⟨hs1.1, by have := hs1.2; simp only; omega⟩ ⟨hs2.1, by have := hs2.2; simp only; omega⟩ (fun q hq => by have := legs_small hg HBX0.out.legs q hq; omega))
  gi_wp2
  refine ⟨trivial, (callsIn_wide.2 HAD.out).mono ?_⟩
  unfold AddOut
  rintro e W1 ⟨rfl, hb1⟩
  have hlg := HBX0.out.legs.lg hp u
  rw [hlg.1, hlg.2]
  have HT : Hid (dfs (legF t dk) u 0 o p (s1, s2) [] = match legF t dk p u with | none => [] | some d => [(o, addG (s1, s2) d)]) := lh rfl
  generalize legF t dk p u = T0 at *
  clear HAD hlg
  have HB1 := lh (show Below gs W W1 from HB0.out.trans (hb1.mono (by have := HB0.out.size; omega)))
  clear hb1
  cases T0 with
  | none =>
   gi_wp2
   refine bodyPost_ret (results_none rfl _ _ _) rfl ⟨rfl, [], by rw [hl0]; exact HT.out.symm, ?_, ?_⟩
   ·rw [List.append_nil]
    exact HJ.out _ _ _ HJ0.out (by rw [hGS]; exact HB1.out.alloc (by have := HB1.out.size; omega) _)
   ·exact KpR.of_below (by rw [hGS]; exact HB1.out.alloc (by have := HB1.out.size; omega) _)
  | some d =>
   obtain ⟨d1, d2⟩ := d
   gi_upto_region 4 with fail
   have hb2 : Below gs W (W1.alloc (.cells #[.int .i64 (s1 + d1), .int .i64 (s2 + d2)] 34)) := HB1.out.alloc (by have := HB1.out.size; omega) _
   have HSB2 := lh (Blk.new W1 34 #[.int .i64 (s1 + d1), .int .i64 (s2 + d2)])
   generalize (W1.alloc (.cells #[.int .i64 (s1 + d1), .int .i64 (s2 + d2)] 34)) = W2 at *
   generalize W1.heap.size = g2 at *
   have HBX2 := lh (HBX.out.kp hpl (KpR.of_below (B := W2) (by rw [hGS]; exact hb2)))
   have HJ2 := HJ.out _ _ _ HJ0.out (by rw [hGS]; exact hb2 : Below W.heap.size W W2)
   have hk2 : KpR n0 n1 W W2 := KpR.of_below (by rw [hGS]; exact hb2)
   have HAT : AtR n0 n1 (⟨o, (s1 + d1, s2 + d2), Ao, no, co⟩ : Rd) W2 := ⟨⟨safe_ints (by rw [hGS]; exact HRO.out) HSO.out hk2, by simp only; omega⟩, HSO.out⟩
   have d0_ := HBX2.out.by_.cell 0
   have d1_ := HSB2.out.cell 0
   have d2_ := HSB2.out.cell 1
   obtain ⟨fn, tmps, assign, body, hy, hR⟩ := hY 8 pre _ W2 HJ2 HAT
   have HRd := lh hR
   have HK2 := lh hk2
   clear hR hb2 HJ2 HAT hk2 c0 c1 c2 c3
   gi_wp2
   refine HRd.out.mono ?_
   rintro e W3 ⟨rfl, hJ3, hk3⟩
   gi_wp2
   exact bodyPost_ret (results_none rfl _ _ _) rfl ⟨rfl, [⟨o, (s1 + d1, s2 + d2), Ao, no, co⟩], by rw [hl0, HT.out]; rfl, hJ3, HK2.out.trans hk3⟩
 | succ k ih =>
  intro Ao no co o p s1 s2 Al cl l pre W hbox hJ0 hro hso hnk hrl hsl hsz hp hlD hnd hs1 hs2
  have hlen := hrl.len
  have HBX := lh hbox
  have HJ0 := lh hJ0
  have HRO := lh hro
  have HRL := lh hrl
  have HSO := lh hso
  have HSL := lh hsl
  have HLD := lh hlD
  have HND := lh hnd
  have HIH := lh ih
  have HLN := lh hlen
  have HJ := lh hJ
  clear hbox hJ0 hro hrl hso hsl hlD hnd ih hlen hJ
  refine callsIn_of_wp Tryz.func78 rfl trivial ?_ rfl
  simp only [Tryz.ntmps78, List.size_toArray, List.length_cons, List.length_nil, Nat.reduceAdd, Nat.reduceSub, Array.replicate_succ, Array.replicate_zero, List.push_toArray, List.append_toArray, List.nil_append, List.cons_append]
  gi_wp2
  have hb0 : Below W.heap.size W (W.alloc (.cells #[.int .i64 s1, .int .i64 s2] 34)) := (Below.refl _ _).alloc (Nat.le_refl _) _
  have HB0 := lh hb0
  have HSB := lh (Blk.new W 34 #[.int .i64 s1, .int .i64 s2])
  clear hb0
  generalize hW0 : (W.alloc (.cells #[.int .i64 s1, .int .i64 s2] 34)) = W0 at *
  generalize hGS : W.heap.size = gs at *
  clear hW0
  gi_loopw [37] (fun v37 wr => ∃ (i : Nat) (xs : List Rd), v37 = .int .i64 i ∧ i ≤ k + 1 ∧ Hid (xs.map Rd.rnd = (l.take i).flatMap (fun x => match legF t dk p x with | none => [] | some d => dfs (legF t dk) u k (o ++ [x]) x (addG (s1, s2) d) (l.erase x)) ∧ J (pre ++ xs) wr ∧ KpR n0 n1 W wr ∧ Blk wr gs 34 #[.int .i64 s1, .int .i64 s2]))
   (fun v37 _ => k + 1 - (intOf v37).toNat)
  case atStart =>
   refine ⟨0, [], rfl, Nat.zero_le _, lh ⟨rfl, ?_, ?_, HSB.out⟩⟩
   ·rw [List.append_nil]; exact HJ.out _ _ _ HJ0.out (by rw [hGS]; exact HB0.out)
   ·exact KpR.of_below (by rw [hGS]; exact HB0.out)
  case round =>
   obtain ⟨i, xs, rfl, hi, HS⟩ := hrel
   by_cases hlt : i < k + 1
   ·have hrw := safe_ints (by rw [hGS]; exact HRL.out) HSL.out HS.out.2.2.1
    obtain ⟨b, off, x, hA, hbb, hx, hc⟩ := hrw.cell hlt
    subst hA
    have HX := lh hx
    have hcc : wr.cell? ⟨b, off + i, none⟩ = some (.int .i64 x) := hc
    have HBXr := lh (HBX.out.kp hpl HS.out.2.2.1)
    have hxD : x ∈ D := HLD.out x (List.mem_of_getElem? hx)
    have HXD := lh hxD
    have c0 := HBXr.out.bl.cell 0
    have c2 := HS.out.2.2.2.cell 0
    have c3 := HS.out.2.2.2.cell 1
    have HAD := lh (add_any r lm (s1, s2) p x wr HBXr.out.legs.map (okI_of (by have := hg.ids p (hD p hp); omega) (by have := hg.ids p (hD p hp); omega)) (okI_of (by have := hg.ids x (hD x hxD); omega) (by have := hg.ids x (hD x hxD); omega)) ⟨hs1.1, by have := hs1.2; simp only; omega⟩ ⟨hs2.1, by have := hs2.2; simp only; omega⟩ (fun q hq => by have := legs_small hg HBXr.out.legs q hq; omega))
    clear hrw hx hc hxD
    gi_wp2
    refine ⟨trivial, (callsIn_wide.2 HAD.out).mono ?_⟩
    unfold AddOut
    rintro e W1 ⟨rfl, hb1⟩
    have hlg := HBXr.out.legs.lg hp x
    rw [hlg.1, hlg.2]
    have HTS : Hid (∀ d, legF t dk p x = d → (l.take (i + 1)).flatMap (fun x => match legF t dk p x with | none => [] | some d => dfs (legF t dk) u k (o ++ [x]) x (addG (s1, s2) d) (l.erase x)) = xs.map Rd.rnd ++ (match d with | none => [] | some d => dfs (legF t dk) u k (o ++ [x]) x (addG (s1, s2) d) (l.erase x))) := lh (by
     intro d hd
     rw [← take_snocI HX.out, List.flatMap_append, HS.out.1, ← hd]
     simp)
    have HSM := lh (fun d (h : legF t dk p x = some d) => legF_small hg h)
    obtain ⟨T0, hT0⟩ : ∃ T0, legF t dk p x = T0 := ⟨_, rfl⟩
    rw [hT0]
    have HT0 := lh hT0
    clear HAD hlg hT0 c0 c2 c3 hcc
    cases T0 with
    | none =>
     have hb1' := hb1
     have HB1 := lh hb1
     clear hb1 hb1'
     gi_wp2
     have hba := HB1.out.alloc (B := wr.heap.size) HB1.out.size (.cells #[.int .i64 s1, .int .i64 s2] 34)
     refine ⟨?_, ?measure⟩
     repeat apply Exists.intro
     refine ⟨?rel, rfl⟩
     case rel =>
      refine ⟨i + 1, xs, by go_num, by omega, lh ⟨?_, HJ.out _ _ _ HS.out.2.1 hba, HS.out.2.2.1.trans (KpR.of_below hba), HS.out.2.2.2.below hba HS.out.2.2.2.lt⟩⟩
      rw [HTS.out _ HT0.out, List.append_nil]
     case measure => simp [intOf]; omega
    | some d =>
     obtain ⟨da, db⟩ := d
     have HB1 := lh hb1
     clear hb1
     gi_upto_region 10 with fail
     have hb2 : Below wr.heap.size wr (W1.alloc (.cells #[.int .i64 (s1 + da), .int .i64 (s2 + db)] 34)) := HB1.out.alloc HB1.out.size _
     have HSB2 := lh (Blk.new W1 34 #[.int .i64 (s1 + da), .int .i64 (s2 + db)])
     have HB2 := lh hb2
     clear hb2
     generalize hW2 : (W1.alloc (.cells #[.int .i64 (s1 + da), .int .i64 (s2 + db)] 34)) = W2 at *
     generalize hG2 : W1.heap.size = g2 at *
     clear hW2
     have HBX2 := lh (HBXr.out.kp hpl (KpR.of_below HB2.out))
     have HJ2 := lh (HJ.out _ _ _ HS.out.2.1 HB2.out)
     have HRO2 := lh (safe_ints (by rw [hGS]; exact HRO.out) HSO.out (HS.out.2.2.1.trans (KpR.of_below HB2.out)))
     have HRL2 := lh (safe_ints (by rw [hGS]; exact HRL.out) HSL.out (HS.out.2.2.1.trans (KpR.of_below HB2.out)))
     have hN2 : n1 ≤ W2.heap.size := by have h1 := HS.out.2.2.1.1; have h2 := HB2.out.size; omega
     have hs1d : 0 ≤ s1 + da ∧ s1 + da + 16000 * ((k : Int) + 1) ≤ 200000 := by have h := HSM.out _ HT0.out; simp only at h; omega
     have hs2d : 0 ≤ s2 + db ∧ s2 + db + 16000 * ((k : Int) + 1) ≤ 200000 := by have h := HSM.out _ HT0.out; simp only at h; omega
     clear HB1
     refine wpIn_region_stepsD (by kernel_rfl) (by kernel_rfl) (fun σ : TryGh × (Nat → Value) => { tmps := #[.slice Ao no co, .int .i64 p, .agg #[.int .i64 s1, .int .i64 s2], .slice (some ⟨b, off, none⟩) (k + 1) cl, .pointer (some ⟨gl, 0, none⟩), .pointer (some ⟨gb, 0, none⟩), .pointer (some ⟨gy, 0, none⟩), .pointer (some ⟨gt, 0, none⟩), undef, undef, .pointer (some ⟨gs, 0, none⟩), undef, undef, undef, .int .i64 i, .int .i64 x, .pointer (some ⟨g2, 0, none⟩), .bool true, .slice (some ⟨b, off, none⟩) (k + 1) cl, .int .i64 ((k : Int) + 1), .bool false, undef, undef, undef, undef, undef, undef, undef, undef, undef, undef, undef, undef, undef, undef, .slice (some ⟨b, off, none⟩) (k + 1) cl, .int .i64 ((k : Int) + 1), .int .i64 i, .bool true, .int .i64 i, .pointer (some ⟨b, off + i, none⟩), .int .i64 x, .tuple #[.agg #[.int .i64 (s1 + da), .int .i64 (s2 + db)], .bool true], .map (some r), .agg #[.int .i64 s1, .int .i64 s2], .int .i64 p, .int .i64 x, .tuple #[.agg #[.int .i64 (s1 + da), .int .i64 (s2 + db)], .bool true], .agg #[.int .i64 (s1 + da), .int .i64 (s2 + db)], .bool true, .bool true, σ.2 51, σ.2 52, σ.2 53, σ.2 54, σ.2 55, σ.2 56, σ.2 57, σ.2 58, σ.2 59, σ.2 60, σ.2 61, σ.2 62, σ.2 63, σ.2 64, σ.2 65, u66], defers := [] })
      (fun L σ W => (L 14 = false → Below W2.heap.size W2 W) ∧ (L 2 = true → L 5 = false → Own W W2.heap.size 3 1 σ.1.C no σ.1.cc (o.map (Value.int .i64))) ∧ (L 4 = true → L 5 = false → Blk W σ.1.N 3 #[.int .i64 x]) ∧ (L 5 = true → L 14 = false → Own W W2.heap.size 3 1 σ.1.D (no + 1) σ.1.dc ((o ++ [x]).map (Value.int .i64))) ∧ (L 9 = true → L 13 = false → Own W W2.heap.size 3 1 (some ⟨σ.1.E, 0, none⟩) (k + 1) σ.1.ec (l.map (Value.int .i64)) ∧ ∀ a, σ.1.D = some a → a.block ≠ σ.1.E) ∧ (L 13 = true → L 14 = false → Own W W2.heap.size 3 1 (some ⟨σ.1.E, 0, none⟩) k σ.1.ec ((l.eraseIdx i).map (Value.int .i64))) ∧ (L 14 = true → ∃ ys, ys.map Rd.rnd = dfs (legF t dk) u k (o ++ [x]) x (s1 + da, s2 + db) (l.erase x) ∧ J (pre ++ xs ++ ys) W ∧ KpR n0 n1 W2 W) ∧ (L 0 = true → σ.2 51 = .func (.func 78) #[] #[.pointer (some ⟨gl, 0, none⟩), .pointer (some ⟨gb, 0, none⟩), .pointer (some ⟨gy, 0, none⟩), .pointer (some ⟨gt, 0, none⟩)]) ∧ (L 1 = true → σ.2 52 = .slice Ao no co) ∧ (L 2 = true → σ.2 53 = .slice σ.1.C no σ.1.cc) ∧ (L 3 = true → σ.2 54 = .int .i64 x) ∧ (L 4 = true → σ.2 55 = .slice (some ⟨σ.1.N, 0, none⟩) 1 1) ∧ (L 5 = true → σ.2 56 = .slice σ.1.D (no + 1) σ.1.dc) ∧ (L 6 = true → σ.2 57 = .int .i64 x) ∧ (L 7 = true → σ.2 58 = .agg #[.int .i64 (s1 + da), .int .i64 (s2 + db)]) ∧ (L 8 = true → σ.2 59 = .slice (some ⟨b, off, none⟩) (k + 1) cl) ∧ (L 9 = true → σ.2 60 = .slice (some ⟨σ.1.E, 0, none⟩) (k + 1) σ.1.ec) ∧ (L 10 = true → σ.2 61 = .int .i64 i) ∧ (L 11 = true → σ.2 62 = .int .i64 i) ∧ (L 12 = true → σ.2 63 = .int .i64 ((i : Int) + 1)) ∧ (L 13 = true → σ.2 64 = .slice (some ⟨σ.1.E, 0, none⟩) k σ.1.ec) ∧ (L 14 = true → σ.2 65 = .tuple #[]))
      (⟨none, 0, 0, none, 0, 0, 0⟩, fun k => (#[u51, u52, u53, u54, u55, u56, u57, u58, u59, u60, u61, u62, u63, u64, u65] : Array Value).getD (k - 51) undef) rfl ?_ ?_ ?_
     ·exact ⟨(fun _ => below_drewN (Below.refl _ _) 1), (fun h => by cases h), (fun h => by cases h), (fun h => by cases h), (fun h => by cases h), (fun h => by cases h), (fun h => by cases h), (fun h => by cases h), (fun h => by cases h), (fun h => by cases h), (fun h => by cases h), (fun h => by cases h), (fun h => by cases h), (fun h => by cases h), (fun h => by cases h), (fun h => by cases h), (fun h => by cases h), (fun h => by cases h), (fun h => by cases h), (fun h => by cases h), (fun h => by cases h), (fun h => by cases h)⟩
     ·refine ⟨?_, ?_, ?_, ?_, ?_, ?_, ?_, ?_, ?_, ?_, ?_, ?_, ?_, ?_, ?_, trivial⟩
      ·rintro L ⟨gh, s⟩ W hu hd hdn ⟨gA, gC, gN, gD, gE, gF, gZ, f0, f1, f2, f3, f4, f5, f6, f7, f8, f9, f10, f11, f12, f13, f14⟩ K Q hK
       try dsimp only at gA gC gN gD gE gF gZ f0 f1 f2 f3 f4 f5 f6 f7 f8 f9 f10 f11 f12 f13 f14 ⊢
       have h14 : L 14 = false := by
        cases hc : L 14 with
        | false => rfl
        | true => exact hdn.no 14 0 hc rfl hu
       have cT : W.cell? ⟨gt, 0, none⟩ = some (.func (.func 78) #[] #[.pointer (some ⟨gl, 0, none⟩), .pointer (some ⟨gb, 0, none⟩), .pointer (some ⟨gy, 0, none⟩), .pointer (some ⟨gt, 0, none⟩)]) := (HBX2.out.kp hpl (KpR.of_below (gA h14))).bt.cell 0
       have HF := lh (ai gA (ai gC (ai gN (ai gD (ai gE (ai gF (ai gZ (ai f0 (ai f1 (ai f2 (ai f3 (ai f4 (ai f5 (ai f6 (ai f7 (ai f8 (ai f9 (ai f10 (ai f11 (ai f12 (ai f13 f14)))))))))))))))))))))
       clear f14 f13 f12 f11 f10 f9 f8 f7 f6 f5 f4 f3 f2 f1 f0 gZ gF gE gD gN gC gA hd
       try simp only
       gi_wp2
       obtain ⟨gA, gC, gN, gD, gE, gF, gZ, f0, f1, f2, f3, f4, f5, f6, f7, f8, f9, f10, f11, f12, f13, f14⟩ := HF.out
       exact hK (gh, (upd s 51 (.func (.func 78) #[] #[.pointer (some ⟨gl, 0, none⟩), .pointer (some ⟨gb, 0, none⟩), .pointer (some ⟨gy, 0, none⟩), .pointer (some ⟨gt, 0, none⟩)]))) _ ⟨gA, gC, gN, gD, gE, gF, gZ, (fun _ => rfl), f1, f2, f3, f4, f5, f6, f7, f8, f9, f10, f11, f12, f13, f14⟩
      ·rintro L ⟨gh, s⟩ W hu hd hdn ⟨gA, gC, gN, gD, gE, gF, gZ, f0, f1, f2, f3, f4, f5, f6, f7, f8, f9, f10, f11, f12, f13, f14⟩ K Q hK
       try dsimp only at gA gC gN gD gE gF gZ f0 f1 f2 f3 f4 f5 f6 f7 f8 f9 f10 f11 f12 f13 f14 ⊢
       have HF := lh (ai gA (ai gC (ai gN (ai gD (ai gE (ai gF (ai gZ (ai f0 (ai f1 (ai f2 (ai f3 (ai f4 (ai f5 (ai f6 (ai f7 (ai f8 (ai f9 (ai f10 (ai f11 (ai f12 (ai f13 f14)))))))))))))))))))))
       clear f14 f13 f12 f11 f10 f9 f8 f7 f6 f5 f4 f3 f2 f1 f0 gZ gF gE gD gN gC gA hd
       try simp only
       gi_wp2
       obtain ⟨gA, gC, gN, gD, gE, gF, gZ, f0, f1, f2, f3, f4, f5, f6, f7, f8, f9, f10, f11, f12, f13, f14⟩ := HF.out
       exact hK (gh, (upd s 52 (.slice Ao no co))) _ ⟨gA, gC, gN, gD, gE, gF, gZ, f0, (fun _ => rfl), f2, f3, f4, f5, f6, f7, f8, f9, f10, f11, f12, f13, f14⟩
      ·rintro L ⟨gh, s⟩ W hu hd hdn ⟨gA, gC, gN, gD, gE, gF, gZ, f0, f1, f2, f3, f4, f5, f6, f7, f8, f9, f10, f11, f12, f13, f14⟩ K Q hK
       try dsimp only at gA gC gN gD gE gF gZ f0 f1 f2 f3 f4 f5 f6 f7 f8 f9 f10 f11 f12 f13 f14 ⊢
       have e1 := f1 (hd.at_ 1 rfl)
       have h14 : L 14 = false := by
        cases hc : L 14 with
        | false => rfl
        | true => exact hdn.no 5 2 (hdn.at_ 14 5 hc rfl) rfl hu
       have hA := gA h14
       have HF := lh (ai gA (ai gC (ai gN (ai gD (ai gE (ai gF (ai gZ (ai f0 (ai f1 (ai f2 (ai f3 (ai f4 (ai f5 (ai f6 (ai f7 (ai f8 (ai f9 (ai f10 (ai f11 (ai f12 (ai f13 f14)))))))))))))))))))))
       clear f14 f13 f12 f11 f10 f9 f8 f7 f6 f5 f4 f3 f2 f1 f0 gZ gF gE gD gN gC gA hd
       try simp only at e1 ⊢
       gi_wp2
       refine ⟨trivial, (callsIn_wide.2 (clone_int Ao no co o W ((HRO2.out.below hA).more hA.size) (by unfold maxLen; omega) (by omega))).mono ?_⟩
       rintro e W3 ⟨C, cc, rfl, hO, hCn, hb⟩
       clear hCn
       gi_wp2
       obtain ⟨gA, gC, gN, gD, gE, gF, gZ, f0, f1, f2, f3, f4, f5, f6, f7, f8, f9, f10, f11, f12, f13, f14⟩ := HF.out
       exact hK ({ gh with C := C, cc := cc }, (upd (upd s 52 (.slice Ao no co)) 53 (.slice C no cc))) _ ⟨(fun _ => hA.trans (hb.mono hA.size)), (fun _ _ => hO.mono hA.size), (fun h4 h5 => (gN h4 h5).below hb (gN h4 h5).lt), (fun h _ => hdn.no 5 2 h rfl hu), (fun h _ => hdn.no 5 2 (hdn.at_ 9 5 h rfl) rfl hu), (fun h _ => hdn.no 5 2 (hdn.at_ 9 5 (hdn.at_ 13 9 h rfl) rfl) rfl hu), (fun h => hdn.no 5 2 (hdn.at_ 14 5 h rfl) rfl hu), f0, (fun _ => rfl), (fun _ => rfl), f3, f4, f5, f6, f7, f8, f9, f10, f11, f12, f13, f14⟩
      ·rintro L ⟨gh, s⟩ W hu hd hdn ⟨gA, gC, gN, gD, gE, gF, gZ, f0, f1, f2, f3, f4, f5, f6, f7, f8, f9, f10, f11, f12, f13, f14⟩ K Q hK
       try dsimp only at gA gC gN gD gE gF gZ f0 f1 f2 f3 f4 f5 f6 f7 f8 f9 f10 f11 f12 f13 f14 ⊢
       have HF := lh (ai gA (ai gC (ai gN (ai gD (ai gE (ai gF (ai gZ (ai f0 (ai f1 (ai f2 (ai f3 (ai f4 (ai f5 (ai f6 (ai f7 (ai f8 (ai f9 (ai f10 (ai f11 (ai f12 (ai f13 f14)))))))))))))))))))))
       clear f14 f13 f12 f11 f10 f9 f8 f7 f6 f5 f4 f3 f2 f1 f0 gZ gF gE gD gN gC gA hd
       try simp only
       gi_wp2
       obtain ⟨gA, gC, gN, gD, gE, gF, gZ, f0, f1, f2, f3, f4, f5, f6, f7, f8, f9, f10, f11, f12, f13, f14⟩ := HF.out
       exact hK (gh, (upd s 54 (.int .i64 x))) _ ⟨gA, gC, gN, gD, gE, gF, gZ, f0, f1, f2, (fun _ => rfl), f4, f5, f6, f7, f8, f9, f10, f11, f12, f13, f14⟩
      ·rintro L ⟨gh, s⟩ W hu hd hdn ⟨gA, gC, gN, gD, gE, gF, gZ, f0, f1, f2, f3, f4, f5, f6, f7, f8, f9, f10, f11, f12, f13, f14⟩ K Q hK
       try dsimp only at gA gC gN gD gE gF gZ f0 f1 f2 f3 f4 f5 f6 f7 f8 f9 f10 f11 f12 f13 f14 ⊢
       have e3 := f3 (hd.at_ 3 rfl)
       have h14 : L 14 = false := by
        cases hc : L 14 with
        | false => rfl
        | true => exact hdn.no 5 4 (hdn.at_ 14 5 hc rfl) rfl hu
       have hA := gA h14
       have HF := lh (ai gA (ai gC (ai gN (ai gD (ai gE (ai gF (ai gZ (ai f0 (ai f1 (ai f2 (ai f3 (ai f4 (ai f5 (ai f6 (ai f7 (ai f8 (ai f9 (ai f10 (ai f11 (ai f12 (ai f13 f14)))))))))))))))))))))
       clear f14 f13 f12 f11 f10 f9 f8 f7 f6 f5 f4 f3 f2 f1 f0 gZ gF gE gD gN gC gA hd
       try simp only at e3 ⊢
       gi_wp2
       obtain ⟨gA, gC, gN, gD, gE, gF, gZ, f0, f1, f2, f3, f4, f5, f6, f7, f8, f9, f10, f11, f12, f13, f14⟩ := HF.out
       have hb : Below W.heap.size W (W.alloc (.cells #[.int .i64 x] 3)) := (Below.refl _ _).alloc (Nat.le_refl _) _
       exact hK ({ gh with N := W.heap.size }, (upd (upd s 54 (.int .i64 x)) 55 (.slice (some ⟨W.heap.size, 0, none⟩) 1 1))) _ ⟨(fun _ => hA.trans (hb.mono hA.size)), (fun h2 h5 => (gC h2 h5).below hb (Nat.le_refl _)), (fun _ _ => Blk.new _ _ _), (fun h _ => hdn.no 5 4 h rfl hu), (fun h _ => hdn.no 5 4 (hdn.at_ 9 5 h rfl) rfl hu), (fun h _ => hdn.no 5 4 (hdn.at_ 9 5 (hdn.at_ 13 9 h rfl) rfl) rfl hu), (fun h => hdn.no 5 4 (hdn.at_ 14 5 h rfl) rfl hu), f0, f1, f2, (fun _ => rfl), (fun _ => rfl), f5, f6, f7, f8, f9, f10, f11, f12, f13, f14⟩
      ·rintro L ⟨gh, s⟩ W hu hd hdn ⟨gA, gC, gN, gD, gE, gF, gZ, f0, f1, f2, f3, f4, f5, f6, f7, f8, f9, f10, f11, f12, f13, f14⟩ K Q hK
       try dsimp only at gA gC gN gD gE gF gZ f0 f1 f2 f3 f4 f5 f6 f7 f8 f9 f10 f11 f12 f13 f14 ⊢
       have e2 := f2 (hd.at_ 2 rfl)
       have e4 := f4 (hd.at_ 4 rfl)
       have d2 := hd.at_ 2 rfl
       have d4 := hd.at_ 4 rfl
       have h14 : L 14 = false := by
        cases hc : L 14 with
        | false => rfl
        | true => exact hdn.no 14 5 hc rfl hu
       have hA := gA h14
       have HOC := lh (gC d2 hu)
       have HNB := lh (gN d4 hu)
       have HF := lh (ai gA (ai gC (ai gN (ai gD (ai gE (ai gF (ai gZ (ai f0 (ai f1 (ai f2 (ai f3 (ai f4 (ai f5 (ai f6 (ai f7 (ai f8 (ai f9 (ai f10 (ai f11 (ai f12 (ai f13 f14)))))))))))))))))))))
       clear f14 f13 f12 f11 f10 f9 f8 f7 f6 f5 f4 f3 f2 f1 f0 gZ gF gE gD gN gC gA hd
       try simp only at e2 e4 ⊢
       gi_wp2_with (first | (gi_at_builtin; refine wpListIn_append_any rfl (.tmp 53) (.tmp 55) (by rfl) elem_int e2 HOC.out e4 (one_int HNB.out.lt (HNB.out.cell 0)) (ints_one _) (by unfold maxLen; omega) (by omega) hA.size ?_) | fail)
       rintro A8 c8 W3 hown hgr hA8
       clear hA8
       gi_wp2
       obtain ⟨gA, gC, gN, gD, gE, gF, gZ, f0, f1, f2, f3, f4, f5, f6, f7, f8, f9, f10, f11, f12, f13, f14⟩ := HF.out
       exact hK ({ gh with D := A8, dc := c8 }, (upd (upd (upd s 53 (.slice gh.C no gh.cc)) 55 (.slice (some ⟨gh.N, 0, none⟩) 1 1)) 56 (.slice A8 (no + 1) c8))) _ ⟨(fun _ => hA.grown hgr hA.size (fun j hj => own_row HOC.out hj)), (fun _ h => by cases h), (fun _ h => by cases h), (fun _ _ => by rw [List.map_append]; exact hown), (fun h _ => hdn.no 9 5 h rfl hu), (fun h _ => hdn.no 9 5 (hdn.at_ 13 9 h rfl) rfl hu), (fun h => hdn.no 14 5 h rfl hu), f0, f1, (fun _ => rfl), f3, (fun _ => rfl), (fun _ => rfl), f6, f7, f8, f9, f10, f11, f12, f13, f14⟩
      ·rintro L ⟨gh, s⟩ W hu hd hdn ⟨gA, gC, gN, gD, gE, gF, gZ, f0, f1, f2, f3, f4, f5, f6, f7, f8, f9, f10, f11, f12, f13, f14⟩ K Q hK
       try dsimp only at gA gC gN gD gE gF gZ f0 f1 f2 f3 f4 f5 f6 f7 f8 f9 f10 f11 f12 f13 f14 ⊢
       have HF := lh (ai gA (ai gC (ai gN (ai gD (ai gE (ai gF (ai gZ (ai f0 (ai f1 (ai f2 (ai f3 (ai f4 (ai f5 (ai f6 (ai f7 (ai f8 (ai f9 (ai f10 (ai f11 (ai f12 (ai f13 f14)))))))))))))))))))))
       clear f14 f13 f12 f11 f10 f9 f8 f7 f6 f5 f4 f3 f2 f1 f0 gZ gF gE gD gN gC gA hd
       try simp only
       gi_wp2
       obtain ⟨gA, gC, gN, gD, gE, gF, gZ, f0, f1, f2, f3, f4, f5, f6, f7, f8, f9, f10, f11, f12, f13, f14⟩ := HF.out
       exact hK (gh, (upd s 57 (.int .i64 x))) _ ⟨gA, gC, gN, gD, gE, gF, gZ, f0, f1, f2, f3, f4, f5, (fun _ => rfl), f7, f8, f9, f10, f11, f12, f13, f14⟩
      ·rintro L ⟨gh, s⟩ W hu hd hdn ⟨gA, gC, gN, gD, gE, gF, gZ, f0, f1, f2, f3, f4, f5, f6, f7, f8, f9, f10, f11, f12, f13, f14⟩ K Q hK
       try dsimp only at gA gC gN gD gE gF gZ f0 f1 f2 f3 f4 f5 f6 f7 f8 f9 f10 f11 f12 f13 f14 ⊢
       have h14 : L 14 = false := by
        cases hc : L 14 with
        | false => rfl
        | true => exact hdn.no 14 7 hc rfl hu
       have cB0 : W.cell? ⟨g2, 0, none⟩ = some (.int .i64 (s1 + da)) := (HSB2.out.below (gA h14) HSB2.out.lt).cell 0
       have cB1 : W.cell? ⟨g2, 1, none⟩ = some (.int .i64 (s2 + db)) := (HSB2.out.below (gA h14) HSB2.out.lt).cell 1
       have cBl : g2 < W.heap.size := (HSB2.out.below (gA h14) HSB2.out.lt).lt
       have HF := lh (ai gA (ai gC (ai gN (ai gD (ai gE (ai gF (ai gZ (ai f0 (ai f1 (ai f2 (ai f3 (ai f4 (ai f5 (ai f6 (ai f7 (ai f8 (ai f9 (ai f10 (ai f11 (ai f12 (ai f13 f14)))))))))))))))))))))
       clear f14 f13 f12 f11 f10 f9 f8 f7 f6 f5 f4 f3 f2 f1 f0 gZ gF gE gD gN gC gA hd
       try simp only
       gi_wp2
       obtain ⟨gA, gC, gN, gD, gE, gF, gZ, f0, f1, f2, f3, f4, f5, f6, f7, f8, f9, f10, f11, f12, f13, f14⟩ := HF.out
       exact hK (gh, (upd s 58 (.agg #[.int .i64 (s1 + da), .int .i64 (s2 + db)]))) _ ⟨gA, gC, gN, gD, gE, gF, gZ, f0, f1, f2, f3, f4, f5, f6, (fun _ => rfl), f8, f9, f10, f11, f12, f13, f14⟩
      ·rintro L ⟨gh, s⟩ W hu hd hdn ⟨gA, gC, gN, gD, gE, gF, gZ, f0, f1, f2, f3, f4, f5, f6, f7, f8, f9, f10, f11, f12, f13, f14⟩ K Q hK
       try dsimp only at gA gC gN gD gE gF gZ f0 f1 f2 f3 f4 f5 f6 f7 f8 f9 f10 f11 f12 f13 f14 ⊢
       have HF := lh (ai gA (ai gC (ai gN (ai gD (ai gE (ai gF (ai gZ (ai f0 (ai f1 (ai f2 (ai f3 (ai f4 (ai f5 (ai f6 (ai f7 (ai f8 (ai f9 (ai f10 (ai f11 (ai f12 (ai f13 f14)))))))))))))))))))))
       clear f14 f13 f12 f11 f10 f9 f8 f7 f6 f5 f4 f3 f2 f1 f0 gZ gF gE gD gN gC gA hd
       try simp only
       gi_wp2
       obtain ⟨gA, gC, gN, gD, gE, gF, gZ, f0, f1, f2, f3, f4, f5, f6, f7, f8, f9, f10, f11, f12, f13, f14⟩ := HF.out
       exact hK (gh, (upd s 59 (.slice (some ⟨b, off, none⟩) (k + 1) cl))) _ ⟨gA, gC, gN, gD, gE, gF, gZ, f0, f1, f2, f3, f4, f5, f6, f7, (fun _ => rfl), f9, f10, f11, f12, f13, f14⟩
      ·rintro L ⟨gh, s⟩ W hu hd hdn ⟨gA, gC, gN, gD, gE, gF, gZ, f0, f1, f2, f3, f4, f5, f6, f7, f8, f9, f10, f11, f12, f13, f14⟩ K Q hK
       try dsimp only at gA gC gN gD gE gF gZ f0 f1 f2 f3 f4 f5 f6 f7 f8 f9 f10 f11 f12 f13 f14 ⊢
       have e8 := f8 (hd.at_ 8 rfl)
       have d5 := hd.at_ 5 rfl
       have h14 : L 14 = false := by
        cases hc : L 14 with
        | false => rfl
        | true => exact hdn.no 13 9 (hdn.at_ 14 13 hc rfl) rfl hu
       have hA := gA h14
       have HD5 := lh d5
       have HF := lh (ai gA (ai gC (ai gN (ai gD (ai gE (ai gF (ai gZ (ai f0 (ai f1 (ai f2 (ai f3 (ai f4 (ai f5 (ai f6 (ai f7 (ai f8 (ai f9 (ai f10 (ai f11 (ai f12 (ai f13 f14)))))))))))))))))))))
       clear f14 f13 f12 f11 f10 f9 f8 f7 f6 f5 f4 f3 f2 f1 f0 gZ gF gE gD gN gC gA hd
       try simp only at e8 ⊢
       gi_wp2
       refine ⟨trivial, (callsIn_wide.2 (clone_int (some ⟨b, off, none⟩) (k + 1) cl l W ((HRL2.out.below hA).more hA.size) (by unfold maxLen; omega) (by omega))).mono ?_⟩
       rintro e W3 ⟨A9, c9, rfl, hO, hCn, hb⟩
       clear hCn
       obtain ⟨E, rfl⟩ := own_some hO
       gi_wp2
       obtain ⟨gA, gC, gN, gD, gE, gF, gZ, f0, f1, f2, f3, f4, f5, f6, f7, f8, f9, f10, f11, f12, f13, f14⟩ := HF.out
       have d5 := HD5.out
       exact hK ({ gh with E := E, ec := c9 }, (upd (upd s 59 (.slice (some ⟨b, off, none⟩) (k + 1) cl)) 60 (.slice (some ⟨E, 0, none⟩) (k + 1) c9))) _ ⟨(fun _ => hA.trans (hb.mono hA.size)), (fun _ h => absurd (d5.symm.trans h) (by decide)), (fun _ h => absurd (d5.symm.trans h) (by decide)), (fun h5 h => (gD h5 h).below hb (Nat.le_refl _)), (fun _ _ => ⟨hO.mono hA.size, fun a ha => by have h1 := ((gD d5 h14).lt ha).2; have h2 := (hO.lt rfl).1; dsimp only at h2 ⊢; omega⟩), (fun h _ => hdn.no 13 9 h rfl hu), (fun h => hdn.no 13 9 (hdn.at_ 14 13 h rfl) rfl hu), f0, f1, f2, f3, f4, f5, f6, f7, (fun _ => rfl), (fun _ => rfl), f10, f11, f12, (fun h => hdn.no 13 9 h rfl hu), f14⟩
      ·rintro L ⟨gh, s⟩ W hu hd hdn ⟨gA, gC, gN, gD, gE, gF, gZ, f0, f1, f2, f3, f4, f5, f6, f7, f8, f9, f10, f11, f12, f13, f14⟩ K Q hK
       try dsimp only at gA gC gN gD gE gF gZ f0 f1 f2 f3 f4 f5 f6 f7 f8 f9 f10 f11 f12 f13 f14 ⊢
       have HF := lh (ai gA (ai gC (ai gN (ai gD (ai gE (ai gF (ai gZ (ai f0 (ai f1 (ai f2 (ai f3 (ai f4 (ai f5 (ai f6 (ai f7 (ai f8 (ai f9 (ai f10 (ai f11 (ai f12 (ai f13 f14)))))))))))))))))))))
       clear f14 f13 f12 f11 f10 f9 f8 f7 f6 f5 f4 f3 f2 f1 f0 gZ gF gE gD gN gC gA hd
       try simp only
       gi_wp2
       obtain ⟨gA, gC, gN, gD, gE, gF, gZ, f0, f1, f2, f3, f4, f5, f6, f7, f8, f9, f10, f11, f12, f13, f14⟩ := HF.out
       exact hK (gh, (upd s 61 (.int .i64 i))) _ ⟨gA, gC, gN, gD, gE, gF, gZ, f0, f1, f2, f3, f4, f5, f6, f7, f8, f9, (fun _ => rfl), f11, f12, f13, f14⟩
      ·rintro L ⟨gh, s⟩ W hu hd hdn ⟨gA, gC, gN, gD, gE, gF, gZ, f0, f1, f2, f3, f4, f5, f6, f7, f8, f9, f10, f11, f12, f13, f14⟩ K Q hK
       try dsimp only at gA gC gN gD gE gF gZ f0 f1 f2 f3 f4 f5 f6 f7 f8 f9 f10 f11 f12 f13 f14 ⊢
       have HF := lh (ai gA (ai gC (ai gN (ai gD (ai gE (ai gF (ai gZ (ai f0 (ai f1 (ai f2 (ai f3 (ai f4 (ai f5 (ai f6 (ai f7 (ai f8 (ai f9 (ai f10 (ai f11 (ai f12 (ai f13 f14)))))))))))))))))))))
       clear f14 f13 f12 f11 f10 f9 f8 f7 f6 f5 f4 f3 f2 f1 f0 gZ gF gE gD gN gC gA hd
       try simp only
       gi_wp2
       obtain ⟨gA, gC, gN, gD, gE, gF, gZ, f0, f1, f2, f3, f4, f5, f6, f7, f8, f9, f10, f11, f12, f13, f14⟩ := HF.out
       exact hK (gh, (upd s 62 (.int .i64 i))) _ ⟨gA, gC, gN, gD, gE, gF, gZ, f0, f1, f2, f3, f4, f5, f6, f7, f8, f9, f10, (fun _ => rfl), f12, f13, f14⟩
      ·rintro L ⟨gh, s⟩ W hu hd hdn ⟨gA, gC, gN, gD, gE, gF, gZ, f0, f1, f2, f3, f4, f5, f6, f7, f8, f9, f10, f11, f12, f13, f14⟩ K Q hK
       try dsimp only at gA gC gN gD gE gF gZ f0 f1 f2 f3 f4 f5 f6 f7 f8 f9 f10 f11 f12 f13 f14 ⊢
       have e11 := f11 (hd.at_ 11 rfl)
       have HF := lh (ai gA (ai gC (ai gN (ai gD (ai gE (ai gF (ai gZ (ai f0 (ai f1 (ai f2 (ai f3 (ai f4 (ai f5 (ai f6 (ai f7 (ai f8 (ai f9 (ai f10 (ai f11 (ai f12 (ai f13 f14)))))))))))))))))))))
       clear f14 f13 f12 f11 f10 f9 f8 f7 f6 f5 f4 f3 f2 f1 f0 gZ gF gE gD gN gC gA hd
       try simp only at e11 ⊢
       gi_wp2
       obtain ⟨gA, gC, gN, gD, gE, gF, gZ, f0, f1, f2, f3, f4, f5, f6, f7, f8, f9, f10, f11, f12, f13, f14⟩ := HF.out
       exact hK (gh, (upd (upd s 62 (.int .i64 i)) 63 (.int .i64 ((i : Int) + 1)))) _ ⟨gA, gC, gN, gD, gE, gF, gZ, f0, f1, f2, f3, f4, f5, f6, f7, f8, f9, f10, (fun _ => rfl), (fun _ => rfl), f13, f14⟩
      ·rintro L ⟨gh, s⟩ W hu hd hdn ⟨gA, gC, gN, gD, gE, gF, gZ, f0, f1, f2, f3, f4, f5, f6, f7, f8, f9, f10, f11, f12, f13, f14⟩ K Q hK
       try dsimp only at gA gC gN gD gE gF gZ f0 f1 f2 f3 f4 f5 f6 f7 f8 f9 f10 f11 f12 f13 f14 ⊢
       have e9 := f9 (hd.at_ 9 rfl)
       have e10 := f10 (hd.at_ 10 rfl)
       have e12 := f12 (hd.at_ 12 rfl)
       have d9 := hd.at_ 9 rfl
       have h14 : L 14 = false := by
        cases hc : L 14 with
        | false => rfl
        | true => exact hdn.no 14 13 hc rfl hu
       have hA := gA h14
       have HE9 := lh (gE d9 hu)
       have HD5 := lh (hdn.at_ 9 5 d9 rfl)
       have HF := lh (ai gA (ai gC (ai gN (ai gD (ai gE (ai gF (ai gZ (ai f0 (ai f1 (ai f2 (ai f3 (ai f4 (ai f5 (ai f6 (ai f7 (ai f8 (ai f9 (ai f10 (ai f11 (ai f12 (ai f13 f14)))))))))))))))))))))
       clear f14 f13 f12 f11 f10 f9 f8 f7 f6 f5 f4 f3 f2 f1 f0 gZ gF gE gD gN gC gA hd
       try simp only at e9 e10 e12 ⊢
       gi_wp2
       refine ⟨trivial, (callsIn_wide.2 (delete_one W2.heap.size gh.E (k + 1) gh.ec i l W HE9.out.1 hlt)).mono ?_⟩
       rintro e W3 ⟨rfl, hO, hgr⟩
       gi_wp2
       obtain ⟨gA, gC, gN, gD, gE, gF, gZ, f0, f1, f2, f3, f4, f5, f6, f7, f8, f9, f10, f11, f12, f13, f14⟩ := HF.out
       have d5 := HD5.out
       exact hK (gh, (upd (upd (upd (upd s 60 (.slice (some ⟨gh.E, 0, none⟩) (k + 1) gh.ec)) 61 (.int .i64 i)) 63 (.int .i64 ((i : Int) + 1))) 64 (.slice (some ⟨gh.E, 0, none⟩) k gh.ec))) _ ⟨(fun _ => hA.grown hgr hA.size (fun j hj => by cases hj; exact (HE9.out.1.lt rfl).1)), (fun _ h => absurd (d5.symm.trans h) (by decide)), (fun _ h => absurd (d5.symm.trans h) (by decide)), (fun h5 h => (gD h5 h).grown hgr (fun a ha e => HE9.out.2 a ha (Option.some.inj e))), (fun _ h => by cases h), (fun _ _ => hO), (fun h => hdn.no 14 13 h rfl hu), f0, f1, f2, f3, f4, f5, f6, f7, f8, (fun _ => rfl), (fun _ => rfl), f11, (fun _ => rfl), (fun _ => rfl), f14⟩
      ·rintro L ⟨gh, s⟩ W hu hd hdn ⟨gA, gC, gN, gD, gE, gF, gZ, f0, f1, f2, f3, f4, f5, f6, f7, f8, f9, f10, f11, f12, f13, f14⟩ K Q hK
       try dsimp only at gA gC gN gD gE gF gZ f0 f1 f2 f3 f4 f5 f6 f7 f8 f9 f10 f11 f12 f13 f14 ⊢
       have e0 := f0 (hd.at_ 0 rfl)
       have e5 := f5 (hd.at_ 5 rfl)
       have e6 := f6 (hd.at_ 6 rfl)
       have e7 := f7 (hd.at_ 7 rfl)
       have e13 := f13 (hd.at_ 13 rfl)
       have d13 := hd.at_ 13 rfl
       have d5 := hd.at_ 5 rfl
       have hA := gA hu
       have HOD := lh (gD d5 hu)
       have HOF := lh (gF d13 hu)
       have HD5 := lh d5
       have HD13 := lh d13
       have HF := lh (ai gA (ai gC (ai gN (ai gD (ai gE (ai gF (ai gZ (ai f0 (ai f1 (ai f2 (ai f3 (ai f4 (ai f5 (ai f6 (ai f7 (ai f8 (ai f9 (ai f10 (ai f11 (ai f12 (ai f13 f14)))))))))))))))))))))
       clear f14 f13 f12 f11 f10 f9 f8 f7 f6 f5 f4 f3 f2 f1 f0 gZ gF gE gD gN gC gA hd
       try simp only at e0 e5 e6 e7 e13 ⊢
       gi_wp2
       refine ⟨trivial, (callsIn_wide.2 (callsIn_wide.1 (HIH.out gh.D (no + 1) gh.dc (o ++ [x]) x (s1 + da) (s2 + db) (some ⟨gh.E, 0, none⟩) gh.ec (l.eraseIdx i) (pre ++ xs) W (HBX2.out.kp hpl (KpR.of_below hA)) (HJ.out _ _ _ HJ2.out hA) (ints_of_own HOD.out (Nat.le_refl _)) (fun a ha => Nat.le_trans hN2 (HOD.out.lt ha).1) (by omega) (ints_of_own HOF.out (Nat.le_refl _)) (fun a ha => Nat.le_trans hN2 (HOF.out.lt ha).1) (Nat.le_trans hN2 hA.size) HXD.out (fun v hv => HLD.out v (List.mem_of_mem_eraseIdx hv)) (HND.out.sublist (List.eraseIdx_sublist _ _)) hs1d hs2d))).mono ?_⟩
       rintro e W3 ⟨rfl, ys, hys, hJ3, hk3⟩
       rw [erase_at HND.out HX.out] at hys
       gi_wp2
       obtain ⟨gA, gC, gN, gD, gE, gF, gZ, f0, f1, f2, f3, f4, f5, f6, f7, f8, f9, f10, f11, f12, f13, f14⟩ := HF.out
       have d5 := HD5.out
       exact hK (gh, (upd (upd (upd (upd (upd (upd s 51 (.func (.func 78) #[] #[.pointer (some ⟨gl, 0, none⟩), .pointer (some ⟨gb, 0, none⟩), .pointer (some ⟨gy, 0, none⟩), .pointer (some ⟨gt, 0, none⟩)])) 56 (.slice gh.D (no + 1) gh.dc)) 57 (.int .i64 x)) 58 (.agg #[.int .i64 (s1 + da), .int .i64 (s2 + db)])) 64 (.slice (some ⟨gh.E, 0, none⟩) k gh.ec)) 65 (.tuple #[]))) _ ⟨(fun h => by cases h), (fun _ h => absurd (d5.symm.trans h) (by decide)), (fun _ h => absurd (d5.symm.trans h) (by decide)), (fun _ h => by cases h), (fun _ h => absurd (HD13.out.symm.trans h) (by decide)), (fun _ h => by cases h), (fun _ => ⟨ys, hys, hJ3, (KpR.of_below hA).trans hk3⟩), (fun _ => rfl), f1, f2, f3, f4, (fun _ => rfl), (fun _ => rfl), (fun _ => rfl), f8, f9, f10, f11, f12, (fun _ => rfl), (fun _ => rfl)⟩
     ·rintro L ⟨gh, s⟩ W hall ⟨gA, gC, gN, gD, gE, gF, gZ, f0, f1, f2, f3, f4, f5, f6, f7, f8, f9, f10, f11, f12, f13, f14⟩
      have GZ := gZ (hall 14 (by decide))
      clear hall gA gC gN gD gE gF gZ f0 f1 f2 f3 f4 f5 f6 f7 f8 f9 f10 f11 f12 f13 f14
      obtain ⟨ys, hys, hJ3, hk3⟩ := GZ
      have HYS := lh hys
      have HJ3 := lh hJ3
      have HK3 := lh hk3
      clear hys hJ3 hk3
      gi_wp2
      refine ⟨?_, ?measure⟩
      repeat apply Exists.intro
      refine ⟨?rel, rfl⟩
      case rel =>
       refine ⟨i + 1, xs ++ ys, by go_num, by omega, lh ⟨?_, by rw [← List.append_assoc]; exact HJ3.out, HS.out.2.2.1.trans ((KpR.of_below HB2.out).trans HK3.out), HK3.out.blk (.inr (by omega)) (HS.out.2.2.2.below HB2.out HS.out.2.2.2.lt)⟩⟩
       rw [HTS.out _ HT0.out, List.map_append, HYS.out]
       rfl
      case measure => simp [intOf]; omega
   ·obtain rfl : i = k + 1 := by omega
    gi_wp2
    go_end0
    refine ⟨rfl, xs, ?_, HS.out.2.1, HS.out.2.2.1⟩
    have h := HS.out.1
    rw [List.take_of_length_le (by rw [HLN.out]; exact Nat.le_refl _)] at h
    rw [h]
    rfl
end
namespace Gr
open Go.RowKit
set_option linter.unusedSectionVars false
class Grows (G : World → World → Prop) : Prop where
 refl : ∀ W, G W W
 trans : ∀ {A B C : World}, G A B → G B C → G A C
 below : ∀ {A B : World}, Below A.heap.size A B → G A B
 size : ∀ {A B : World}, G A B → A.heap.size ≤ B.heap.size
def Good (G : World → World → Prop) (V : World) (C : World → Prop) : Prop := (∃ W, C W) ∧ (∀ W, C W → G V W) ∧ ∀ W W', C W → Below W.heap.size W W' → C W'
section
variable {G : World → World → Prop} [Grows G]
theorem Good.above (V : World) : Good G V fun W => G V W := ⟨⟨V, Grows.refl _⟩, fun _ h => h, fun _ _ h k => Grows.trans h (Grows.below k)⟩
theorem Good.up {V V' : World} {C : World → Prop} (h : Good G V' C) (hb : G V V') : Good G V C := ⟨h.1, fun W hW => Grows.trans hb (h.2.1 W hW), h.2.2⟩
variable {F : Fence} {n : Nat} {P : Program} {l : List Oper}
def Quietly (G : World → World → Prop) (F : Fence) (n : Nat) (P : Program) (l : List Oper) (V : World) (qs : List Oper) (a A : Act) : Prop :=
 ∀ (σ : Type) (_ : Nonempty σ) (of : σ → World), (∀ z, G V (of z)) → (∀ z W', Below (of z).heap.size (of z) W' → Cls of W') → wpQuietIn F n P l.toArray (Cls of) (fun a2 => a2 = A) qs a
theorem Quietly.cls {V : World} {qs : List Oper} {a A : Act} (hq : Quietly G F n P l V qs a A) {C : World → Prop} (hC : Good G V C) : wpQuietIn F n P l.toArray C (fun a2 => a2 = A) qs a := by
 obtain ⟨⟨W0, h0⟩, h1, h2⟩ := hC
 have e : C = Cls (fun z : { W : World // C W } => z.1) := by
  funext W
  exact propext ⟨fun h => ⟨⟨W, h⟩, rfl⟩, fun ⟨z, hz⟩ => by rw [hz]; exact z.2⟩
 rw [e]
 exact hq _ ⟨⟨W0, h0⟩⟩ _ (fun z => h1 _ z.2) (fun z W' hb => ⟨⟨W', h2 _ _ z.2 hb⟩, rfl⟩)
theorem Quietly.none {V : World} {a : Act} : Quietly G F n P l V (pickB l []) a a := fun _ _ _ _ _ => by cases l <;> exact rfl
def wpFlow (G : World → World → Prop) (F : Fence) (n : Nat) (P : Program) (l : List Oper) (tail : List (Nat × Nat) → World → Act → Prop) : List (List Bool × Nat) → List Bool → List (Nat × Nat) → World → Act → Prop
 | [], fin, I, V, a => ∃ A, Quietly G F n P l V (pickB l fin) a A ∧ tail I V A
 | (m, x) :: r, fin, I, V, a => ∃ A, Quietly G F n P l V (pickB l m) a A ∧ ∃ o, l[x]? = some o ∧ ∀ W, Below V.heap.size V W →
   wpListIn F n P l.toArray (Exit.then (fun a' W' => a'.defers = A.defers ∧ G W W' ∧ wpFlow G F n P l tail r fin ((W.heap.size, W'.heap.size) :: I) W' a') (fun _ _ _ => False)) [o] A W
theorem wpFlow_nil {tail : List (Nat × Nat) → World → Act → Prop} {fin : List Bool} {I : List (Nat × Nat)} {V : World} {a A : Act} (hq : Quietly G F n P l V (pickB l fin) a A) (h : tail I V A) : wpFlow G F n P l tail [] fin I V a := ⟨A, hq, h⟩
theorem wpFlow_cons {tail : List (Nat × Nat) → World → Act → Prop} {m : List Bool} {x : Nat} {r : List (List Bool × Nat)} {fin : List Bool} {I : List (Nat × Nat)} {V : World} {a A : Act} {o : Oper} (ho : l[x]? = some o) (hq : Quietly G F n P l V (pickB l m) a A)
  (h : ∀ W, Below V.heap.size V W → wpListIn F n P l.toArray (Exit.then (fun a' W' => a'.defers = A.defers ∧ G W W' ∧ wpFlow G F n P l tail r fin ((W.heap.size, W'.heap.size) :: I) W' a') (fun _ _ _ => False)) [o] A W) : wpFlow G F n P l tail ((m, x) :: r) fin I V a := ⟨A, hq, o, ho, h⟩
def NextF (G : World → World → Prop) (F : Fence) (n : Nat) (P : Program) (l : List Oper) (tail : List (Nat × Nat) → World → Act → Prop) (ws : List Nat) (fin : List Bool) (later : List Nat) (I : List (Nat × Nat)) (V : World) (A : Act) : Prop :=
 (later = [] ∧ tail I V A) ∨ ∃ x r o, later = x :: xsOf r fin ∧ x ∈ ws ∧ (∀ p ∈ r, p.2 ∈ ws ∧ p.1.length ≤ l.length) ∧ l[x]? = some o ∧ ∀ W, Below V.heap.size V W →
   wpListIn F n P l.toArray (Exit.then (fun a' W' => a'.defers = A.defers ∧ G W W' ∧ wpFlow G F n P l tail r fin ((W.heap.size, W'.heap.size) :: I) W' a') (fun _ _ _ => False)) [o] A W
def AvF (G : World → World → Prop) (F : Fence) (n : Nat) (P : Program) (l : List Oper) (xs : List Nat) (a0 : Act) (ys : List Nat) (V : World) (A : Act) (i : Nat) : Prop :=
 ∀ o, l[i]? = some o → ∃ pre post, xs = pre ++ i :: post ∧ (∀ k ∈ pre, k ∈ ys) ∧ ∀ C, Good G V C → ∃ LF, Mixed l (· ∈ pre) A a0 LF ∧ YieldsQuiet F n P l.toArray C o (valOf l A i) LF
section
variable {xs ws es : List Nat} {j : Nat} {a0 : Act} {tail : List (Nat × Nat) → World → Act → Prop} {fin : List Bool}
theorem enter_core (ok : FlowOk l xs ws es j) (hs : slotsM l a0.tmps.size = true) {ys qs rest : List Nat} {V : World} {A1 A : Act} (hx : xs = ys ++ (qs ++ rest)) (hA1 : Mixed l (· ∈ ys) A1 a0 A1) (hq : Quietly G F n P l V (pick l qs) A1 A) :
  Mixed l (· ∈ ys ++ qs) A a0 A ∧ (∀ i ∈ ys, ∀ t, dstAt l i = some t → A1.tmps.getD t undef = A.tmps.getD t undef) ∧ ∀ i ∈ qs, AvF G F n P l xs a0 (ys ++ qs) V A i := by
 have hslot : ∀ i, i < l.length → ∀ d, dstAt l i = some d → d < a0.tmps.size := fun i hi d hd => by
  have := List.all_eq_true.1 hs i (List.mem_range.2 hi)
  rw [hd] at this
  simpa using this
 have hnd := ok.nodup
 rw [hx, List.nodup_append] at hnd
 obtain ⟨_, hnd2, hdis⟩ := hnd
 have hqx : ∀ i ∈ qs, i ∈ xs := fun i hi => by rw [hx]; simp [hi]
 have hyx : ∀ i ∈ ys, i ∈ xs := fun i hi => by rw [hx]; simp [hi]
 have hcond : ∀ i ∈ qs, i < l.length ∧ ∃ d, dstAt l i = some d ∧ d < A1.tmps.size ∧ ∀ i' ∈ qs, dstAt l i' = some d → i' = i := fun i hi => by
  obtain ⟨h1, h2, h3⟩ := ok.x i (hqx i hi)
  obtain ⟨d, h4, h5⟩ := ok.own i h1 h3
  exact ⟨h1, d, h4, by rw [hA1.size]; exact hslot i h1 d h4, fun i' hi' hd' => h5 i' (ok.x i' (hqx i' hi')).1 hd'⟩
 have hnq : qs.Nodup := (List.nodup_append.1 hnd2).1
 have S := fun (C : World → Prop) (hC : Good G V C) => quiet_seq (F := F) (n := n) (P := P) (l := l) (C := C) (A := A) qs A1 hcond hnq (hq.cls hC)
 obtain ⟨M, _⟩ := S _ (Good.above V)
 have same : ∀ i ∈ ys, ∀ t, dstAt l i = some t → A1.tmps.getD t undef = A.tmps.getD t undef := fun i hi t ht => by
  refine (M.out t fun i' hi' hd' => ?_).symm
  obtain ⟨h1, h2, h3⟩ := ok.x i (hyx i hi)
  obtain ⟨d, h4, h5⟩ := ok.own i h1 h3
  rw [ht] at h4
  cases h4
  have := h5 i' (ok.x i' (hqx i' hi')).1 hd'
  subst this
  exact hdis i' hi i' (by simp [hi']) rfl
 have B := hA1.change same
 refine ⟨(M.trans B).congr (fun i => by simp [or_comm]), same, fun i hi o ho => ?_⟩
 obtain ⟨pre, post, e⟩ := List.append_of_mem hi
 refine ⟨ys ++ pre, post ++ rest, by rw [hx, e]; simp, fun k hk => ?_, fun C hC => ?_⟩
 ·rw [e]
  rcases List.mem_append.1 hk with h | h <;> simp [h]
 ·obtain ⟨LF, h1, h2⟩ := (S C hC).2 pre i post e o ho
  exact ⟨LF, (h1.trans B).congr (fun k => by simp [or_comm]), h2⟩
theorem flow_enter (ok : FlowOk l xs ws es j) (hs : slotsM l a0.tmps.size = true) (hfin : fin.length ≤ l.length) (r : List (List Bool × Nat)) (hr : ∀ p ∈ r, p.2 ∈ ws ∧ p.1.length ≤ l.length) {ys : List Nat} {I : List (Nat × Nat)} {V : World} {A1 : Act} (h : wpFlow G F n P l tail r fin I V A1) (hx : xs = ys ++ xsOf r fin) (hA1 : Mixed l (· ∈ ys) A1 a0 A1) :
  ∃ qs later A, xs = (ys ++ qs) ++ later ∧ Mixed l (· ∈ ys ++ qs) A a0 A ∧ (∀ i ∈ ys, ∀ t, dstAt l i = some t → A1.tmps.getD t undef = A.tmps.getD t undef) ∧ (∀ i ∈ qs, AvF G F n P l xs a0 (ys ++ qs) V A i) ∧ NextF G F n P l tail ws fin later I V A := by
 cases r with
 | nil =>
  obtain ⟨A, hq, ht⟩ := h
  rw [pickB_all l fin hfin] at hq
  obtain ⟨h1, h2, h3⟩ := enter_core ok hs (rest := []) (by rw [hx]; simp [xsOf]) hA1 hq
  exact ⟨idxs 0 fin, [], A, by rw [hx]; simp [xsOf], h1, h2, h3, .inl ⟨rfl, ht⟩⟩
 | cons p r =>
  obtain ⟨m, x⟩ := p
  obtain ⟨A, hq, o, ho, hw⟩ := h
  obtain ⟨hxw, hm⟩ := hr (m, x) (by simp)
  rw [pickB_all l m hm] at hq
  obtain ⟨h1, h2, h3⟩ := enter_core ok hs (rest := x :: xsOf r fin) (by rw [hx]; simp [xsOf]) hA1 hq
  exact ⟨idxs 0 m, x :: xsOf r fin, A, by rw [hx]; simp [xsOf], h1, h2, h3, .inr ⟨x, r, o, rfl, hxw, fun p hp => hr p (by simp [hp]), ho, hw⟩⟩
end
def tailF (G : World → World → Prop) (F : Fence) (n : Nat) (P : Program) (l : List Oper) (es : List Bool) (j : Nat) (dj : Tmp) (fv : Nat → Value) (ty : TypeId) (cs : Array Value) (V0 : World) (Qn : Act → World → Prop) : List (Nat × Nat) → World → Act → Prop := fun I V A =>
 ∀ b W, Below V.heap.size V W → (j < l.length → V0.heap.size ≤ b ∧ Blk W b ty cs ∧ ∀ p ∈ I, b < p.1 ∨ p.2 ≤ b) → wpT F n P l.toArray Qn (pickB l es) (if j < l.length then A.put (some dj) (fv b) else A) W
theorem wpIn_region_flow {Q : Exit → Act → World → Prop} {id : Nat} {a0 : Act} {w V0 : World} (stages : List (List Bool × Nat)) (fin em : List Bool) (j : Nat) (dj : Tmp) (fv : Nat → Value) (ty : TypeId) (cs : Array Value)
  (hnj : l.length ≤ j) (hm : P.follows .mixedOrders = true) (hB : (flowB l (xsOf stages fin) (stages.map (·.2)) (idxs 0 em) j && stages.all (fun p => decide (p.1.length ≤ l.length)) && decide (fin.length ≤ l.length) && decide (em.length ≤ l.length)) = true)
  (hs : slotsM l a0.tmps.size = true) (hV : Below V0.heap.size V0 w.drew)
  (hj : j < l.length → ∃ oj, l[j]? = some oj ∧ oj.dst = some dj ∧ oj.guard = none ∧ (∀ ρ W, oj.about P W ρ = none) ∧ ∀ ρ W, (execOp ρ oj).run P W = .ok (.value (fv W.heap.size)) (W.alloc (.cells cs ty)))
  (h : wpFlow G F n P l (tailF G F n P l em j dj fv ty cs V0 (Q .normal)) stages fin [] V0 a0) : (Code.region id l.toArray true).wpIn F n P Q a0 w := by
 simp only [Bool.and_eq_true, decide_eq_true_eq] at hB
 obtain ⟨⟨⟨hB, hst⟩, hfin⟩, hem⟩ := hB
 have ok := flowOk hB
 obtain ⟨xs, hxs⟩ : ∃ xs, xsOf stages fin = xs := ⟨_, rfl⟩
 obtain ⟨ws, hws⟩ : ∃ ws, stages.map (·.2) = ws := ⟨_, rfl⟩
 obtain ⟨es, hes⟩ : ∃ es, idxs 0 em = es := ⟨_, rfl⟩
 rw [hxs, hws, hes] at ok
 have hpe : pickB l em = pick l es := by rw [← hes]; exact pickB_all l em hem
 have hr0 : ∀ p ∈ stages, p.2 ∈ ws ∧ p.1.length ≤ l.length := fun p hp => ⟨by rw [← hws]; exact List.mem_map.2 ⟨p, hp, rfl⟩, by simpa using List.all_eq_true.1 hst p hp⟩
 have hnd : noDefer l.toArray := noDefer_of ok.nodef
 have hslot : ∀ i, i < l.length → ∀ d, dstAt l i = some d → d < a0.tmps.size := fun i hi d hd => by
  have := List.all_eq_true.1 hs i (List.mem_range.2 hi)
  rw [hd] at this
  simpa using this
 have hje : j < l.length → j ∉ es := fun hlt he => (ok.e j he).2 rfl
 have hdj : j < l.length → dstAt l j = some dj := fun hlt => by
  obtain ⟨oj, h1, h2, _⟩ := hj hlt
  unfold dstAt; rw [h1]; exact h2
 have hjd : j < l.length → ∀ i, i < l.length → dstAt l i = some dj → i = j := fun hlt i hi hd => by
  obtain ⟨d, h1, h2⟩ := ok.own j hlt (hje hlt)
  rw [hdj hlt] at h1
  cases h1
  exact h2 i hi hd
 let tail := tailF G F n P l em j dj fv ty cs V0 (Q .normal)
 let cls : List (Nat × Nat) → World → Option Nat → World → Prop := fun I V ob W => Below V.heap.size V W ∧ ob = none
 have growC : ∀ {I V ob W W'}, cls I V ob W → Below W.heap.size W W' → cls I V ob W' := fun hc hb => ⟨hc.1.trans (hb.mono hc.1.size), hc.2⟩
 let wJ : Option Nat → Act → Act := fun ob a => match ob with
  | some b => a.put (some dj) (fv b)
  | none => a
 have wJs : ∀ ob a, (wJ ob a).tmps.size = a.tmps.size := fun ob a => by cases ob <;> simp [wJ, Act.put]
 have wJd : ∀ ob a, (wJ ob a).defers = a.defers := fun ob a => by cases ob <;> simp [wJ, Act.put]
 have wJo : ∀ ob a t, (ob.isSome = true → dj ≠ t) → (wJ ob a).tmps.getD t undef = a.tmps.getD t undef := fun ob a t ht => by
  cases ob with
  | none => rfl
  | some b => exact getD_set_other a.tmps (fv b) (ht rfl)
 have wJp : ∀ ob a d v, (ob.isSome = true → d ≠ dj) → (wJ ob a).put (some d) v = wJ ob (a.put (some d) v) := fun ob a d v hd => by
  cases ob with
  | none => rfl
  | some b => exact Act.put_comm a (x := some dj) (y := some d) (fv b) v (fun d' e => by cases e; intro e'; exact hd rfl (Option.some.inj e'))
 let StA : Array Bool → Act → World → Prop := fun listed a W => listed.size = l.length ∧ (∀ e ∈ es, listed.getD e false = false) ∧ ∃ (ys later : List Nat) (A : Act) (V : World) (I : List (Nat × Nat)) (ob : Option Nat) (a1 : Act), xs = ys ++ later ∧ (∀ i ∈ later, listed.getD i false = false) ∧ Mixed l (· ∈ ys) A a0 A ∧
  Mixed l (fun i => i ∈ xs ∧ listed.getD i false = true) A a0 a1 ∧ a = wJ ob a1 ∧ (∀ i ∈ ys, listed.getD i false = false → AvF G F n P l xs a0 ys V A i) ∧ (j < l.length → listed.getD j false = ob.isSome) ∧ (l.length ≤ j → ob = none) ∧ cls I V ob W ∧ (∀ p ∈ I, p.2 ≤ V.heap.size) ∧ V0.heap.size ≤ V.heap.size ∧ NextF G F n P l tail ws fin later I V A
 let Miss : Array Bool → Tmp → Prop := fun listed t => ∃ i ∈ xs, listed.getD i false = false ∧ dstAt l i = some t
 let StB : Array Bool → Act → World → Prop := fun listed a W => listed.size = l.length ∧ ∃ (A Ac : Act) (m : Nat), m ≤ es.length ∧ (∀ e ∈ es.take m, listed.getD e false = true) ∧ (∀ e ∈ es.drop m, listed.getD e false = false) ∧ (j < l.length → listed.getD j false = true) ∧ Rel (Miss listed) a Ac ∧ Ac.tmps.size = a0.tmps.size ∧
  (∀ i ∈ xs, ∀ t, dstAt l i = some t → Ac.tmps.getD t undef = A.tmps.getD t undef) ∧ (∀ t, (∀ i, i < l.length → dstAt l i ≠ some t) → Ac.tmps.getD t undef = a0.tmps.getD t undef) ∧
  (∀ i ∈ xs, listed.getD i false = false → ∀ o, l[i]? = some o → ∃ pre post LF, xs = pre ++ i :: post ∧ Mixed l (· ∈ pre) A a0 LF ∧ YieldsAll F P l.toArray o (valOf l A i) LF) ∧ wpT F n P l.toArray (Q .normal) (pick l (es.drop m)) Ac W
 have setD : ∀ (listed : Array Bool) (i i' : Nat), listed.size = l.length → i < l.length → (listed.setIfInBounds i true).getD i' false = done (fun i => listed.getD i false) i i' := fun listed i i' hsz hi => by
  unfold done
  by_cases e : i' = i
  ·subst e
   rw [if_pos rfl, Array.getD_eq_getD_getElem?, Array.getElem?_setIfInBounds]
   have : i' < listed.size := by omega
   simp [this]
  ·rw [if_neg e, getD_set_ne false (Ne.symm e)]
 have mixS : ∀ (listed : Array Bool) (i : Nat), listed.size = l.length → i < l.length → i ∈ xs → ∀ k, ((k ∈ xs ∧ listed.getD k false = true) ∨ k = i) ↔ (k ∈ xs ∧ (listed.setIfInBounds i true).getD k false = true) := fun listed i hsz hi hix k => by
  rw [setD listed i k hsz hi]
  unfold done
  by_cases e : k = i
  ·subst e; simp [hix]
  ·simp [e]
 have obJ : ∀ {ob : Option Nat}, (l.length ≤ j → ob = none) → ob.isSome = true → j < l.length := fun h h' => by
  rcases Nat.lt_or_ge j l.length with h1 | h1
  ·exact h1
  ·rw [h h1] at h'; cases h'
 -- what an operation reads
 have agreeA : ∀ {listed : Array Bool} {A LF a1 : Act} {ob : Option Nat} {pre post : List Nat} {i : Nat} {o : Oper}, l[i]? = some o → xs = pre ++ i :: post → (∀ i', afterB l i i' = true → listed.getD i' false = true) → (l.length ≤ j → ob = none) →
   Mixed l (· ∈ pre) A a0 LF → Mixed l (fun i => i ∈ xs ∧ listed.getD i false = true) A a0 a1 → ∀ t ∈ o.looksAt l.toArray, LF.tmps.getD t undef = (wJ ob a1).tmps.getD t undef := by
  intro listed A LF a1 ob pre post i o hol hx hwait hob hLF hM t ht
  by_cases hex : ∃ i', i' < l.length ∧ dstAt l i' = some t
  ·obtain ⟨i', hi', hd⟩ := hex
   obtain ⟨h1, h2⟩ := ok.deps pre i post hx o hol t ht i' hi' hd
   have hix : i' ∈ xs := by rw [hx]; simp [h2]
   rw [wJo ob a1 t (fun hsm e => by
    have hlt := obJ hob hsm
    subst e
    exact (ok.x i' hix).2.1 (hjd hlt i' hi' hd)), hLF.in_ i' h2 t hd, hM.in_ i' ⟨hix, hwait i' h1⟩ t hd]
  ·have hno : ∀ i', i' < l.length → dstAt l i' ≠ some t := fun i' hi' hd => hex ⟨i', hi', hd⟩
   rw [wJo ob a1 t (fun hsm e => by
    have hlt := obJ hob hsm
    subst e
    exact hno j hlt (hdj hlt)), hLF.out t (fun i' hi' => hno i' (ok.x i' (by rw [hx]; simp [hi'])).1), hM.out t (fun i' hi' => hno i' (ok.x i' hi'.1).1)]
 have toB : ∀ listed a W, StA listed a W → (j < l.length → listed.getD j false = true) → (∀ i ∈ xs, listed.getD i false = false → ∀ o, l[i]? = some o → lateB o = true ∧ i ∉ ws) → StB listed a W := by
  rintro listed a W ⟨hsz, hesl, ys, later, A, V, I, ob, a1, hx, hlater, hA, hM, rfl, hav, h1, h2, hc, hI, hVV, hnext⟩ hjl hfl
  have hlt : later = [] ∧ tail I V A := by
   rcases hnext with h | ⟨x, r, o, e, hxw, _, ho, _⟩
   ·exact h
   ·exact absurd hxw (hfl x (by rw [hx, e]; simp) (hlater x (by rw [e]; simp)) o ho).2
  obtain ⟨rfl, ht⟩ := hlt
  rw [List.append_nil] at hx
  have hyx : ∀ i, i ∈ ys ↔ i ∈ xs := fun i => by rw [hx]
  have hfacts : ∃ b, (j < l.length → ob = some b) ∧ (j < l.length → V0.heap.size ≤ b ∧ Blk W b ty cs ∧ ∀ p ∈ I, b < p.1 ∨ p.2 ≤ b) := by
   by_cases h : j < l.length
   ·exact absurd h (by omega)
   ·exact ⟨0, fun h' => absurd h' h, fun h' => absurd h' h⟩
  obtain ⟨b, hob, hblk⟩ := hfacts
  have hw := ht b W hc.1 hblk
  have hAc : (if j < l.length then A.put (some dj) (fv b) else A) = wJ ob A := by
   by_cases h : j < l.length
   ·rw [if_pos h, hob h]
   ·rw [if_neg h, h2 (by omega)]
  rw [hAc, hpe] at hw
  refine ⟨hsz, A, _, 0, Nat.zero_le _, (fun e he => by simp at he), (fun e he => hesl e (by simpa using he)), hjl, ⟨?_, ?_, fun t ht' => ?_⟩, ?_, fun i hi t hd => ?_, fun t hno => ?_, fun i hi hf o ho => ?_, by simpa using hw⟩
  ·rw [wJd, wJd, hM.defers, hA.defers]
  ·rw [wJs, wJs, hM.size, hA.size]
  ·by_cases e : ob.isSome = true ∧ dj = t
   ·obtain ⟨e1, rfl⟩ := e
    obtain ⟨b', rfl⟩ := Option.isSome_iff_exists.1 e1
    have hlt := obJ h2 e1
    show (a1.tmps.setIfInBounds dj (fv b')).getD dj undef = (A.tmps.setIfInBounds dj (fv b')).getD dj undef
    rw [getD_set_same _ _ _ (by rw [hM.size]; exact hslot j hlt dj (hdj hlt)), getD_set_same _ _ _ (by rw [hA.size]; exact hslot j hlt dj (hdj hlt))]
   ·rw [wJo ob a1 t (fun h3 h4 => e ⟨h3, h4⟩), wJo ob A t (fun h3 h4 => e ⟨h3, h4⟩)]
    by_cases hex : ∃ i ∈ xs, dstAt l i = some t
    ·obtain ⟨i, hi, hd⟩ := hex
     have hl : listed.getD i false = true := by
      cases hc' : listed.getD i false with
      | true => rfl
      | false => exact absurd ⟨i, hi, hc', hd⟩ ht'
     exact hM.in_ i ⟨hi, hl⟩ t hd
    ·rw [hM.out t (fun i hi hd => hex ⟨i, hi.1, hd⟩), hA.out t (fun i hi hd => hex ⟨i, (hyx i).1 hi, hd⟩)]
  ·rw [wJs, hA.size]
  ·exact wJo ob A t (fun h3 h4 => (ok.x i hi).2.1 (hjd (obJ h2 h3) i (ok.x i hi).1 (by rw [hd, h4])))
  ·rw [wJo ob A t (fun h3 h4 => hno j (obJ h2 h3) (by rw [hdj (obJ h2 h3), h4]))]
   exact hA.out t fun i hi => hno i (ok.x i ((hyx i).1 hi)).1
  ·obtain ⟨pre, post, e1, e2, e3⟩ := hav i ((hyx i).2 hi) hf o ho
   obtain ⟨LF, h3, h4⟩ := e3 _ (Good.above V)
   exact ⟨pre, post, LF, e1, h3, late_yields (hfl i hi hf o ho).1 ⟨V, Grows.refl _⟩ h4⟩
 let St : Array Bool → Act → World → Prop := fun listed a W => StA listed a W ∨ StB listed a W
 have stepB : ∀ listed a W i o, l[i]? = some o → listed.getD i true = false → (∀ i', afterB l i i' = true → listed.getD i' false = true) → StB listed a W → wpListIn F n P l.toArray (Exit.then (St (listed.setIfInBounds i true)) Q) [o] a W := by
  rintro listed a W i o hol hu hwait ⟨hsz, A, Ac, m, hm', ht, hdp, hjl, hR, hAcs, hAcx, hAco, hfl, hwp⟩
  have hi : i < l.length := (List.getElem?_eq_some_iff.1 hol).1
  have hfalse : listed.getD i false = false := getD_both hu
  have hsel : ∀ cs b, o.op ≠ .select cs b := fun cs b => Region.noSelect_spec ok.nosel i o cs b (by simpa using hol)
  rcases ok.part i hi with hix | hie | hij
  ·obtain ⟨pre, post, LF, hx, hLF, hy⟩ := hfl i hix hfalse o hol
   have hag : ∀ t ∈ o.looksAt l.toArray, LF.tmps.getD t undef = a.tmps.getD t undef := fun t ht' => by
    by_cases hex : ∃ i', i' < l.length ∧ dstAt l i' = some t
    ·obtain ⟨i', hi', hd⟩ := hex
     obtain ⟨h1, h2⟩ := ok.deps pre i post hx o hol t ht' i' hi' hd
     have hix' : i' ∈ xs := by rw [hx]; simp [h2]
     rw [hLF.in_ i' h2 t hd, hR.same t (fun ⟨i2, h5, h6, h7⟩ => by
      obtain ⟨d, h8, h9⟩ := ok.own i' hi' (ok.x i' hix').2.2
      rw [hd] at h8
      cases h8
      have := h9 i2 (ok.x i2 h5).1 h7
      subst this
      rw [hwait _ h1] at h6
      cases h6), hAcx i' hix' t hd]
    ·have hno : ∀ i', i' < l.length → dstAt l i' ≠ some t := fun i' hi' hd => hex ⟨i', hi', hd⟩
     rw [hLF.out t (fun i' hi' => hno i' (ok.x i' (by rw [hx]; simp [hi'])).1), hR.same t (fun ⟨i2, h5, _, h7⟩ => hno i2 (ok.x i2 h5).1 h7), hAco t hno]
   have hya := hy.agree hsel (hLF.size.trans (hAcs.symm.trans hR.size.symm)) hag
   obtain ⟨d, hdi, huniq⟩ := ok.own i hi (ok.x i hix).2.2
   have hdo : o.dst = some d := by unfold dstAt at hdi; rw [hol] at hdi; exact hdi
   have hnext : St (listed.setIfInBounds i true) (a.put o.dst (valOf l A i)) W := by
    refine .inr ⟨by simpa using hsz, A, Ac, m, hm', fun e he => ?_, fun e he => ?_, fun h => ?_, ?_, hAcs, hAcx, hAco, fun i' hi' hf => ?_, hwp⟩
    ·rw [setD _ _ _ hsz hi]; unfold done; split
     ·rfl
     ·exact ht e he
    ·rw [setD _ _ _ hsz hi]; unfold done; rw [if_neg (fun e' => by subst e'; exact (ok.x e hix).2.2 (List.mem_of_mem_drop he))]; exact hdp e he
    ·rw [setD _ _ _ hsz hi]; unfold done; split
     ·rfl
     ·exact hjl h
    ·rw [hdo]
     refine ⟨hR.defers, by rw [← hR.size]; simp [Act.put], fun t ht' => ?_⟩
     by_cases e : t = d
     ·subst e
      rw [show (a.put (some t) (valOf l A i)).tmps = a.tmps.setIfInBounds t (valOf l A i) from rfl, getD_set_same _ _ _ (by rw [hR.size, hAcs]; exact hslot i hi t hdi), hAcx i hix t hdi]
      unfold valOf; rw [hdi]; rfl
     ·rw [show (a.put (some d) (valOf l A i)).tmps = a.tmps.setIfInBounds d (valOf l A i) from rfl, getD_set_other _ _ (Ne.symm e)]
      refine hR.same t fun ⟨i2, h5, h6, h7⟩ => ht' ⟨i2, h5, ?_, h7⟩
      rw [setD _ _ _ hsz hi]; unfold done
      rw [if_neg (fun e' => by subst e'; rw [hdi] at h7; exact e (Option.some.inj h7).symm)]
      exact h6
    ·rw [setD _ _ _ hsz hi] at hf
     unfold done at hf
     split at hf
     ·cases hf
     ·exact hfl i' hi' hf
   simp only [wpListIn]
   rcases hya.2 with ⟨hw, hv⟩ | ⟨hw, hv⟩
   ·rw [if_pos hw]
    unfold Oper.wpIn
    refine ⟨hya.1 W, ?_⟩
    rw [Oper.semAt_eq _ _ _ (hnd i o (by simpa using hol)), hv W]
    exact hnext
   ·rw [if_neg (by rw [hw]; simp)]
    refine ⟨hya.1 W, ?_⟩
    rw [hv] at hnext
    exact hnext
  ·have hmem : i ∈ es.drop m := by
    rcases (List.mem_append.1 (by rw [List.take_append_drop]; exact hie : i ∈ es.take m ++ es.drop m)) with h | h
    ·rw [ht i h] at hfalse; cases hfalse
    ·exact h
   have hml : m < es.length := by
    rcases Nat.lt_or_ge m es.length with h | h
    ·exact h
    ·rw [List.drop_of_length_le h] at hmem; cases hmem
   have hdrop : es.drop m = es[m] :: es.drop (m + 1) := List.drop_eq_getElem_cons hml
   have hie' : i = es[m] := by
    rw [hdrop] at hmem
    rcases List.mem_cons.1 hmem with h | h
    ·exact h
    ·exfalso
     have hlt : es[m] < i := by
      have hp := ok.upE.sublist (List.drop_sublist m es)
      rw [hdrop, List.pairwise_cons] at hp
      exact hp.1 i h
     have h1 := hwait _ (ok.chain i hie es[m] (List.getElem_mem _) hlt)
     rw [hdp es[m] (by rw [hdrop]; exact List.mem_cons_self)] at h1
     cases h1
   rw [hdrop, ← hie', pick_cons hol] at hwp
   have hdn : o.dst = none := by
    have := ok.edst i hie
    unfold dstAt at this
    rw [hol] at this
    exact this
   refine wpListIn_rel hsel (hnd i o (by simpa using hol)) hdn hR (fun t ht' => ?_) hwp ?_
   ·rintro ⟨i2, h5, h6, h7⟩
    rw [hwait _ (ok.depsE i hie o hol t ht' i2 (ok.x i2 h5).1 h7)] at h6
    cases h6
   ·rintro A' a' W' eA ea ed hwp'
    refine .inr ⟨by simpa using hsz, A, A', m + 1, hml, fun e he => ?_, fun e he => ?_, fun h => ?_, ?_, by rw [eA]; exact hAcs, by rw [eA]; exact hAcx, by rw [eA]; exact hAco, fun i' hi' hf => ?_, hwp'⟩
    ·rw [setD _ _ _ hsz hi]; unfold done; split
     ·rfl
     ·rename_i hne
      rw [List.take_succ_eq_append_getElem hml] at he
      rcases List.mem_append.1 he with h | h
      ·exact ht e h
      ·exact absurd ((List.mem_singleton.1 h).trans hie'.symm) hne
    ·rw [setD _ _ _ hsz hi]; unfold done
     have hne : e ≠ i := fun e' => by
      have hp := ok.upE.sublist (List.drop_sublist m es)
      rw [hdrop, List.pairwise_cons] at hp
      have := hp.1 e he
      omega
     rw [if_neg hne]
     exact hdp e (by rw [hdrop]; exact List.mem_cons_of_mem _ he)
    ·rw [setD _ _ _ hsz hi]; unfold done; split
     ·rfl
     ·exact hjl h
    ·refine ⟨ed, by rw [ea, eA]; exact hR.size, fun t ht' => ?_⟩
     rw [ea, eA]
     refine hR.same t fun ⟨i2, h5, h6, h7⟩ => ht' ⟨i2, h5, ?_, h7⟩
     rw [setD _ _ _ hsz hi]; unfold done
     rw [if_neg (fun e' => by subst e'; exact (ok.x i2 h5).2.2 hie)]
     exact h6
    ·rw [setD _ _ _ hsz hi] at hf
     unfold done at hf
     split at hf
     ·cases hf
     ·exact hfl i' hi' hf
  ·subst hij
   rw [hjl hi] at hfalse
   cases hfalse
 refine wpIn_region_inv hm St ?_ ?_ ?_ ?_
 ·rintro listed a W (⟨h, _⟩ | ⟨h, _⟩) <;> simpa using h
 ·obtain ⟨qs, later, A, hx, hA, _, hav, hnext⟩ := flow_enter (G := G) (F := F) (n := n) (P := P) (tail := tail) (a0 := a0) ok hs hfin stages hr0 (ys := []) h (by simpa using hxs.symm) (Mixed.nil (by simp))
  have hrep : ∀ i, (Array.replicate l.toArray.size false).getD i false = false := fun i => getD_replicate_false _ _
  refine .inl ⟨by simp, fun e _ => hrep e, qs, later, A, V0, [], none, a0, by simpa using hx, fun i _ => hrep i, by simpa using hA, Mixed.nil (fun i hi => by rw [hrep i] at hi; cases hi.2), rfl, fun i hi _ => by simpa using hav i hi, fun _ => hrep j, fun _ => rfl, ⟨hV, rfl⟩, fun p hp => by simp at hp, Nat.le_refl _, hnext⟩
 ·rintro listed a W i o ho hu hd hst
  have hol : l[i]? = some o := by simpa using ho
  have hi : i < l.length := (List.getElem?_eq_some_iff.1 hol).1
  have hwait : ∀ i', afterB l i i' = true → listed.getD i' false = true := fun i' h => by
   unfold afterB at h
   rw [hol] at h
   obtain ⟨e, he, h2⟩ := List.any_eq_true.1 h
   simp only [Bool.and_eq_true, beq_iff_eq] at h2
   rw [← h2.1]
   exact hd e (by simpa using he) h2.2
  rcases hst with hA0 | hBB
  ·obtain ⟨hsz, hesl, ys, later, A, V, I, ob, a1, hx, hlater, hA, hM, rfl, hav, h1, h2, hc, hI, hVV, hnext⟩ := hA0
   have hfalse : listed.getD i false = false := getD_both hu
   have hsel : ∀ cs b, o.op ≠ .select cs b := fun cs b => Region.noSelect_spec ok.nosel i o cs b ho
   rcases ok.part i hi with hix | hie | hij
   ·have hij : i ≠ j := (ok.x i hix).2.1
    obtain ⟨d, hdi, hun⟩ := ok.own i hi (ok.x i hix).2.2
    have hdo : o.dst = some d := by unfold dstAt at hdi; rw [hol] at hdi; exact hdi
    have hdd : ob.isSome = true → d ≠ dj := fun hsm e => by subst e; exact hij (hjd (obJ h2 hsm) i hi hdi)
    have e1 : ∀ e ∈ es, (listed.setIfInBounds i true).getD e false = false := fun e he => by
     rw [setD _ _ _ hsz hi]; unfold done
     rw [if_neg (fun e' => by subst e'; exact (ok.x e hix).2.2 he)]
     exact hesl e he
    have e2 : j < l.length → (listed.setIfInBounds i true).getD j false = ob.isSome := fun h => by
     rw [setD _ _ _ hsz hi]; unfold done
     rw [if_neg (Ne.symm hij)]
     exact h1 h
    have hmem : i ∈ ys ∨ i ∈ later := by rw [hx] at hix; exact List.mem_append.1 hix
    rcases hmem with hy | hlt
    ·-- quiet
     obtain ⟨pre, post, hp1, hp2, hp3⟩ := hav i hy hfalse o hol
     obtain ⟨LF, hLF, hyq⟩ := hp3 (cls I V ob) ⟨⟨W, hc⟩, fun _ h => Grows.below h.1, fun W W' h k => growC (I := I) h k⟩
     have hag := agreeA hol hp1 hwait h2 hLF hM
     have hya := yields_agree hsel (hLF.size.trans ((wJs ob a1).trans hM.size).symm) hag hyq
     have hval : valOf l A i = A.tmps.getD d undef := by unfold valOf; rw [hdi]; rfl
     have hnx : ∀ W', cls I V ob W' → St (listed.setIfInBounds i true) ((wJ ob a1).put o.dst (valOf l A i)) W' := fun W' hW' => by
      refine .inl ⟨by simpa using hsz, e1, ys, later, A, V, I, ob, a1.put (some d) (A.tmps.getD d undef), hx, fun k hk => ?_, hA, (hM.step hdi (fun i' hi' hd' => hun i' (ok.x i' hi'.1).1 hd') (hslot i hi d hdi)).congr (mixS listed i hsz hi hix), by rw [hdo, hval]; exact wJp ob a1 d _ hdd, fun k hk hf => ?_, e2, h2, hW', hI, hVV, hnext⟩
      ·rw [setD _ _ _ hsz hi]; unfold done
       rw [if_neg (fun e' => by
        subst e'
        have := ok.nodup
        rw [hx, List.nodup_append] at this
        exact this.2.2 k hy k hk rfl)]
       exact hlater k hk
      ·rw [setD _ _ _ hsz hi] at hf
       unfold done at hf
       split at hf
       ·cases hf
       ·exact hav k hk hf
     simp only [wpListIn]
     rcases hya.2 with ⟨hw, hv⟩ | ⟨hw, hv⟩
     ·rw [if_pos hw]
      exact wpIn_of_quiet' (K := fun a' => a' = (wJ ob a1).put o.dst (valOf l A i)) (hnd i o ho) hc (fun a' W' hW' ha' => by subst ha'; exact hnx W' hW') hya.1 ⟨_, hv, rfl⟩
     ·rw [if_neg (by rw [hw]; simp)]
      refine ⟨hya.1 W hc, ?_⟩
      have := hnx W hc
      rw [hv] at this
      exact this
    ·rcases hnext with ⟨h3, _⟩ | ⟨x, r, ox, he, hxw, hr, hox, hwx⟩
     ·rw [h3] at hlt; cases hlt
     rw [he] at hlt
     rcases List.mem_cons.1 hlt with rfl | hlt
     ·-- the next call
      obtain rfl : ox = o := Option.some.inj (hox.symm.trans hol)
      have hp1 : xs = ys ++ i :: xsOf r fin := by rw [hx, he]
      have hag := agreeA hol hp1 hwait h2 hA hM
      refine wpListIn_relD hsel (hnd i ox ho) (by rw [wJs, hM.size, hA.size]) hag (hwx W hc.1) ?_
      rintro A' a' W' v eA ea ed ⟨hdf, hbW, hfl⟩
      have hpd : ∀ (z : Act) (u : Value), (z.put ox.dst u).defers = z.defers := fun z u => by cases ox.dst <;> rfl
      have eA' : A' = A.put (some d) v := by
       obtain ⟨t1, d1⟩ := A'
       rw [hdo] at eA
       simp only at eA hdf
       subst eA hdf
       rfl
      have ea' : a' = (wJ ob a1).put (some d) v := by
       obtain ⟨t1, d1⟩ := a'
       rw [hdo] at ea
       have h5 := ed hdf
       simp only at ea h5
       subst ea h5
       rfl
      rw [eA'] at hfl
      have hA1 : Mixed l (· ∈ ys ++ [i]) (A.put (some d) v) a0 (A.put (some d) v) := by
       have hpt : (A.put (some d) v).tmps = A.tmps.setIfInBounds d v := rfl
       refine ⟨hA.defers, by rw [hpt]; simpa using hA.size, fun _ _ _ _ => rfl, fun t ht => ?_⟩
       rw [hpt, getD_set_other _ _ (fun e => ht i (by simp) (by rw [hdi, e]))]
       exact hA.out t fun k hk => ht k (by simp [hk])
      obtain ⟨qs, later', A2, hx2, hA2, hsame, hav2, hnext2⟩ := flow_enter (G := G) (F := F) (n := n) (P := P) (tail := tail) (a0 := a0) ok hs hfin r hr (ys := ys ++ [i]) hfl (by rw [hp1]; simp) hA1
      have hbV : G V W' := Grows.trans (Grows.below hc.1) hbW
      have hdv : (A.put (some d) v).tmps.getD d undef = v := getD_set_same _ _ _ (by rw [hA.size]; exact hslot i hi d hdi)
      have hold : ∀ k ∈ ys, ∀ t, dstAt l k = some t → A.tmps.getD t undef = A2.tmps.getD t undef := fun k hk t hd => by
       rw [← hsame k (by simp [hk]) t hd]
       refine (getD_set_other _ _ (fun e => ?_)).symm
       subst e
       have hkx : k ∈ xs := by rw [hx]; simp [hk]
       have := hun k (ok.x k hkx).1 hd
       subst this
       have h6 := ok.nodup
       rw [hp1, List.nodup_append] at h6
       exact h6.2.2 k hk k (by simp) rfl
      have hlat : ∀ k ∈ later', k ∈ later := fun k hk => by
       have h6 : xs = ys ++ (i :: (qs ++ later')) := by rw [hx2]; simp
       rw [hp1] at h6
       have h7 := List.append_cancel_left h6
       rw [he, h7]
       simp [hk]
      have hlist : ∀ k, k ∈ xs ∧ listed.getD k false = true → k ∈ ys := fun k hk => by
       have := hk.1
       rw [hx] at this
       rcases List.mem_append.1 this with h | h
       ·exact h
       ·rw [hlater k h] at hk; cases hk.2
      have hM2 : Mixed l (fun k => k ∈ xs ∧ (listed.setIfInBounds i true).getD k false = true) A2 a0 (a1.put (some d) v) := by
       have h6 := (hM.change (A' := A2) (fun k hk t hd => hold k (hlist k hk) t hd)).step hdi (fun i' hi' hd' => hun i' (ok.x i' hi'.1).1 hd') (hslot i hi d hdi)
       have h7 : A2.tmps.getD d undef = v := by rw [← hsame i (by simp) d hdi]; exact hdv
       rw [h7] at h6
       exact h6.congr (mixS listed i hsz hi hix)
      refine .inl ⟨by simpa using hsz, e1, ys ++ [i] ++ qs, later', A2, W', (W.heap.size, W'.heap.size) :: I, ob, a1.put (some d) v, hx2, fun k hk => ?_, hA2, hM2, by rw [ea']; exact wJp ob a1 d v hdd, fun k hk hf => ?_, e2, h2, ⟨Below.refl _ _, hc.2⟩, fun p hp => ?_, Nat.le_trans hVV (Grows.size hbV), hnext2⟩
      ·rw [setD _ _ _ hsz hi]; unfold done
       rw [if_neg (fun e' => by
        subst e'
        have := ok.nodup
        rw [hx2, List.nodup_append] at this
        exact this.2.2 k (by simp) k hk rfl)]
       exact hlater k (hlat k hk)
      ·rw [setD _ _ _ hsz hi] at hf
       unfold done at hf
       split at hf
       ·cases hf
       ·rename_i hki
        rcases List.mem_append.1 hk with hk | hk
        ·have hk' : k ∈ ys := by
          rcases List.mem_append.1 hk with h | h
          ·exact h
          ·exact absurd (List.mem_singleton.1 h) hki
         intro o' ho'
         obtain ⟨pre, post, q1, q2, q3⟩ := hav k hk' hf o' ho'
         refine ⟨pre, post, q1, fun k' hk2 => by simp [q2 k' hk2], fun C hC => ?_⟩
         obtain ⟨LF, q4, q5⟩ := q3 C (hC.up hbV)
         have hkv : valOf l A k = valOf l A2 k := by
          have hkx : k ∈ xs := by rw [hx]; simp [hk']
          obtain ⟨dk, g1, _⟩ := ok.own k (ok.x k hkx).1 (ok.x k hkx).2.2
          unfold valOf
          rw [g1]
          exact hold k hk' dk g1
         exact ⟨LF, q4.change (fun k2 hk2 t hd => hold k2 (q2 k2 hk2) t hd), by rw [← hkv]; exact q5⟩
        ·exact hav2 k hk
      ·rcases List.mem_cons.1 hp with rfl | hp
       ·exact Nat.le_refl _
       ·exact Nat.le_trans (hI p hp) (Grows.size hbV)
     ·-- not yet
      exfalso
      have hp1 : xs = ys ++ x :: xsOf r fin := by rw [hx, he]
      obtain ⟨m, hm1, hm2⟩ := ok.ord ys x _ hp1 hxw i hlt
      have := hwait m hm2
      rw [hlater m (by rw [he]; exact hm1)] at this
      cases this
   ·refine stepB listed _ W i o hol hu hwait (toB listed _ W ⟨hsz, hesl, ys, later, A, V, I, ob, a1, hx, hlater, hA, hM, rfl, hav, h1, h2, hc, hI, hVV, hnext⟩ (fun h => hwait j (ok.fresh i hie h)) fun i' hi' hf o' ho' => ?_)
    rcases ok.late i' hi' o' ho' with h | h
    ·exact h
    ·rw [hwait i' (h i hie)] at hf
     cases hf
   ·subst hij
    exact absurd hi (by omega)
  ·exact stepB listed a W i o hol hu hwait hBB
 ·rintro listed a W hr hst
  have hal : ∀ i, i < l.length → listed.getD i false = true := by
   rcases hst with ⟨h, _⟩ | ⟨h, _⟩ <;> exact fun i hi => ready_nil_all ok.back (by simpa using h) hr i (by simpa using hi)
  have hBB : StB listed a W := by
   rcases hst with h | h
   ·exact toB listed a W h (fun h' => hal j h') (fun i hi hf => by rw [hal i (ok.x i hi).1] at hf; cases hf)
   ·exact h
  obtain ⟨hsz, A, Ac, m, hm', ht, hdp, hjl, hR, hAcs, hAcx, hAco, hfl, hwp⟩ := hBB
  have hnil : es.drop m = [] := by
   cases h : es.drop m with
   | nil => rfl
   | cons e r =>
    have h1 := hdp e (by rw [h]; simp)
    rw [hal e (ok.e e (List.mem_of_mem_drop (by rw [h]; simp))).1] at h1
    cases h1
  rw [hnil] at hwp
  have hEq : a = Ac := by
   obtain ⟨t, d⟩ := a
   obtain ⟨t', d'⟩ := Ac
   have e1 : d = d' := hR.defers
   have s1 : t.size = t'.size := hR.size
   have e2 : t = t' := by
    apply Array.ext s1
    intro i h1 h2
    have := hR.same i (fun ⟨i2, h5, h6, _⟩ => by rw [hal i2 (ok.x i2 h5).1] at h6; cases h6)
    simpa [h1, h2] using this
   rw [e1, e2]
  subst hEq
  exact hwp
theorem wpIn_flow_old {Q : Exit → Act → World → Prop} {id : Nat} {a0 : Act} {w V0 : World} (stages : List (List Bool × Nat)) (fin em : List Bool)
  (hm : P.follows .mixedOrders = true) (hB : (flowB l (xsOf stages fin) (stages.map (·.2)) (idxs 0 em) l.length && stages.all (fun p => decide (p.1.length ≤ l.length)) && decide (fin.length ≤ l.length) && decide (em.length ≤ l.length)) = true)
  (hs : slotsM l a0.tmps.size = true) (hV : Below V0.heap.size V0 w.drew)
  (h : wpFlow G F n P l (fun I V A => ∀ W, Below V.heap.size V W → wpT F n P l.toArray (Q .normal) (pickB l em) A W) stages fin [] V0 a0) : (Code.region id l.toArray true).wpIn F n P Q a0 w := by
 refine wpIn_region_flow (G := G) stages fin em l.length 0 (fun _ => undef) 0 #[] (Nat.le_refl _) hm hB hs hV (fun h => absurd h (Nat.lt_irrefl _)) ?_
 have e : tailF G F n P l em l.length 0 (fun _ => undef) 0 #[] V0 (Q .normal) = fun I V A => ∀ W, Below V.heap.size V W → wpT F n P l.toArray (Q .normal) (pickB l em) A W := by
  funext I V A
  unfold tailF
  exact propext ⟨fun k W h1 => by have := k 0 W h1 (fun h => absurd h (Nat.lt_irrefl _)); rwa [if_neg (Nat.lt_irrefl _)] at this, fun k b W h1 _ => by rw [if_neg (Nat.lt_irrefl _)]; exact k W h1⟩
 rw [e]
 exact h
end
end Gr
namespace Tr
open Go.RowKit Gr
set_option linter.unusedSectionVars false
def Up (A B : World) : Prop := Below A.heap.size A B
instance up_grows : Grows Up where
 refl := fun W => Below.refl _ W
 trans := fun {A B C} (h : Below A.heap.size A B) (k : Below B.heap.size B C) => (show Below A.heap.size A C from h.trans (k.mono h.size))
 below := fun h => h
 size := fun {A B} (h : Below A.heap.size A B) => h.size
abbrev Plan := List (List Nat × List Bool × List Nat)
def ins (x : Nat) : List Nat → List Nat
 | [] => [x]
 | y :: r => if x < y then x :: y :: r else y :: ins x r
def rowAt (tab : Plan) (p : List Nat) : Option (List Bool × List Nat) := (tab.find? fun r => r.1 == p).map (·.2)
def pathB (l : List Oper) (es : List Nat) (tab : Plan) : Nat → List Nat → List Nat → Bool
 | 0, _, _ => false
 | k + 1, p, ys => match rowAt tab p with
  | none => false
  | some (m, kids) =>
   decide (m.length ≤ l.length) && depsB l ys (idxs 0 m) && ((idxs 0 m).all fun i => decide (i < l.length) && !es.contains i && !ys.contains i) && decide (idxs 0 m).Nodup &&
   (kids.all fun x => decide (x < l.length) && !es.contains x && !(ys ++ idxs 0 m).contains x && readsB l x (ys ++ idxs 0 m) && !((l[x]?).map lateB).getD true && pathB l es tab k (ins x p) (ys ++ idxs 0 m ++ [x])) &&
   (!kids.isEmpty || (List.range l.length).all fun i => (ys ++ idxs 0 m).contains i || es.contains i) &&
   ((List.range l.length).all fun i => (ys ++ idxs 0 m).contains i || es.contains i || kids.contains i || (List.range l.length).any fun k' => !(ys ++ idxs 0 m).contains k' && afterB l i k')
def treeB (l : List Oper) (es : List Nat) : Bool :=
 upS es && backB l.toArray && Region.noSelect l.toArray && noDeferB l && (es.all fun i => decide (i < l.length)) &&
 ((List.range l.length).all fun i => es.contains i || ((dstAt l i).isSome && ((List.range l.length).all fun i' => i == i' || dstAt l i != dstAt l i'))) &&
 (es.all fun e => readsB l e (List.range l.length)) && (es.all fun e => es.all fun e' => decide (e ≤ e') || afterB l e e') &&
 ((List.range l.length).all fun i => es.contains i || ((l[i]?).map lateB).getD false || es.all fun e => afterB l e i) && (es.all fun e => (dstAt l e).isNone)
structure TreeOk (l : List Oper) (es : List Nat) : Prop where
 upE : es.Pairwise (· < ·)
 back : backB l.toArray = true
 nosel : Region.noSelect l.toArray = true
 nodef : noDeferB l = true
 e : ∀ i ∈ es, i < l.length
 own : ∀ i, i < l.length → i ∉ es → ∃ d, dstAt l i = some d ∧ ∀ i', i' < l.length → dstAt l i' = some d → i' = i
 depsE : ∀ i ∈ es, ∀ o, l[i]? = some o → ∀ t ∈ o.looksAt l.toArray, ∀ i', i' < l.length → dstAt l i' = some t → afterB l i i' = true
 chain : ∀ e ∈ es, ∀ e' ∈ es, e' < e → afterB l e e' = true
 late : ∀ i, i < l.length → i ∉ es → ∀ o, l[i]? = some o → lateB o = true ∨ ∀ e ∈ es, afterB l e i = true
 edst : ∀ e ∈ es, dstAt l e = none
theorem treeOk {l : List Oper} {es : List Nat} (h : treeB l es = true) : TreeOk l es := by
 unfold treeB at h
 simp only [Bool.and_eq_true] at h
 obtain ⟨⟨⟨⟨⟨⟨⟨⟨⟨h1, h2⟩, h3⟩, h4⟩, h5⟩, h6⟩, h7⟩, h8⟩, h9⟩, h10⟩ := h
 refine ⟨upS_pair h1, h2, h3, h4, fun i hi => of_decide_eq_true (List.all_eq_true.1 h5 i hi), fun i hi hne => ?_, fun i hi o ho t ht i' hi' hd => (readsB_spec (List.all_eq_true.1 h7 i hi) o ho t ht i' hi' hd).1, fun e he e' he' hlt => ?_, fun i hi hne o ho => ?_, fun e he => by simpa using List.all_eq_true.1 h10 e he⟩
 ·have h := List.all_eq_true.1 h6 i (List.mem_range.2 hi)
  simp only [Bool.or_eq_true, List.contains_eq_mem, decide_eq_true_eq] at h
  rcases h with h | h
  ·exact absurd h hne
  ·simp only [Bool.and_eq_true] at h
   obtain ⟨d, hd⟩ := Option.isSome_iff_exists.1 h.1
   refine ⟨d, hd, fun i' hi' hd' => ?_⟩
   have h' := List.all_eq_true.1 h.2 i' (List.mem_range.2 hi')
   simp only [Bool.or_eq_true, beq_iff_eq, bne_iff_ne] at h'
   rcases h' with h' | h'
   ·exact h'.symm
   ·exact absurd (hd.trans hd'.symm) h'
 ·have := List.all_eq_true.1 (List.all_eq_true.1 h8 e he) e' he'
  simp only [Bool.or_eq_true, decide_eq_true_eq] at this
  exact this.resolve_left (by omega)
 ·have := List.all_eq_true.1 h9 i (List.mem_range.2 hi)
  rw [ho] at this
  simp only [Option.map_some, Option.getD_some, Bool.or_eq_true, List.contains_eq_mem, decide_eq_true_eq] at this
  rcases this with (h | h) | h
  ·exact absurd h hne
  ·exact .inl h
  ·exact .inr fun e he => List.all_eq_true.1 h e he
structure PathOk (l : List Oper) (es ys : List Nat) : Prop where
 nodup : ys.Nodup
 x : ∀ i ∈ ys, i < l.length ∧ i ∉ es
 deps : ∀ pre i post, ys = pre ++ i :: post → ∀ o, l[i]? = some o → ∀ t ∈ o.looksAt l.toArray, ∀ i', i' < l.length → dstAt l i' = some t → afterB l i i' = true ∧ i' ∈ pre
theorem PathOk.nil {l : List Oper} {es : List Nat} : PathOk l es [] := ⟨List.nodup_nil, (fun i h => by cases h), fun pre i post e => by simp at e⟩
theorem PathOk.snoc {l : List Oper} {es ys : List Nat} (h : PathOk l es ys) {x : Nat} (h1 : x < l.length) (h2 : x ∉ es) (h3 : x ∉ ys) (h4 : readsB l x ys = true) : PathOk l es (ys ++ [x]) := by
 refine ⟨?_, fun i hi => ?_, fun pre i post e => ?_⟩
 ·rw [List.nodup_append]
  exact ⟨h.nodup, by simp, fun a ha b hb e => h3 (by rw [List.mem_singleton.1 hb] at e; rw [← e]; exact ha)⟩
 ·rcases List.mem_append.1 hi with hi | hi
  ·exact h.x i hi
  ·rw [List.mem_singleton.1 hi]; exact ⟨h1, h2⟩
 ·rcases List.append_eq_append_iff.1 e.symm with ⟨a', e1, e2⟩ | ⟨c', e1, e2⟩
  ·cases a' with
   | nil =>
    simp at e2
    obtain ⟨rfl, rfl⟩ := e2
    simp at e1
    subst e1
    exact readsB_spec h4
   | cons q a' =>
    simp at e2
    obtain ⟨rfl, rfl⟩ := e2
    exact h.deps pre i a' e1
  ·cases c' with
   | nil =>
    simp at e1 e2
    obtain ⟨rfl, rfl⟩ := e2
    subst e1
    exact readsB_spec h4
   | cons q c' => simp at e2
theorem PathOk.more {l : List Oper} {es : List Nat} : ∀ {qs ys : List Nat}, PathOk l es ys → depsB l ys qs = true → (∀ i ∈ qs, i < l.length ∧ i ∉ es ∧ i ∉ ys) → qs.Nodup → PathOk l es (ys ++ qs)
 | [], ys, h, _, _, _ => by simpa using h
 | x :: qs, ys, h, hd, hx, hn => by
  simp only [depsB, Bool.and_eq_true] at hd
  rw [List.nodup_cons] at hn
  have h1 := h.snoc (hx x (by simp)).1 (hx x (by simp)).2.1 (hx x (by simp)).2.2 hd.1
  have h2 := PathOk.more (qs := qs) h1 hd.2 (fun i hi => ⟨(hx i (by simp [hi])).1, (hx i (by simp [hi])).2.1, fun hm => by
   rcases List.mem_append.1 hm with hm | hm
   ·exact (hx i (by simp [hi])).2.2 hm
   ·rw [List.mem_singleton.1 hm] at hi; exact hn.1 hi⟩) hn.2
  simpa using h2
structure KidsOk (l : List Oper) (es : List Nat) (tab : Plan) (k : Nat) (p ys kids : List Nat) : Prop where
 kid : ∀ x ∈ kids, x < l.length ∧ x ∉ es ∧ x ∉ ys ∧ readsB l x ys = true ∧ (∀ o, l[x]? = some o → lateB o = false) ∧ pathB l es tab k (ins x p) (ys ++ [x]) = true
 all : kids = [] → ∀ i, i < l.length → i ∈ ys ∨ i ∈ es
 wait : ∀ i, i < l.length → i ∉ ys → i ∉ es → i ∉ kids → ∃ k', k' ∉ ys ∧ afterB l i k' = true
theorem pathOk {l : List Oper} {es : List Nat} {tab : Plan} {k : Nat} {p ys : List Nat} (h : pathB l es tab (k + 1) p ys = true) (ho : PathOk l es ys) : ∃ m kids, rowAt tab p = some (m, kids) ∧ m.length ≤ l.length ∧ PathOk l es (ys ++ idxs 0 m) ∧ KidsOk l es tab k p (ys ++ idxs 0 m) kids := by
 unfold pathB at h
 cases hr : rowAt tab p with
 | none => rw [hr] at h; simp at h
 | some q =>
  obtain ⟨m, kids⟩ := q
  rw [hr] at h
  simp only [Bool.and_eq_true, decide_eq_true_eq] at h
  obtain ⟨⟨⟨⟨⟨⟨h1, h2⟩, h3⟩, h4⟩, h5⟩, h6⟩, h7⟩ := h
  refine ⟨m, kids, rfl, h1, ho.more h2 (fun i hi => ?_) h4, ⟨fun x hx => ?_, fun e i hi => ?_, fun i hi hy he hk => ?_⟩⟩
  ·have := List.all_eq_true.1 h3 i hi
   simp only [Bool.and_eq_true, decide_eq_true_eq, Bool.not_eq_true', List.contains_eq_mem, decide_eq_false_iff_not] at this
   exact ⟨this.1.1, this.1.2, this.2⟩
  ·have := List.all_eq_true.1 h5 x hx
   simp only [Bool.and_eq_true, decide_eq_true_eq, Bool.not_eq_true', List.contains_eq_mem, decide_eq_false_iff_not] at this
   obtain ⟨⟨⟨⟨⟨a1, a2⟩, a3⟩, a4⟩, a5⟩, a6⟩ := this
   exact ⟨a1, a2, a3, a4, fun o ho => by rw [ho] at a5; simpa using a5, a6⟩
  ·subst e
   simp only [List.isEmpty_nil, Bool.not_true, Bool.false_or] at h6
   have := List.all_eq_true.1 h6 i (List.mem_range.2 hi)
   simpa using this
  ·have := List.all_eq_true.1 h7 i (List.mem_range.2 hi)
   simp only [Bool.or_eq_true, List.contains_eq_mem, decide_eq_true_eq] at this
   rcases this with ((h | h) | h) | h
   ·exact absurd h hy
   ·exact absurd h he
   ·exact absurd h hk
   ·obtain ⟨k', _, hk'⟩ := List.any_eq_true.1 h
    simp only [Bool.and_eq_true, Bool.not_eq_true'] at hk'
    exact ⟨k', by simpa using hk'.1, hk'.2⟩
section
variable {G : World → World → Prop} [Grows G] {F : Fence} {n : Nat} {P : Program} {l : List Oper}
def wpTree (G : World → World → Prop) (F : Fence) (n : Nat) (P : Program) (l : List Oper) (tail : World → Act → Prop) (tab : Plan) : Nat → List Nat → World → Act → Prop
 | 0, _, _, _ => False
 | k + 1, p, V, a => ∃ m kids, rowAt tab p = some (m, kids) ∧ ∃ A, Gr.Quietly G F n P l V (pickB l m) a A ∧ (kids = [] → tail V A) ∧ ∀ x ∈ kids, ∃ o, l[x]? = some o ∧ ∀ W, Below V.heap.size V W →
     wpListIn F n P l.toArray (Exit.then (fun a' W' => a'.defers = A.defers ∧ G W W' ∧ wpTree G F n P l tail tab k (ins x p) W' a') (fun _ _ _ => False)) [o] A W
theorem wpTree_end {tail : World → Act → Prop} {tab : Plan} {k : Nat} {p : List Nat} {V : World} {a A : Act} {m : List Bool} (hr : rowAt tab p = some (m, [])) (hq : Gr.Quietly G F n P l V (pickB l m) a A) (h : tail V A) : wpTree G F n P l tail tab (k + 1) p V a := ⟨m, [], hr, A, hq, fun _ => h, fun x hx => by cases hx⟩
theorem wpTree_one {tail : World → Act → Prop} {tab : Plan} {k x : Nat} {p : List Nat} {V : World} {a A : Act} {m : List Bool} {o : Oper} (hr : rowAt tab p = some (m, [x])) (ho : l[x]? = some o) (hq : Gr.Quietly G F n P l V (pickB l m) a A)
  (h : ∀ W, Below V.heap.size V W → wpListIn F n P l.toArray (Exit.then (fun a' W' => a'.defers = A.defers ∧ G W W' ∧ wpTree G F n P l tail tab k (ins x p) W' a') (fun _ _ _ => False)) [o] A W) : wpTree G F n P l tail tab (k + 1) p V a :=
 ⟨m, [x], hr, A, hq, (fun e => by cases e), fun y hy => by obtain rfl := List.mem_singleton.1 hy; exact ⟨o, ho, h⟩⟩
theorem wpTree_two {tail : World → Act → Prop} {tab : Plan} {k x y : Nat} {p : List Nat} {V : World} {a A : Act} {m : List Bool} {o o' : Oper} (hr : rowAt tab p = some (m, [x, y])) (ho : l[x]? = some o) (ho' : l[y]? = some o') (hq : Gr.Quietly G F n P l V (pickB l m) a A)
  (h : ∀ W, Below V.heap.size V W → wpListIn F n P l.toArray (Exit.then (fun a' W' => a'.defers = A.defers ∧ G W W' ∧ wpTree G F n P l tail tab k (ins x p) W' a') (fun _ _ _ => False)) [o] A W)
  (h' : ∀ W, Below V.heap.size V W → wpListIn F n P l.toArray (Exit.then (fun a' W' => a'.defers = A.defers ∧ G W W' ∧ wpTree G F n P l tail tab k (ins y p) W' a') (fun _ _ _ => False)) [o'] A W) : wpTree G F n P l tail tab (k + 1) p V a :=
 ⟨m, [x, y], hr, A, hq, (fun e => by cases e), fun z hz => by
  rcases List.mem_cons.1 hz with rfl | hz
  ·exact ⟨o, ho, h⟩
  ·obtain rfl := List.mem_singleton.1 hz; exact ⟨o', ho', h'⟩⟩
def NextT (G : World → World → Prop) (F : Fence) (n : Nat) (P : Program) (l : List Oper) (tail : World → Act → Prop) (tab : Plan) (k : Nat) (p kids : List Nat) (V : World) (A : Act) : Prop :=
 (kids = [] → tail V A) ∧ ∀ x ∈ kids, ∃ o, l[x]? = some o ∧ ∀ W, Below V.heap.size V W →
   wpListIn F n P l.toArray (Exit.then (fun a' W' => a'.defers = A.defers ∧ G W W' ∧ wpTree G F n P l tail tab k (ins x p) W' a') (fun _ _ _ => False)) [o] A W
def AvT (G : World → World → Prop) (F : Fence) (n : Nat) (P : Program) (l : List Oper) (a0 : Act) (ys : List Nat) (V : World) (A : Act) (i : Nat) : Prop :=
 ∀ o, l[i]? = some o → ∃ pre post, ys = pre ++ i :: post ∧ ∀ C, Gr.Good G V C → ∃ LF, Mixed l (· ∈ pre) A a0 LF ∧ YieldsQuiet F n P l.toArray C o (valOf l A i) LF
section
variable {es : List Nat} {a0 : Act} {tail : World → Act → Prop} {tab : Plan}
theorem enter_core (ok : TreeOk l es) (hs : slotsM l a0.tmps.size = true) {ys qs : List Nat} {V : World} {A1 A : Act} (hp : PathOk l es (ys ++ qs)) (hA1 : Mixed l (· ∈ ys) A1 a0 A1) (hq : Gr.Quietly G F n P l V (pick l qs) A1 A) :
  Mixed l (· ∈ ys ++ qs) A a0 A ∧ (∀ i ∈ ys, ∀ t, dstAt l i = some t → A1.tmps.getD t undef = A.tmps.getD t undef) ∧ ∀ i ∈ qs, AvT G F n P l a0 (ys ++ qs) V A i := by
 have hslot : ∀ i, i < l.length → ∀ d, dstAt l i = some d → d < a0.tmps.size := fun i hi d hd => by
  have := List.all_eq_true.1 hs i (List.mem_range.2 hi)
  rw [hd] at this
  simpa using this
 have hnd := hp.nodup
 rw [List.nodup_append] at hnd
 obtain ⟨_, hnq, hdis⟩ := hnd
 have hcond : ∀ i ∈ qs, i < l.length ∧ ∃ d, dstAt l i = some d ∧ d < A1.tmps.size ∧ ∀ i' ∈ qs, dstAt l i' = some d → i' = i := fun i hi => by
  obtain ⟨h1, h3⟩ := hp.x i (by simp [hi])
  obtain ⟨d, h4, h5⟩ := ok.own i h1 h3
  exact ⟨h1, d, h4, by rw [hA1.size]; exact hslot i h1 d h4, fun i' hi' hd' => h5 i' (hp.x i' (by simp [hi'])).1 hd'⟩
 have S := fun (C : World → Prop) (hC : Gr.Good G V C) => quiet_seq (F := F) (n := n) (P := P) (l := l) (C := C) (A := A) qs A1 hcond hnq (hq.cls hC)
 obtain ⟨M, _⟩ := S _ (Gr.Good.above V)
 have same : ∀ i ∈ ys, ∀ t, dstAt l i = some t → A1.tmps.getD t undef = A.tmps.getD t undef := fun i hi t ht => by
  refine (M.out t fun i' hi' hd' => ?_).symm
  obtain ⟨h1, h3⟩ := hp.x i (by simp [hi])
  obtain ⟨d, h4, h5⟩ := ok.own i h1 h3
  rw [ht] at h4
  cases h4
  have := h5 i' (hp.x i' (by simp [hi'])).1 hd'
  subst this
  exact hdis i' hi i' hi' rfl
 have B := hA1.change same
 refine ⟨(M.trans B).congr (fun i => by simp [or_comm]), same, fun i hi o ho => ?_⟩
 obtain ⟨pre, post, e⟩ := List.append_of_mem hi
 refine ⟨ys ++ pre, post, by rw [e]; simp, fun C hC => ?_⟩
 obtain ⟨LF, h1, h2⟩ := (S C hC).2 pre i post e o ho
 exact ⟨LF, (h1.trans B).congr (fun k => by simp [or_comm]), h2⟩
theorem tree_enter (ok : TreeOk l es) (hs : slotsM l a0.tmps.size = true) {k : Nat} {p ys : List Nat} {V : World} {A1 : Act} (h : wpTree G F n P l tail tab k p V A1) (hB : pathB l es tab k p ys = true) (hp : PathOk l es ys) (hA1 : Mixed l (· ∈ ys) A1 a0 A1) :
  ∃ k' qs kids A, PathOk l es (ys ++ qs) ∧ KidsOk l es tab k' p (ys ++ qs) kids ∧ Mixed l (· ∈ ys ++ qs) A a0 A ∧ (∀ i ∈ ys, ∀ t, dstAt l i = some t → A1.tmps.getD t undef = A.tmps.getD t undef) ∧ (∀ i ∈ qs, AvT G F n P l a0 (ys ++ qs) V A i) ∧ NextT G F n P l tail tab k' p kids V A := by
 cases k with
 | zero => exact h.elim
 | succ k =>
  obtain ⟨m, kids, hr, A, hq, h1, h2⟩ := h
  obtain ⟨m', kids', hr', hm, hp', hk⟩ := pathOk hB hp
  rw [hr] at hr'
  cases hr'
  rw [pickB_all l m hm] at hq
  obtain ⟨a1, a2, a3⟩ := enter_core ok hs hp' hA1 hq
  exact ⟨k, idxs 0 m, kids, A, hp', hk, a1, a2, a3, h1, h2⟩
end
theorem wpIn_region_tree {Q : Exit → Act → World → Prop} {id : Nat} {a0 : Act} {w V0 : World} (tab : Plan) (fuel : Nat) (em : List Bool)
  (hm : P.follows .mixedOrders = true) (hB : (treeB l (idxs 0 em) && pathB l (idxs 0 em) tab fuel [] [] && decide (em.length ≤ l.length)) = true)
  (hs : slotsM l a0.tmps.size = true) (hV : Below V0.heap.size V0 w.drew)
  (h : wpTree G F n P l (fun V A => ∀ W, Below V.heap.size V W → wpT F n P l.toArray (Q .normal) (pickB l em) A W) tab fuel [] V0 a0) : (Code.region id l.toArray true).wpIn F n P Q a0 w := by
 simp only [Bool.and_eq_true, decide_eq_true_eq] at hB
 obtain ⟨⟨hB, hpb⟩, hem⟩ := hB
 have ok := treeOk hB
 obtain ⟨es, hes⟩ : ∃ es, idxs 0 em = es := ⟨_, rfl⟩
 rw [hes] at ok hpb
 have hpe : pickB l em = pick l es := by rw [← hes]; exact pickB_all l em hem
 have hnd : noDefer l.toArray := noDefer_of ok.nodef
 have hslot : ∀ i, i < l.length → ∀ d, dstAt l i = some d → d < a0.tmps.size := fun i hi d hd => by
  have := List.all_eq_true.1 hs i (List.mem_range.2 hi)
  rw [hd] at this
  simpa using this
 let tail : World → Act → Prop := fun V A => ∀ W, Below V.heap.size V W → wpT F n P l.toArray (Q .normal) (pickB l em) A W
 let StA : Array Bool → Act → World → Prop := fun listed a W => listed.size = l.length ∧ (∀ e ∈ es, listed.getD e false = false) ∧ ∃ (k : Nat) (p ys kids : List Nat) (A : Act) (V : World), PathOk l es ys ∧ KidsOk l es tab k p ys kids ∧ (∀ i, i < l.length → i ∉ ys → listed.getD i false = false) ∧ Mixed l (· ∈ ys) A a0 A ∧
  Mixed l (fun i => i ∈ ys ∧ listed.getD i false = true) A a0 a ∧ (∀ i ∈ ys, listed.getD i false = false → AvT G F n P l a0 ys V A i) ∧ Below V.heap.size V W ∧ NextT G F n P l tail tab k p kids V A
 let Miss : Array Bool → Tmp → Prop := fun listed t => ∃ i, i < l.length ∧ i ∉ es ∧ listed.getD i false = false ∧ dstAt l i = some t
 let StB : Array Bool → Act → World → Prop := fun listed a W => listed.size = l.length ∧ ∃ (A Ac : Act) (m : Nat) (ys : List Nat), PathOk l es ys ∧ (∀ i, i < l.length → i ∈ ys ∨ i ∈ es) ∧ m ≤ es.length ∧ (∀ e ∈ es.take m, listed.getD e false = true) ∧ (∀ e ∈ es.drop m, listed.getD e false = false) ∧ Rel (Miss listed) a Ac ∧ Ac.tmps.size = a0.tmps.size ∧
  (∀ i ∈ ys, ∀ t, dstAt l i = some t → Ac.tmps.getD t undef = A.tmps.getD t undef) ∧ (∀ t, (∀ i, i < l.length → dstAt l i ≠ some t) → Ac.tmps.getD t undef = a0.tmps.getD t undef) ∧
  (∀ i ∈ ys, listed.getD i false = false → ∀ o, l[i]? = some o → ∃ pre post LF, ys = pre ++ i :: post ∧ Mixed l (· ∈ pre) A a0 LF ∧ YieldsAll F P l.toArray o (valOf l A i) LF) ∧ wpT F n P l.toArray (Q .normal) (pick l (es.drop m)) Ac W
 have setD : ∀ (listed : Array Bool) (i i' : Nat), listed.size = l.length → i < l.length → (listed.setIfInBounds i true).getD i' false = done (fun i => listed.getD i false) i i' := fun listed i i' hsz hi => by
  unfold done
  by_cases e : i' = i
  ·subst e
   rw [if_pos rfl, Array.getD_eq_getD_getElem?, Array.getElem?_setIfInBounds]
   have : i' < listed.size := by omega
   simp [this]
  ·rw [if_neg e, getD_set_ne false (Ne.symm e)]
 have mixS : ∀ (listed : Array Bool) (i : Nat) (ys : List Nat), listed.size = l.length → i < l.length → i ∈ ys → ∀ k, ((k ∈ ys ∧ listed.getD k false = true) ∨ k = i) ↔ (k ∈ ys ∧ (listed.setIfInBounds i true).getD k false = true) := fun listed i ys hsz hi hix k => by
  rw [setD listed i k hsz hi]
  unfold done
  by_cases e : k = i
  ·subst e; simp [hix]
  ·simp [e]
 -- what an operation reads
 have agreeA : ∀ {listed : Array Bool} {A LF a1 : Act} {ys pre post : List Nat} {i : Nat} {o : Oper}, PathOk l es ys → l[i]? = some o → ys = pre ++ i :: post → (∀ i', afterB l i i' = true → listed.getD i' false = true) →
   Mixed l (· ∈ pre) A a0 LF → Mixed l (fun i => i ∈ ys ∧ listed.getD i false = true) A a0 a1 → ∀ t ∈ o.looksAt l.toArray, LF.tmps.getD t undef = a1.tmps.getD t undef := by
  intro listed A LF a1 ys pre post i o hp hol hx hwait hLF hM t ht
  by_cases hex : ∃ i', i' < l.length ∧ dstAt l i' = some t
  ·obtain ⟨i', hi', hd⟩ := hex
   obtain ⟨h1, h2⟩ := hp.deps pre i post hx o hol t ht i' hi' hd
   have hix : i' ∈ ys := by rw [hx]; simp [h2]
   rw [hLF.in_ i' h2 t hd, hM.in_ i' ⟨hix, hwait i' h1⟩ t hd]
  ·have hno : ∀ i', i' < l.length → dstAt l i' ≠ some t := fun i' hi' hd => hex ⟨i', hi', hd⟩
   rw [hLF.out t (fun i' hi' => hno i' (hp.x i' (by rw [hx]; simp [hi'])).1), hM.out t (fun i' hi' => hno i' (hp.x i' hi'.1).1)]
 have toB : ∀ listed a W, StA listed a W → (∀ i, i < l.length → i ∉ es → listed.getD i false = false → ∀ o, l[i]? = some o → lateB o = true) → StB listed a W := by
  rintro listed a W ⟨hsz, hesl, k, p, ys, kids, A, V, hp, hk, hlater, hA, hM, hav, hc, hnext⟩ hfl
  have hnil : kids = [] := by
   cases hkk : kids with
   | nil => rfl
   | cons x r =>
    obtain ⟨h1, h2, h3, _, h4, _⟩ := hk.kid x (by rw [hkk]; simp)
    have ho : l[x]? = some l[x] := List.getElem?_eq_getElem h1
    have := hfl x h1 h2 (hlater x h1 h3) _ ho
    rw [h4 _ ho] at this
    cases this
  have hall := hk.all hnil
  have hw := hnext.1 hnil W hc
  rw [hpe] at hw
  refine ⟨hsz, A, A, 0, ys, hp, hall, Nat.zero_le _, (fun e he => by simp at he), (fun e he => hesl e (by simpa using he)), ⟨?_, ?_, fun t ht' => ?_⟩, hA.size, fun i hi t hd => rfl, fun t hno => hA.out t fun i hi => hno i (hp.x i hi).1, fun i hi hf o ho => ?_, by simpa using hw⟩
  ·rw [hM.defers, hA.defers]
  ·rw [hM.size, hA.size]
  ·by_cases hex : ∃ i ∈ ys, dstAt l i = some t
   ·obtain ⟨i, hi, hd⟩ := hex
    have hl : listed.getD i false = true := by
     cases hc' : listed.getD i false with
     | true => rfl
     | false => exact absurd ⟨i, (hp.x i hi).1, (hp.x i hi).2, hc', hd⟩ ht'
    exact hM.in_ i ⟨hi, hl⟩ t hd
   ·rw [hM.out t (fun i hi hd => hex ⟨i, hi.1, hd⟩), hA.out t (fun i hi hd => hex ⟨i, hi, hd⟩)]
  ·obtain ⟨pre, post, e1, e3⟩ := hav i hi hf o ho
   obtain ⟨LF, h3, h4⟩ := e3 _ (Gr.Good.above V)
   exact ⟨pre, post, LF, e1, h3, late_yields (hfl i (hp.x i hi).1 (hp.x i hi).2 hf o ho) ⟨V, Grows.refl _⟩ h4⟩
 let St : Array Bool → Act → World → Prop := fun listed a W => StA listed a W ∨ StB listed a W
 have stepB : ∀ listed a W i o, l[i]? = some o → listed.getD i true = false → (∀ i', afterB l i i' = true → listed.getD i' false = true) → StB listed a W → wpListIn F n P l.toArray (Exit.then (St (listed.setIfInBounds i true)) Q) [o] a W := by
  rintro listed a W i o hol hu hwait ⟨hsz, A, Ac, m, ys, hp, hall, hm', ht, hdp, hR, hAcs, hAcx, hAco, hfl, hwp⟩
  have hi : i < l.length := (List.getElem?_eq_some_iff.1 hol).1
  have hfalse : listed.getD i false = false := getD_both hu
  have hsel : ∀ cs b, o.op ≠ .select cs b := fun cs b => Region.noSelect_spec ok.nosel i o cs b (by simpa using hol)
  by_cases hie : i ∈ es
  ·have hmem : i ∈ es.drop m := by
    rcases (List.mem_append.1 (by rw [List.take_append_drop]; exact hie : i ∈ es.take m ++ es.drop m)) with h | h
    ·rw [ht i h] at hfalse; cases hfalse
    ·exact h
   have hml : m < es.length := by
    rcases Nat.lt_or_ge m es.length with h | h
    ·exact h
    ·rw [List.drop_of_length_le h] at hmem; cases hmem
   have hdrop : es.drop m = es[m] :: es.drop (m + 1) := List.drop_eq_getElem_cons hml
   have hie' : i = es[m] := by
    rw [hdrop] at hmem
    rcases List.mem_cons.1 hmem with h | h
    ·exact h
    ·exfalso
     have hlt : es[m] < i := by
      have hp := ok.upE.sublist (List.drop_sublist m es)
      rw [hdrop, List.pairwise_cons] at hp
      exact hp.1 i h
     have h1 := hwait _ (ok.chain i hie es[m] (List.getElem_mem _) hlt)
     rw [hdp es[m] (by rw [hdrop]; exact List.mem_cons_self)] at h1
     cases h1
   rw [hdrop, ← hie', pick_cons hol] at hwp
   have hdn : o.dst = none := by
    have := ok.edst i hie
    unfold dstAt at this
    rw [hol] at this
    exact this
   refine wpListIn_rel hsel (hnd i o (by simpa using hol)) hdn hR (fun t ht' => ?_) hwp ?_
   ·rintro ⟨i2, h5, _, h6, h7⟩
    rw [hwait _ (ok.depsE i hie o hol t ht' i2 h5 h7)] at h6
    cases h6
   ·rintro A' a' W' eA ea ed hwp'
    refine .inr ⟨by simpa using hsz, A, A', m + 1, ys, hp, hall, hml, fun e he => ?_, fun e he => ?_, ?_, by rw [eA]; exact hAcs, by rw [eA]; exact hAcx, by rw [eA]; exact hAco, fun i' hi' hf => ?_, hwp'⟩
    ·rw [setD _ _ _ hsz hi]; unfold done; split
     ·rfl
     ·rename_i hne
      rw [List.take_succ_eq_append_getElem hml] at he
      rcases List.mem_append.1 he with h | h
      ·exact ht e h
      ·exact absurd ((List.mem_singleton.1 h).trans hie'.symm) hne
    ·rw [setD _ _ _ hsz hi]; unfold done
     have hne : e ≠ i := fun e' => by
      have hp := ok.upE.sublist (List.drop_sublist m es)
      rw [hdrop, List.pairwise_cons] at hp
      have := hp.1 e he
      omega
     rw [if_neg hne]
     exact hdp e (by rw [hdrop]; exact List.mem_cons_of_mem _ he)
    ·refine ⟨ed, by rw [ea, eA]; exact hR.size, fun t ht' => ?_⟩
     rw [ea, eA]
     refine hR.same t fun ⟨i2, h5, h5', h6, h7⟩ => ht' ⟨i2, h5, h5', ?_, h7⟩
     rw [setD _ _ _ hsz hi]; unfold done
     rw [if_neg (fun e' => by subst e'; exact h5' hie)]
     exact h6
    ·rw [setD _ _ _ hsz hi] at hf
     unfold done at hf
     split at hf
     ·cases hf
     ·exact hfl i' hi' hf
  ·have hix : i ∈ ys := (hall i hi).resolve_right hie
   obtain ⟨pre, post, LF, hx, hLF, hy⟩ := hfl i hix hfalse o hol
   have hag : ∀ t ∈ o.looksAt l.toArray, LF.tmps.getD t undef = a.tmps.getD t undef := fun t ht' => by
    by_cases hex : ∃ i', i' < l.length ∧ dstAt l i' = some t
    ·obtain ⟨i', hi', hd⟩ := hex
     obtain ⟨h1, h2⟩ := hp.deps pre i post hx o hol t ht' i' hi' hd
     have hix' : i' ∈ ys := by rw [hx]; simp [h2]
     rw [hLF.in_ i' h2 t hd, hR.same t (fun ⟨i2, h5, h5', h6, h7⟩ => by
      obtain ⟨d, h8, h9⟩ := ok.own i' hi' (hp.x i' hix').2
      rw [hd] at h8
      cases h8
      have := h9 i2 h5 h7
      subst this
      rw [hwait _ h1] at h6
      cases h6), hAcx i' hix' t hd]
    ·have hno : ∀ i', i' < l.length → dstAt l i' ≠ some t := fun i' hi' hd => hex ⟨i', hi', hd⟩
     rw [hLF.out t (fun i' hi' => hno i' (hp.x i' (by rw [hx]; simp [hi'])).1), hR.same t (fun ⟨i2, h5, _, _, h7⟩ => hno i2 h5 h7), hAco t hno]
   have hya := hy.agree hsel (hLF.size.trans (hAcs.symm.trans hR.size.symm)) hag
   obtain ⟨d, hdi, huniq⟩ := ok.own i hi hie
   have hdo : o.dst = some d := by unfold dstAt at hdi; rw [hol] at hdi; exact hdi
   have hnext : St (listed.setIfInBounds i true) (a.put o.dst (valOf l A i)) W := by
    refine .inr ⟨by simpa using hsz, A, Ac, m, ys, hp, hall, hm', fun e he => ?_, fun e he => ?_, ?_, hAcs, hAcx, hAco, fun i' hi' hf => ?_, hwp⟩
    ·rw [setD _ _ _ hsz hi]; unfold done; split
     ·rfl
     ·exact ht e he
    ·rw [setD _ _ _ hsz hi]; unfold done; rw [if_neg (fun e' => by subst e'; exact hie (List.mem_of_mem_drop he))]; exact hdp e he
    ·rw [hdo]
     refine ⟨hR.defers, by rw [← hR.size]; simp [Act.put], fun t ht' => ?_⟩
     by_cases e : t = d
     ·subst e
      rw [show (a.put (some t) (valOf l A i)).tmps = a.tmps.setIfInBounds t (valOf l A i) from rfl, getD_set_same _ _ _ (by rw [hR.size, hAcs]; exact hslot i hi t hdi), hAcx i hix t hdi]
      unfold valOf; rw [hdi]; rfl
     ·rw [show (a.put (some d) (valOf l A i)).tmps = a.tmps.setIfInBounds d (valOf l A i) from rfl, getD_set_other _ _ (Ne.symm e)]
      refine hR.same t fun ⟨i2, h5, h5', h6, h7⟩ => ht' ⟨i2, h5, h5', ?_, h7⟩
      rw [setD _ _ _ hsz hi]; unfold done
      rw [if_neg (fun e' => by subst e'; rw [hdi] at h7; exact e (Option.some.inj h7).symm)]
      exact h6
    ·rw [setD _ _ _ hsz hi] at hf
     unfold done at hf
     split at hf
     ·cases hf
     ·exact hfl i' hi' hf
   simp only [wpListIn]
   rcases hya.2 with ⟨hw, hv⟩ | ⟨hw, hv⟩
   ·rw [if_pos hw]
    unfold Oper.wpIn
    refine ⟨hya.1 W, ?_⟩
    rw [Oper.semAt_eq _ _ _ (hnd i o (by simpa using hol)), hv W]
    exact hnext
   ·rw [if_neg (by rw [hw]; simp)]
    refine ⟨hya.1 W, ?_⟩
    rw [hv] at hnext
    exact hnext
 refine wpIn_region_inv hm St ?_ ?_ ?_ ?_
 ·rintro listed a W (⟨h, _⟩ | ⟨h, _⟩) <;> simpa using h
 ·obtain ⟨k', qs, kids, A, hp, hk, hA, _, hav, hnext⟩ := tree_enter (G := G) (F := F) (n := n) (P := P) (tail := tail) (a0 := a0) ok hs h hpb PathOk.nil (Mixed.nil (by simp))
  have hrep : ∀ i, (Array.replicate l.toArray.size false).getD i false = false := fun i => getD_replicate_false _ _
  exact .inl ⟨by simp, fun e _ => hrep e, k', [], qs, kids, A, V0, by simpa using hp, by simpa using hk, fun i _ _ => hrep i, by simpa using hA, Mixed.nil (fun i hi => by rw [hrep i] at hi; cases hi.2), fun i hi _ => by simpa using hav i hi, hV, hnext⟩
 ·rintro listed a W i o ho hu hd hst
  have hol : l[i]? = some o := by simpa using ho
  have hi : i < l.length := (List.getElem?_eq_some_iff.1 hol).1
  have hwait : ∀ i', afterB l i i' = true → listed.getD i' false = true := fun i' h => by
   unfold afterB at h
   rw [hol] at h
   obtain ⟨e, he, h2⟩ := List.any_eq_true.1 h
   simp only [Bool.and_eq_true, beq_iff_eq] at h2
   rw [← h2.1]
   exact hd e (by simpa using he) h2.2
  rcases hst with hA0 | hBB
  ·obtain ⟨hsz, hesl, k, p, ys, kids, A, V, hp, hk, hlater, hA, hM, hav, hc, hnext⟩ := hA0
   have hfalse : listed.getD i false = false := getD_both hu
   have hsel : ∀ cs b, o.op ≠ .select cs b := fun cs b => Region.noSelect_spec ok.nosel i o cs b ho
   by_cases hie : i ∈ es
   ·refine stepB listed _ W i o hol hu hwait (toB listed _ W ⟨hsz, hesl, k, p, ys, kids, A, V, hp, hk, hlater, hA, hM, hav, hc, hnext⟩ fun i' hi' hne' hf o' ho' => ?_)
    rcases ok.late i' hi' hne' o' ho' with h | h
    ·exact h
    ·rw [hwait i' (h i hie)] at hf
     cases hf
   ·obtain ⟨d, hdi, hun⟩ := ok.own i hi hie
    have hdo : o.dst = some d := by unfold dstAt at hdi; rw [hol] at hdi; exact hdi
    have e1 : ∀ e ∈ es, (listed.setIfInBounds i true).getD e false = false := fun e he => by
     rw [setD _ _ _ hsz hi]; unfold done
     rw [if_neg (fun e' => by subst e'; exact hie he)]
     exact hesl e he
    by_cases hy : i ∈ ys
    ·-- quiet
     obtain ⟨pre, post, hp1, hp3⟩ := hav i hy hfalse o hol
     obtain ⟨LF, hLF, hyq⟩ := hp3 (fun W => Below V.heap.size V W) ⟨⟨W, hc⟩, fun _ h => Grows.below h, fun W W' h k => h.trans (k.mono h.size)⟩
     have hag := agreeA hp hol hp1 hwait hLF hM
     have hya := yields_agree hsel (hLF.size.trans hM.size.symm) hag hyq
     have hval : valOf l A i = A.tmps.getD d undef := by unfold valOf; rw [hdi]; rfl
     have hnx : ∀ W', Below V.heap.size V W' → St (listed.setIfInBounds i true) (a.put o.dst (valOf l A i)) W' := fun W' hW' => by
      refine .inl ⟨by simpa using hsz, e1, k, p, ys, kids, A, V, hp, hk, fun q hq hqy => ?_, hA, by rw [hdo, hval]; exact (hM.step hdi (fun i' hi' hd' => hun i' (hp.x i' hi'.1).1 hd') (hslot i hi d hdi)).congr (mixS listed i ys hsz hi hy), fun q hq hf => ?_, hW', hnext⟩
      ·rw [setD _ _ _ hsz hi]; unfold done
       rw [if_neg (fun e' => by subst e'; exact hqy hy)]
       exact hlater q hq hqy
      ·rw [setD _ _ _ hsz hi] at hf
       unfold done at hf
       split at hf
       ·cases hf
       ·exact hav q hq hf
     simp only [wpListIn]
     rcases hya.2 with ⟨hw, hv⟩ | ⟨hw, hv⟩
     ·rw [if_pos hw]
      exact wpIn_of_quiet' (K := fun a' => a' = a.put o.dst (valOf l A i)) (hnd i o ho) hc (fun a' W' hW' ha' => by subst ha'; exact hnx W' hW') hya.1 ⟨_, hv, rfl⟩
     ·rw [if_neg (by rw [hw]; simp)]
      refine ⟨hya.1 W hc, ?_⟩
      have := hnx W hc
      rw [hv] at this
      exact this
    ·-- the next one
     have hik : i ∈ kids := by
      refine Classical.byContradiction fun hno => ?_
      obtain ⟨k', h1, h2⟩ := hk.wait i hi hy hie hno
      have h3 := hwait k' h2
      rcases Nat.lt_or_ge k' l.length with h4 | h4
      ·rw [hlater k' h4 h1] at h3; cases h3
      ·rw [Array.getD_eq_getD_getElem?, Array.getElem?_eq_none (by omega)] at h3; cases h3
     obtain ⟨_, _, _, hrd, hlt, hpb'⟩ := hk.kid i hik
     obtain ⟨ox, hox, hwx⟩ := hnext.2 i hik
     obtain rfl : ox = o := Option.some.inj (hox.symm.trans hol)
     have hp' : PathOk l es (ys ++ [i]) := hp.snoc hi hie hy hrd
     have hM' : Mixed l (fun q => q ∈ ys ++ [i] ∧ listed.getD q false = true) A a0 a := hM.congr (fun q => by
      constructor
      ·rintro ⟨h1, h2⟩; exact ⟨by simp [h1], h2⟩
      ·rintro ⟨h1, h2⟩
       rcases List.mem_append.1 h1 with h1 | h1
       ·exact ⟨h1, h2⟩
       ·rw [List.mem_singleton.1 h1, hfalse] at h2; cases h2)
     have hag := agreeA hp' hol (show ys ++ [i] = ys ++ i :: [] from rfl) hwait hA hM'
     refine wpListIn_relD hsel (hnd i ox ho) (by rw [hM.size, hA.size]) hag (hwx W hc) ?_
     rintro A' a' W' v eA ea ed ⟨hdf, hbW, hfl⟩
     have eA' : A' = A.put (some d) v := by
      obtain ⟨t1, d1⟩ := A'
      rw [hdo] at eA
      simp only at eA hdf
      subst eA hdf
      rfl
     have ea' : a' = a.put (some d) v := by
      obtain ⟨t1, d1⟩ := a'
      rw [hdo] at ea
      have h5 := ed hdf
      simp only at ea h5
      subst ea h5
      rfl
     rw [eA'] at hfl
     have hA1 : Mixed l (· ∈ ys ++ [i]) (A.put (some d) v) a0 (A.put (some d) v) := by
      have hpt : (A.put (some d) v).tmps = A.tmps.setIfInBounds d v := rfl
      refine ⟨hA.defers, by rw [hpt]; simpa using hA.size, fun _ _ _ _ => rfl, fun t ht => ?_⟩
      rw [hpt, getD_set_other _ _ (fun e => ht i (by simp) (by rw [hdi, e]))]
      exact hA.out t fun k hk => ht k (by simp [hk])
     obtain ⟨k2, qs, kids2, A2, hp2, hk2, hA2, hsame, hav2, hnext2⟩ := tree_enter (G := G) (F := F) (n := n) (P := P) (tail := tail) (a0 := a0) ok hs hfl hpb' hp' hA1
     have hbV : G V W' := Grows.trans (Grows.below hc) hbW
     have hdv : (A.put (some d) v).tmps.getD d undef = v := getD_set_same _ _ _ (by rw [hA.size]; exact hslot i hi d hdi)
     have hold : ∀ k ∈ ys, ∀ t, dstAt l k = some t → A.tmps.getD t undef = A2.tmps.getD t undef := fun k hk t hd => by
      rw [← hsame k (by simp [hk]) t hd]
      refine (getD_set_other _ _ (fun e => ?_)).symm
      subst e
      have := hun k (hp.x k hk).1 hd
      subst this
      exact hy hk
     have hM2 : Mixed l (fun q => q ∈ ys ++ [i] ++ qs ∧ (listed.setIfInBounds i true).getD q false = true) A2 a0 (a.put (some d) v) := by
      have h6 := (hM.change (A' := A2) (fun k hk t hd => hold k hk.1 t hd)).step hdi (fun i' hi' hd' => hun i' (hp.x i' hi'.1).1 hd') (hslot i hi d hdi)
      have h7 : A2.tmps.getD d undef = v := by rw [← hsame i (by simp) d hdi]; exact hdv
      rw [h7] at h6
      refine h6.congr (fun q => ?_)
      rw [setD listed i q hsz hi]
      unfold done
      by_cases e : q = i
      ·subst e; simp
      ·simp only [e, if_false, or_false]
       constructor
       ·rintro ⟨h8, h9⟩; exact ⟨by simp [h8], h9⟩
       ·rintro ⟨h8, h9⟩
        refine ⟨?_, h9⟩
        refine Classical.byContradiction fun hno => ?_
        have hql := (hp2.x q h8).1
        rw [hlater q hql hno] at h9
        cases h9
     refine .inl ⟨by simpa using hsz, e1, k2, ins i p, ys ++ [i] ++ qs, kids2, A2, W', hp2, hk2, fun q hq hqy => ?_, hA2, by rw [ea']; exact hM2, fun q hq hf => ?_, Below.refl _ _, hnext2⟩
     ·rw [setD _ _ _ hsz hi]; unfold done
      rw [if_neg (fun e' => by subst e'; exact hqy (by simp))]
      exact hlater q hq (fun h => hqy (by simp [h]))
     ·rw [setD _ _ _ hsz hi] at hf
      unfold done at hf
      split at hf
      ·cases hf
      ·rename_i hki
       rcases List.mem_append.1 hq with hq | hq
       ·have hq' : q ∈ ys := by
         rcases List.mem_append.1 hq with h | h
         ·exact h
         ·exact absurd (List.mem_singleton.1 h) hki
        intro o' ho'
        obtain ⟨pre, post, q1, q3⟩ := hav q hq' hf o' ho'
        refine ⟨pre, post ++ [i] ++ qs, by rw [q1]; simp, fun C hC => ?_⟩
        obtain ⟨LF, q4, q5⟩ := q3 C (hC.up hbV)
        have hkv : valOf l A q = valOf l A2 q := by
         obtain ⟨dk, g1, _⟩ := ok.own q (hp.x q hq').1 (hp.x q hq').2
         unfold valOf
         rw [g1]
         exact hold q hq' dk g1
        exact ⟨LF, q4.change (fun k2 hk2 t hd => hold k2 (by rw [q1]; simp [hk2]) t hd), by rw [← hkv]; exact q5⟩
       ·exact hav2 q hq
  ·exact stepB listed a W i o hol hu hwait hBB
 ·rintro listed a W hr hst
  have hal : ∀ i, i < l.length → listed.getD i false = true := by
   rcases hst with ⟨h, _⟩ | ⟨h, _⟩ <;> exact fun i hi => ready_nil_all ok.back (by simpa using h) hr i (by simpa using hi)
  have hBB : StB listed a W := by
   rcases hst with h | h
   ·exact toB listed a W h (fun i hi _ hf => by rw [hal i hi] at hf; cases hf)
   ·exact h
  obtain ⟨hsz, A, Ac, m, ys, hp, hall, hm', ht, hdp, hR, hAcs, hAcx, hAco, hfl, hwp⟩ := hBB
  have hnil : es.drop m = [] := by
   cases h : es.drop m with
   | nil => rfl
   | cons e r =>
    have h1 := hdp e (by rw [h]; simp)
    rw [hal e (ok.e e (List.mem_of_mem_drop (by rw [h]; simp)))] at h1
    cases h1
  rw [hnil] at hwp
  have hEq : a = Ac := by
   obtain ⟨t, d⟩ := a
   obtain ⟨t', d'⟩ := Ac
   have e1 : d = d' := hR.defers
   have s1 : t.size = t'.size := hR.size
   have e2 : t = t' := by
    apply Array.ext s1
    intro i h1 h2
    have := hR.same i (fun ⟨i2, h5, _, h6, _⟩ => by rw [hal i2 h5] at h6; cases h6)
    simpa [h1, h2] using this
   rw [e1, e2]
  subst hEq
  exact hwp
end
end Tr
section
open Go.RowKit Go.Shelf
attribute [local go_sem] Oper.semAt_some
instance kpr_grows (n0 n1 : Nat) : Gr.Grows (KpR n0 n1) where
 refl := fun W => ⟨Nat.le_refl _, fun _ _ _ h _ => h⟩
 trans := fun h k => KpR.trans h k
 below := fun h => KpR.of_below h
 size := fun h => h.1
set_option maxRecDepth 100000 in
set_option maxHeartbeats 8000000 in
theorem round1_seq (r gl gb gst : Nat) (u : Int) (t : Town) (dk : Bool) (lm : List (P2 × Leg)) (A2 : Option Addr) (n2 c2 : Nat) (st : List Int) (w w0 : World) (hb : Below w.heap.size w w0)
  (hg : GoodT t) (hpl : ∀ v ∈ u :: st, v ∈ t.places) (hnd : st.Nodup) (h6 : st.length ≤ 6)
  (hl : LegsAt w r t dk (u :: st) lm) (hbl : Blk w gl 127 #[.map (some r)]) (hbb : Blk w gb 3 #[.int .i64 u]) (hbs : Blk w gst 22 #[.slice A2 n2 c2]) (hr : IntsAt w w.heap.size A2 n2 st) :
  SeqAt Fence.wide 8 Tryz.prog 77 #[.pointer (some ⟨gl, 0, none⟩), .pointer (some ⟨gb, 0, none⟩), .pointer (some ⟨gst, 0, none⟩)] (fun x : Rd => #[x.val]) (AtR w.heap.size w0.heap.size) (KpR w.heap.size w0.heap.size)
   (fun xs => xs.map Rd.rnd = dfs (legF t dk) u st.length [] u (0, 0) (upI st)) w0 := by
 intro l' J W hW hJ hY h0
 have hn2 : st.length = n2 := hr.len
 have hbW : Below w.heap.size w W := hb.trans (hW.mono hb.size)
 have HLG := lh (show LegsAt W r t dk (u :: st) lm from ⟨hl.map.below hbW hl.map.lt, hl.look⟩)
 have hrlt := hl.map.lt
 have HBL := lh (hbl.below hbW hbl.lt)
 have hgl := hbl.lt
 have HBB := lh (hbb.below hbW hbb.lt)
 have hgb := hbb.lt
 have HBS := lh (hbs.below hbW hbs.lt)
 have hgs := hbs.lt
 have HR := lh (hr.below hbW)
 have HY := lh hY
 have HJ := lh hJ
 have H0 := lh h0
 have hsz : w.heap.size ≤ w0.heap.size := hb.size
 have hsW : w0.heap.size ≤ W.heap.size := hW.size
 have HPL := lh hpl
 have HND := lh hnd
 have HN2 := lh hn2
 have h6n : n2 ≤ 6 := by omega
 clear hl hbl hbb hbs hr hY hJ h0 hb hW hbW hpl hnd hn2 h6
 refine callsIn_of_wp Tryz.func77 rfl trivial ?_ rfl
 simp only [Tryz.ntmps77, List.size_toArray, List.length_cons, List.length_nil, Nat.reduceAdd, Nat.reduceSub, Array.replicate_succ, Array.replicate_zero, List.push_toArray, List.append_toArray, List.nil_append, List.cons_append]
 gi_upto_region 3 with fail
 have L0 := Lay.two W 134 #[.func (.yield l') #[] #[]] 135 #[.func (.func 78) #[] #[.pointer (some ⟨gl, 0, none⟩), .pointer (some ⟨gb, 0, none⟩), .pointer (some ⟨W.heap.size, 0, none⟩), .pointer (some ⟨W.heap.size + 1, 0, none⟩)]]
 generalize ((W.alloc (.cells #[.func (.yield l') #[] #[]] 134)).alloc (.cells #[.func (.func 78) #[] #[.pointer (some ⟨gl, 0, none⟩), .pointer (some ⟨gb, 0, none⟩), .pointer (some ⟨W.heap.size, 0, none⟩), .pointer (some ⟨W.heap.size + 1, 0, none⟩)]] 135)) = W1 at *
 have HL1 := lh L0
 have HBX := lh (show TryBox l' r gl gb W.heap.size (W.heap.size + 1) u t dk (u :: st) lm W1 from ⟨⟨HLG.out.map.below L0.1 HLG.out.map.lt, HLG.out.look⟩, HBL.out.below L0.1 HBL.out.lt, HBB.out.below L0.1 HBB.out.lt, L0.blk 0 rfl, L0.blk 1 rfl⟩)
 have HBS1 := lh (HBS.out.below L0.1 HBS.out.lt)
 have HR1 := lh (HR.out.below (L0.1.mono (by omega)))
 have HP := lh (show TryPl w.heap.size w0.heap.size r gl gb W.heap.size (W.heap.size + 1) from ⟨hrlt, hgl, hgb, hsW, by omega⟩)
 clear L0
 refine Tr.wpIn_region_tree (G := KpR w.heap.size w0.heap.size) (V0 := W1) [([], [true, true, true, true], [4]), ([4], [], [5]), ([4, 5], [], [6]), ([4, 5, 6], [], [])] 4 [] (by kernel_rfl) (by kernel_rfl) (by kernel_rfl) (below_drewN (Below.refl _ _) 1) ?_
 refine Tr.wpTree_one (A := ?AF1) rfl rfl ?hq1 ?_
 case hq1 =>
  rintro σ hσ of hof hcl
  have HOF := lh hof
  have HCL := lh hcl
  clear hof hcl
  have c0 : ∀ z, (of z).cell? ⟨W.heap.size + 1, 0, none⟩ = some (.func (.func 78) #[] #[.pointer (some ⟨gl, 0, none⟩), .pointer (some ⟨gb, 0, none⟩), .pointer (some ⟨W.heap.size, 0, none⟩), .pointer (some ⟨W.heap.size + 1, 0, none⟩)]) := fun z => (HBX.out.kp HP.out (HOF.out z)).bt.cell 0
  have c1 : ∀ z, (of z).cell? ⟨gb, 0, none⟩ = some (.int .i64 u) := fun z => (HBX.out.kp HP.out (HOF.out z)).bb.cell 0
  have c2 : ∀ z, (of z).cell? ⟨gst, 0, none⟩ = some (.slice A2 n2 c2) := fun z => ((HOF.out z).blk (.inl hgs) HBS1.out).cell 0
  have hfw := hfT
  simp only [pickB]
  repeat (gi_big_quiet_step (fail))
  refine wpQuietIn_nil ?_
  exact rfl
 intro W2 hW2
 have HB2 := lh (show Below W1.heap.size W1 W2 from hW2)
 clear hW2
 gi_wp2
 refine ⟨trivial, (callsIn_wide.2 (values_any A2 n2 c2 W2)).mono ?_⟩
 rintro e W3 ⟨rfl, rfl⟩
 have hb3 : Below W2.heap.size W2 (W2.alloc (.cells #[.slice A2 n2 c2] 22)) := (Below.refl _ _).alloc (Nat.le_refl _) _
 have HBV := lh (Blk.new W2 22 #[.slice A2 n2 c2])
 have HB3 := lh hb3
 generalize hG3 : W2.heap.size = G3 at *
 generalize (W2.alloc (.cells #[.slice A2 n2 c2] 22)) = W3 at *
 gi_wp2
 first | refine ⟨trivial, KpR.of_below (by rw [hG3]; exact HB3.out), ?_⟩ | refine ⟨KpR.of_below (by rw [hG3]; exact HB3.out), ?_⟩
 refine Tr.wpTree_one (m := []) rfl rfl Gr.Quietly.none ?_
 intro W4 hW4
 have HB4 := lh (show Below W1.heap.size W1 W4 from HB2.out.trans ((HB3.out.mono (by rw [← hG3]; exact HB2.out.size)).trans (hW4.mono (by have h1 := HB3.out.size; have h2 := HB2.out.size; omega))))
 have HBV4 := lh (HBV.out.below hW4 HBV.out.lt)
 clear hW4 hb3
 gi_wp2
 refine ⟨trivial, (callsIn_wide.2 (sorted_any G3 A2 n2 c2 st W4 (by omega) HBV4.out ((HR1.out.below (HB4.out.mono (by have h1 := HL1.out.1.size; omega))).more (by have h1 := HL1.out.1.size; have h2 := HB4.out.size; omega)))).mono ?_⟩
 rintro e W5 ⟨B, q, rfl, hO, hb5⟩
 have HO := lh hO
 have HB5 := lh hb5
 clear hO hb5
 gi_wp2
 first | refine ⟨trivial, KpR.of_below HB5.out, ?_⟩ | refine ⟨KpR.of_below HB5.out, ?_⟩
 refine Tr.wpTree_one (m := []) rfl rfl Gr.Quietly.none ?_
 intro W6 hW6
 have HB6 := lh (show Below W1.heap.size W1 W6 from HB4.out.trans ((HB5.out.trans (hW6.mono HB5.out.size)).mono HB4.out.size))
 have HO6 := lh (HO.out.below hW6 (Nat.le_refl _))
 clear hW6
 gi_wp2
 refine ⟨trivial, (callsIn_wide.2 (callsIn_wide.1 (try_in l' w.heap.size w0.heap.size r gl gb W.heap.size (W.heap.size + 1) u t dk (u :: st) lm J HJ.out HP.out hsz hg HPL.out (by simp) (fun m pre x V hj hat => YieldAt.deep m ((HY.out pre x V hj hat)))
  st.length none 0 0 [] u 0 0 B q (upI st) [] W6 (HBX.out.kp HP.out (KpR.of_below HB6.out)) (HJ.out _ _ _ H0.out (HL1.out.1.trans (HB6.out.mono HL1.out.1.size))) Reads.none_ (fun a ha => by cases ha) (by have := HN2.out; omega)
  (ints_of_own HO6.out (Nat.le_refl _)) (fun a ha => by have h1 := (HO6.out.lt ha).1; have h2 := HB4.out.size; have h3 := HL1.out.1.size; omega) (by have h2 := HB6.out.size; have h3 := HL1.out.1.size; omega) (by simp) (fun v hv => List.mem_cons_of_mem _ ((upI_perm st).mem_iff.1 hv)) ((upI_perm st).nodup_iff.2 HND.out)
  ⟨by omega, by have := HN2.out; omega⟩ ⟨by omega, by have := HN2.out; omega⟩))).mono ?_⟩
 rintro e W7 ⟨rfl, xs, hxs, hJ7, hk7⟩
 gi_wp2
 first | refine ⟨trivial, hk7, ?_⟩ | refine ⟨hk7, ?_⟩
 refine Tr.wpTree_end (m := []) rfl Gr.Quietly.none ?_
 intro W8 hW8
 have HJ8 := HJ.out _ _ _ hJ7 hW8
 simp only [pickB]
 refine wpT_nil ?_
 gi_wp2
 go_end0
 exact ⟨⟨_, rfl⟩, xs, hxs, HJ8⟩
end
section
open Go.RowKit Go.Shelf
def roundR (t : Town) (u : Int) (st : List Int) (dk : Bool) : Option Rnd := if roundE t u st = 0 then bestG (legF t dk) u (upI st) else none
def roundX (t : Town) (u : Int) (st : List Int) (dk : Bool) : Int := if roundE t u st = 0 then (if (roundR t u st dk).isSome then 0 else 6) else roundE t u st
def RoundOut (w : World) (b : Option Rnd) (e : Int) (x : Ending) (w' : World) : Prop := ∃ (A : Option Addr) (n c : Nat), x = .returned (.tuple #[.slice A n c, .agg #[.int .i64 (b.getD ([], (0, 0))).2.1, .int .i64 (b.getD ([], (0, 0))).2.2], .int .i64 e]) ∧ IntsAt w' w'.heap.size A n (b.getD ([], (0, 0))).1 ∧ Below w.heap.size w w'
theorem upI_strict {l : List Int} (h : l.Nodup) : (upI l).Pairwise (· < ·) := by
 have h1 := upI_sorted l
 have h2 : (upI l).Nodup := (upI_perm l).nodup_iff.2 h
 exact (h1.and h2).imp fun ⟨a, b⟩ => by omega
set_option maxRecDepth 100000 in
set_option maxHeartbeats 16000000 in
theorem round_in (A : Option Addr) (n c : Nat) (A' : Option Addr) (m d : Nat) (t : Town) (u : Int) (A2 : Option Addr) (n2 c2 : Nat) (st : List Int) (dk : Bool) (w : World)
  (hn : n ≤ 1000) (hm : m ≤ 1000) (hn2 : n2 ≤ 1000) (ht : TownAt w w.heap.size A n A' m t) (hr : IntsAt w w.heap.size A2 n2 st) (hL : Laid w) :
  CallsIn Fence.wide 9 Tryz.prog 31 #[.agg #[.slice A n c, .slice A' m d], .int .i64 u, .slice A2 n2 c2, .bool dk] w (RoundOut w (roundR t u st dk) (roundX t u st dk)) := by
 have HT := lh ht
 have HL := lh hL
 have HR := lh hr
 have HRL := lh hr.len
 have hl0 := hL.2.2.2
 clear ht hL hr
 refine callsIn_of_wp Tryz.func31 rfl trivial ?_ rfl
 simp only [Tryz.ntmps31, List.size_toArray, List.length_cons, List.length_nil, Nat.reduceAdd, Nat.reduceSub, Array.replicate_succ, Array.replicate_zero, List.push_toArray, List.append_toArray, List.nil_append, List.cons_append]
 gi_upto_region 1 with fail
 have Ly := lh (Lay.four w 25 #[.slice A n c, .slice A' m d] 3 #[.int .i64 u] 22 #[.slice A2 n2 c2] 34 #[.int .i64 0, .int .i64 0])
 generalize ((((w.alloc (.cells #[.slice A n c, .slice A' m d] 25)).alloc (.cells #[.int .i64 u] 3)).alloc (.cells #[.slice A2 n2 c2] 22)).alloc (.cells #[.int .i64 0, .int .i64 0] 34)) = w0 at *
 obtain ⟨x0_0, x0_1⟩ := lyc2 Ly 0 rfl
 have x1_0 := lyc Ly 1 rfl 0
 have x2_0 := lyc Ly 2 rfl 0
 have l0_ := Ly.out.lt 0 rfl
 gi_wp2
 refine ⟨trivial, (callsIn_wide.2 (rounded_any A n c A' m d t u A2 n2 c2 st dk w0 hn hm hn2 ((HT.out.below Ly.out.1).more Ly.out.1.size) ((HR.out.below Ly.out.1).more Ly.out.1.size) (HL.out.below Ly.out.1 hl0))).mono ?_⟩
 clear x0_0 x0_1 x1_0 x2_0 l0_
 rintro e W1 ⟨hb, (⟨hne, rfl⟩ | ⟨he0, r, lm, rfl, hlg⟩)⟩
 ·replace Ly := lyb Ly hb
  clear hb
  obtain ⟨ee, hee⟩ : ∃ ee, roundE t u st = ee := ⟨_, rfl⟩
  rw [hee] at hne ⊢
  have HEE := lh hee
  have h1 : (ee != 0) = true := by simpa using hne
  have HNE := lh hne
  clear hee hne
  have hb2 : Below W1.heap.size W1 (W1.alloc (.cells #[.map none] 127)) := (Below.refl _ _).alloc (Nat.le_refl _) _
  have HL2 := lyb Ly hb2
  clear hb2
  gi_upto_region 2 with fail
  generalize (W1.alloc (.cells #[.map none] 127)) = W2 at *
  have x1_0 := (HL2.out.blk 3 rfl).cell 0
  have z1_0 := (HL2.out.blk 3 rfl).frozen 0
  have x1_1 := (HL2.out.blk 3 rfl).cell 1
  have z1_1 := (HL2.out.blk 3 rfl).frozen 1
  have l1_ := HL2.out.lt 3 rfl
  gi_wp2
  have R1 := ret2 (HL2.out.blk 3 rfl) HL2.out.1 (by omega) (.int .i64 0) (.int .i64 0)
  have y0 := R1.1.cell 0
  have y1 := R1.1.cell 1
  have h2 : roundR t u st dk = none := by unfold roundR; rw [HEE.out, if_neg HNE.out]
  have h3 : roundX t u st dk = ee := by unfold roundX; rw [HEE.out, if_neg HNE.out]
  exact bodyPost_ret (v := .tuple #[.slice none 0 0, .agg #[.int .i64 0, .int .i64 0], .int .i64 ee]) (by simp [results, Tryz.results31, go_sem, y0, y1]) rfl ⟨none, 0, 0, by rw [h2, h3]; rfl, by rw [h2]; exact Reads.none_, R1.2⟩
 ·replace Ly := lyb Ly hb
  clear hb
  obtain ⟨hgt, hl6, hpl, _, hnd⟩ := roundE_zero he0
  have HE0 := lh he0
  have HG := lh hgt
  have HPL := lh hpl
  have HND := lh hnd
  have HL6 := lh hl6
  have HLG := lh hlg
  clear he0 hgt hl6 hpl hlg hnd
  gi_upto_region 2 with fail
  have hb2 : Below W1.heap.size W1 (W1.alloc (.cells #[.map (some r)] 127)) := (Below.refl _ _).alloc (Nat.le_refl _) _
  have HLG2 := lh (show LegsAt (W1.alloc (.cells #[.map (some r)] 127)) r t dk (u :: st) lm from ⟨HLG.out.map.below hb2 HLG.out.map.lt, HLG.out.look⟩)
  replace Ly := lh (Ly.out.alloc 127 #[.map (some r)])
  clear hb2
  generalize (W1.alloc (.cells #[.map (some r)] 127)) = W2 at *
  generalize W1.heap.size = gl at *
  have HFR := lh (firstR_in 77 #[.pointer (some ⟨gl, 0, none⟩), .pointer (some ⟨w.heap.size + 1, 0, none⟩), .pointer (some ⟨w.heap.size + 1 + 1, 0, none⟩)] _ W2 (enters_of Tryz.func77 (by kernel_rfl) rfl)
   (fun v hv => round1_seq r gl (w.heap.size + 1) (w.heap.size + 1 + 1) u t dk lm A2 n2 c2 st W2 v hv HG.out HPL.out HND.out HL6.out HLG2.out (Ly.out.blk 4 rfl) (Ly.out.blk 1 rfl) (Ly.out.blk 2 rfl) ((HR.out.below Ly.out.1).more Ly.out.1.size)))
  gi_wp2
  refine ⟨trivial, (callsIn_wide.2 (callsIn_wide.1 HFR.out)).mono ?_⟩
  have HSZ := lh (show w.heap.size + 1 + 1 + 1 < W2.heap.size from Ly.out.lt 3 rfl)
  unfold FirstROut
  rintro e W3 ⟨xs, hxs, hb3, b, hfold, rfl, hat⟩
  have HBB : Hid (roundR t u st dk = b.map Rd.rnd) := lh (by
   unfold roundR
   rw [if_pos HE0.out, ← bestG_C _ _ _ (upI_strict HND.out), (upI_perm st).length_eq, ← hfold, hxs])
  replace Ly := lyb Ly hb3
  have HAT := lh hat
  clear hfold hxs hb3 hat HFR
  cases b with
  | none =>
   have h2 : roundR t u st dk = none := HBB.out
   have h3 : roundX t u st dk = 6 := by unfold roundX; rw [if_pos HE0.out, h2]; rfl
   have H2 := lh h2
   have H3 := lh h3
   clear h2 h3
   have hb4 : Below W3.heap.size W3 (W3.alloc (.cells #[.slice none 0 0, .int .i64 0, .int .i64 0] 131)) := (Below.refl _ _).alloc (Nat.le_refl _) _
   have HL4 := lyb Ly hb4
   clear hb4
   gi_upto_region 5 with fail
   generalize (W3.alloc (.cells #[.slice none 0 0, .int .i64 0, .int .i64 0] 131)) = W4 at *
   have x1_0 := (HL4.out.blk 3 rfl).cell 0
   have z1_0 := (HL4.out.blk 3 rfl).frozen 0
   have x1_1 := (HL4.out.blk 3 rfl).cell 1
   have z1_1 := (HL4.out.blk 3 rfl).frozen 1
   have l1_ := HL4.out.lt 3 rfl
   gi_wp2
   have R1 := ret2 (HL4.out.blk 3 rfl) HL4.out.1 (by omega) (.int .i64 0) (.int .i64 0)
   have y0 := R1.1.cell 0
   have y1 := R1.1.cell 1
   exact bodyPost_ret (v := .tuple #[.slice none 0 0, .agg #[.int .i64 0, .int .i64 0], .int .i64 6]) (by simp [results, Tryz.results31, go_sem, y0, y1]) rfl ⟨none, 0, 0, by rw [H2.out, H3.out]; rfl, by rw [H2.out]; exact Reads.none_, R1.2⟩
  | some x =>
   obtain ⟨xl, ⟨x1, x2⟩, xA, xn, xc⟩ := x
   have h2 : roundR t u st dk = some (xl, (x1, x2)) := HBB.out
   have h3 : roundX t u st dk = 0 := by unfold roundX; rw [if_pos HE0.out, h2]; rfl
   have H2 := lh h2
   have H3 := lh h3
   clear h2 h3
   have hb4 : Below W3.heap.size W3 (W3.alloc (.cells #[.slice xA xn xc, .int .i64 x1, .int .i64 x2] 131)) := (Below.refl _ _).alloc (Nat.le_refl _) _
   have HL4 := lh (Ly.out.alloc 131 #[.slice xA xn xc, .int .i64 x1, .int .i64 x2])
   have HA4 := lh ((HAT.out _ rfl).1.below hb4)
   have HNE := lh (show ∀ a, xA = some a → some a.block ≠ some (w.heap.size + 1 + 1 + 1) from fun a ha e => by have h1 := (HAT.out _ rfl).2 a ha; have h2 := Option.some.inj e; have h3 := HSZ.out; omega)
   clear hb4
   gi_upto_region 5 with fail
   generalize (W3.alloc (.cells #[.slice xA xn xc, .int .i64 x1, .int .i64 x2] 131)) = W4 at *
   generalize W3.heap.size = g4 at *
   have x1_0 := (HL4.out.blk 3 rfl).cell 0
   have z1_0 := (HL4.out.blk 3 rfl).frozen 0
   have x1_1 := (HL4.out.blk 3 rfl).cell 1
   have z1_1 := (HL4.out.blk 3 rfl).frozen 1
   have l1_ := HL4.out.lt 3 rfl
   have v0 := (HL4.out.blk 5 rfl).cell 0
   have v1 := (HL4.out.blk 5 rfl).cell 1
   have v2 := (HL4.out.blk 5 rfl).cell 2
   have l5_ := HL4.out.lt 5 rfl
   gi_wp2
   gi_region
   all_goals gi_wp2
   have R1 := ret2' (HL4.out.blk 3 rfl) HL4.out.1 (by omega) (.int .i64 x1) (.int .i64 x2)
   have y0 := (Blk.drew R1.1).cell 0
   have y1 := (Blk.drew R1.1).cell 1
   have hI : IntsAt ((W4.setCell ⟨w.heap.size + 1 + 1 + 1, 0, none⟩ (.int .i64 x1)).setCell ⟨w.heap.size + 1 + 1 + 1, 1, none⟩ (.int .i64 x2)) ((W4.setCell ⟨w.heap.size + 1 + 1 + 1, 0, none⟩ (.int .i64 x1)).setCell ⟨w.heap.size + 1 + 1 + 1, 1, none⟩ (.int .i64 x2)).heap.size xA xn xl := (Reads.grown HA4.out.1 R1.2.2 (Nat.le_refl _) HNE.out).more R1.2.2.size
   exact bodyPost_ret (v := .tuple #[.slice xA xn xc, .agg #[.int .i64 x1, .int .i64 x2], .int .i64 0]) (by simp [results, Tryz.results31, go_sem, y0, y1]) rfl ⟨xA, xn, xc, by rw [H2.out, H3.out]; rfl, by rw [H2.out]; exact hI, below_drewN R1.2.1 1⟩
theorem round_any (A : Option Addr) (n c : Nat) (A' : Option Addr) (m d : Nat) (t : Town) (u : Int) (A2 : Option Addr) (n2 c2 : Nat) (st : List Int) (dk : Bool) (w : World)
  (hn : n ≤ 1000) (hm : m ≤ 1000) (hn2 : n2 ≤ 1000) (ht : TownAt w w.heap.size A n A' m t) (hr : IntsAt w w.heap.size A2 n2 st) (hL : Laid w) :
  Calls Tryz.prog 31 #[.agg #[.slice A n c, .slice A' m d], .int .i64 u, .slice A2 n2 c2, .bool dk] w (RoundOut w (roundR t u st dk) (roundX t u st dk)) :=
 callsIn_wide.1 (round_in A n c A' m d t u A2 n2 c2 st dk w hn hm hn2 ht hr hL)
end
section
open Go.RowKit
theorem info_link : (Tryz.prog.info? 52).map (fun i => (i.zero, i.size, i.bytes)) = some (some (.agg #[.int .i64 0, .int .i64 0, .int .i64 0, .int .i64 0, .int .i64 0]), 5, 40) := by kernel_rfl
theorem elem_link : ElemAt Tryz.prog 23 52 (.agg #[.int .i64 0, .int .i64 0, .int .i64 0, .int .i64 0, .int .i64 0]) 5 40 := by
 obtain ⟨i0, hi, hz0, hz1, hz2⟩ := info_parts info_link
 exact ⟨i0, Tryz.underlying23, hi, hz0, hz1, hz2, rfl, by decide⟩
theorem eql_nil_link (w : World) (a : Option Addr) (n c n' c' : Nat) : (binOp .eql 23 (.slice a n c) (.slice none n' c')).run Tryz.prog w = .ok (.bool a.isNone) w := Lib.run_eql_slice_nil w _ _ a n c n' c' Tryz.underlying23
theorem links_one (l : List Link) : ∀ u ∈ l.flatMap Link.vals, u.oneCell' = true := by
 intro u hu
 simp only [List.mem_flatMap, Link.vals, List.mem_cons, List.not_mem_nil, or_false] at hu
 obtain ⟨x, _, rfl | rfl | rfl | rfl | rfl⟩ := hu <;> rfl
set_option maxRecDepth 100000 in
set_option maxHeartbeats 2000000 in
theorem clone_link (A : Option Addr) (n c : Nat) (l : List Link) (w : World) (hr : LinksAt w w.heap.size A n l) (hn : n ≤ maxLen) (hby : n * 40 ≤ 140737488355328) :
  Calls Tryz.prog 100 #[.slice A n c] w fun e w' => ∃ A' c', e = .returned (.slice A' n c') ∧ Own w' w.heap.size 52 5 A' n c' (l.flatMap Link.vals) ∧ (A = none ↔ A' = none) ∧ Below w.heap.size w w' := by
 have HR := lh hr
 have hq := eql_nil_link
 cases A with
 | none =>
  have h0 : n = 0 := by
   rcases Nat.eq_zero_or_pos n with h | h
   ·exact h
   ·obtain ⟨_, h', _⟩ := hr.2 h; cases h'
  have hl : l = [] := List.eq_nil_of_length_eq_zero (by rw [hr.len]; exact h0)
  subst h0 hl
  go_enter Tryz.func100, Tryz.ntmps100
  go_wp2_with fail
  go_ret
  exact ⟨none, 0, rfl, Own.none_ _ _ _ _, by simp, Below.refl _ _⟩
 | some ad =>
  clear hr
  go_enter Tryz.func100, Tryz.ntmps100
  go_wp2_with (at_builtin; refine wpList_append_any _ rfl _ _ rfl elem_link rfl (World.ownsRow_made w #[] 0 (Nat.le_refl _) (Nat.zero_le _) (by simp)) rfl (Reads.alloc HR.out (Nat.le_refl _) _) (links_one l) (by simpa using hn) (by simpa using hby) (by simp) ?_)
  rintro A' cap' w' hown hg hA
  go_wp2
  go_ret
  have hB : Below w.heap.size w w' := ((Below.refl _ _).alloc (Nat.le_refl _) _).grown hg (by simp) (by intro k hk; simp at hk; omega)
  refine ⟨A', cap', by simp, by simpa using hown, ?_, hB⟩
  constructor
  ·intro h; cases h
  ·intro h
   rcases hA with hA | hA <;> rw [hA] at h <;> cases h
end
end Go.Proofs.YtahkjagjcogeiaaGreatDoor
