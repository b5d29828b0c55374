/- Part 5 of the texts of this claim, joined. -/
import Derived.Maps.RangeWalk
import Derived.Maps.OwnIn
import Derived.RangeFuncKeeps
import Derived.Test.YthofngceiecniaaMxM4
set_option linter.unusedVariables false
/- An act more, whatever its kind; rising. -/
namespace Go.Proofs.Ythofngceiecniaa
open Go.RowKit

theorem some_dec {α : Type} {P : Prop} [Decidable P] {a : α} : (if P then some a else none).isSome = decide P := by
 by_cases h : P
 ·rw [if_pos h, decide_eq_true h]; rfl
 ·rw [if_neg h, decide_eq_false h]; rfl
theorem done1 (m : Mix) (s : Held) (fr to dr : Int) : right1B m s ⟨1, fr, to, dr⟩ = (doneM m s ⟨1, fr, to, dr⟩).isSome := by
 unfold right1B roomB roomJ doneM
 dsimp only
 rw [if_pos rfl, some_dec, ← Bool.decide_and, decide_eq_decide]
theorem done2 (m : Mix) (s : Held) (fr to dr : Int) : right2B m s ⟨2, fr, to, dr⟩ = (doneM m s ⟨2, fr, to, dr⟩).isSome := by
 unfold right2B heldB heldJ roomB roomJ doneM
 dsimp only
 rw [if_neg (by decide), if_pos rfl]
 by_cases h : idxV m.vessels fr < 0
 ·rw [if_pos h]
  simp
  intro _ h0
  omega
 ·rw [if_neg h, some_dec, ← decide_not, ← Bool.decide_and, ← Bool.decide_and, decide_eq_decide]
  constructor
  ·rintro ⟨h1, ⟨h2, h3⟩, h4, h5, h6⟩; exact ⟨h1, h3, h4, h6⟩
  ·rintro ⟨h1, h2, h3, h4⟩; exact ⟨h1, ⟨by omega, h2⟩, h3, by omega, h4⟩
theorem done3 (m : Mix) (s : Held) (fr to dr : Int) : right3B m s ⟨3, fr, to, dr⟩ = (doneM m s ⟨3, fr, to, dr⟩).isSome := by
 unfold right3B heldB heldJ doneM
 dsimp only
 rw [if_neg (show ¬ (3 : Int) = 1 by decide), if_neg (show ¬ (3 : Int) = 2 by decide), if_pos (show (3 : Int) = 3 from rfl)]
 by_cases h : idxV m.vessels fr < 0
 ·rw [if_pos h]
  simp
  intro _ h0
  omega
 ·rw [if_neg h, some_dec, ← Bool.decide_and, decide_eq_decide]
  constructor
  ·rintro ⟨h1, h2, h3⟩; exact ⟨h1, h3⟩
  ·rintro ⟨h1, h2⟩; exact ⟨h1, by omega, h2⟩
theorem done4 (m : Mix) (s : Held) (fr to dr : Int) : right4B m s ⟨4, fr, to, dr⟩ = (doneM m s ⟨4, fr, to, dr⟩).isSome := by
 unfold right4B doneM
 dsimp only
 rw [if_neg (show ¬ (4 : Int) = 1 by decide), if_neg (show ¬ (4 : Int) = 2 by decide), if_neg (show ¬ (4 : Int) = 3 by decide), if_pos (show (4 : Int) = 4 from rfl)]
 by_cases h : idxV m.vessels fr < 0
 ·rw [if_pos h]
  simp
  intro _ _
  omega
 ·rw [if_neg h, some_dec, ← Bool.decide_and, decide_eq_decide]
  constructor
  ·rintro ⟨h1, h2⟩; exact h1
  ·intro h1; exact ⟨h1, by omega⟩
theorem done_bad {m : Mix} {s : Held} {x : MAct} (h : ¬ KindOk x) : (doneM m s x).isSome = false := by
 unfold KindOk at h
 unfold doneM
 rw [if_neg (by omega), if_neg (show ¬ x.kind = 2 by omega), if_neg (show ¬ x.kind = 3 by omega), if_neg (show ¬ x.kind = 4 by omega)]
 split <;> rfl
theorem size_small {m : Mix} {s : Held} {x : MAct} (hv : m.vessels.length ≤ 4) (hz : VesOk m) (hs : s.length = 4 ∧ ∀ q : Nat, 0 ≤ heldAt s q ∧ heldAt s q ≤ 1000) (h : (doneM m s x).isSome = true) :
  0 ≤ sizeA m s x ∧ sizeA m s x ≤ 2000 ∧ (x.kind = 4 → 0 ≤ fromI m x) ∧ (fromI m x ≠ toI m x ∨ fromI m x < 0) := by
 obtain ⟨s', hd⟩ := Option.isSome_iff_exists.1 h
 obtain ⟨hok, _⟩ := done_ok hd hs.1 hv
 have hap : fromI m x ≠ toI m x ∨ fromI m x < 0 := by
  unfold fromI toI
  by_cases e1 : x.kind = 1
  ·right; rw [if_pos e1]; decide
  ·by_cases e2 : x.kind = 2
   ·left
    have := hok.apart e2
    simp only [e2]
    simpa using this
   ·left
    have := hok.from_ e1
    rw [if_neg e1, if_neg (by omega)]
    omega
 have hh : ∀ j : Int, 0 ≤ heldAt s j ∧ heldAt s j ≤ 1000 := fun j => by rw [heldAt_nat]; exact hs.2 _
 refine ⟨?_, ?_, fun e4 => by unfold fromI; rw [if_neg (by omega)]; exact hok.from_ (by omega), hap⟩
 ·unfold sizeA
  split
  ·exact (hh _).1
  ·rename_i e4
   have := hok.size
   have := hok.kind
   omega
 ·unfold sizeA
  split
  ·have := (hh (fromI m x)).2; omega
  ·rename_i e4
   by_cases e1 : x.kind = 1
   ·unfold doneM at hd
    rw [if_pos e1] at hd
    split at hd
    ·rename_i hc
     obtain ⟨_, h0, _, h2⟩ := hc
     have h3 := (hh (idxV m.vessels x.to)).1
     have h4 : sizeV m.vessels (idxV m.vessels x.to) ≤ 12 := by
      unfold sizeV
      have hlt := idxV_lt h0
      rw [List.getElem?_eq_getElem (by omega)]
      exact (hz _ (List.getElem_mem _)).2
     omega
    ·cases hd
   ·have := hok.size.2 (by have := hok.kind; omega)
    have := (hh (idxV m.vessels x.fr)).2
    omega
theorem held_le {s : Held} (hs : s.length = 4 ∧ ∀ q : Nat, 0 ≤ heldAt s q ∧ heldAt s q ≤ 1000) : s.length = 4 ∧ Small s 2000 := ⟨hs.1, fun q => by have := hs.2 q; omega⟩
theorem act_in (B : Nat) (T : Tb) (k : Nat) (x : MAct) (s : Held) (w : World) (h : TbOwn w B T) (hx : T.m.acts[k]? = some x) (ha : T.L[k]? = some s) (hn : T.nl ≤ 12) (hz : VesOk T.m) (hs : s.length = 4 ∧ ∀ q : Nat, 0 ≤ heldAt s q ∧ heldAt s q ≤ 1000) :
  CallsIn Fence.wide 9 Try.prog 84 #[.pointer (some ⟨T.g, 0, none⟩), .int .i64 k] w (ActOut w B T (doneM T.m s x).isSome (shiftH s (fromI T.m x) (toI T.m x) (sizeA T.m s x))) := by
 have hv : T.m.vessels.length ≤ 4 := by have := h.mix.lenV; have := h.small; omega
 by_cases hk : KindOk x
 ·obtain ⟨kk, fr, to, dr⟩ := x
  have hk' := hk
  rcases hk' with e | e | e | e <;> dsimp only at e <;> subst e
  ·refine act_core B T k ⟨1, fr, to, dr⟩ s 116 (.func (.func 118) #[] #[]) (.func (.func 119) #[] #[]) _ w h hx ha hn hk (fun _ => by kernel_rfl) enters_kinds1 (fun _ => by kernel_rfl) (fun W hW => ?_) (held_le hs) (fun hr => size_small hv hz hs hr)
   rw [← done1]
   exact kind1_in T s _ W (h.at_.below hW) hs.2 hz
  ·refine act_core B T k ⟨2, fr, to, dr⟩ s 120 (.func (.func 122) #[] #[]) (.func (.func 119) #[] #[]) _ w h hx ha hn hk (fun _ => by kernel_rfl) enters_kinds2 (fun _ => by kernel_rfl) (fun W hW => ?_) (held_le hs) (fun hr => size_small hv hz hs hr)
   rw [← done2]
   exact kind2_in T s _ W (h.at_.below hW) hs.2 hz
  ·refine act_core B T k ⟨3, fr, to, dr⟩ s 123 (.func (.func 122) #[] #[]) (.func (.func 118) #[] #[]) _ w h hx ha hn hk (fun _ => by kernel_rfl) enters_kinds3 (fun _ => by kernel_rfl) (fun W hW => ?_) (held_le hs) (fun hr => size_small hv hz hs hr)
   rw [← done3]
   exact kind3_in T s _ W (h.at_.below hW) hs.2 hz
  ·refine act_core B T k ⟨4, fr, to, dr⟩ s 124 (.func (.func 122) #[] #[]) (.func (.func 118) #[] #[]) _ w h hx ha hn hk (fun _ => by kernel_rfl) enters_kinds4 (fun _ => by kernel_rfl) (fun W hW => ?_) (held_le hs) (fun hr => size_small hv hz hs hr)
   rw [← done4]
   exact kind4_in T s _ W (h.at_.below hW) hs.2 hz
 ·rw [done_bad hk]
  exact (act_bad B T k x s w h hx ha hk).mono fun e w' ⟨h1, h2⟩ => .inl ⟨rfl, h1, h2⟩

theorem ris_step {l : List Int} {k : Nat} {x : Int} (hx : l[k]? = some x) (h : risB 0 (l.take k) = true) : risB 0 (l.take (k + 1)) = inB ((l.take k).getLast?.getD 0 + 1) 9999 [x] := by
 obtain ⟨hk, rfl⟩ := List.getElem?_eq_some_iff.1 hx
 rw [List.take_succ_eq_append_getElem hk, risB_snoc, h, Bool.true_and, inB_one]
theorem ris_pre : ∀ {a : Int} {l : List Int} {k : Nat}, risB a l = true → risB a (l.take k) = true
 | _, [], _, _ => by simp [risB]
 | _, _ :: _, 0, _ => rfl
 | a, x :: l, k + 1, h => by
  unfold risB at h
  rw [Bool.and_eq_true] at h
  show risB a (x :: l.take k) = true
  unfold risB
  rw [Bool.and_eq_true]
  exact ⟨h.1, ris_pre h.2⟩
theorem ris_last {l : List Int} (h : risB 0 l = true) : 0 ≤ l.getLast?.getD 0 ∧ l.getLast?.getD 0 ≤ 9999 := by
 cases hl : l.getLast? with
 | none => simp
 | some x =>
  have := (risB_pair h).2 x (List.mem_of_getLast? hl)
  simp
  omega
set_option maxRecDepth 100000 in
set_option maxHeartbeats 4000000 in
theorem rising_any (A : Option Addr) (n c : Nat) (l : List Int) (w : World) (hr : IntsAt w w.heap.size A n l) (hn : n ≤ 1000) :
  Calls Try.prog 81 #[.slice A n c] w fun e w' => e = .returned (.bool (risB 0 l)) ∧ Below w.heap.size w w' := by
 have HR := Lib.hid hr
 go_enter Try.func81, Try.ntmps81
 go_wp2_with fail
 go_loopw [3, 5, 8] (fun p q i wr => ∃ k : Nat, k ≤ n ∧ i = .int .i64 k ∧ p = .int .i64 ((l.take k).getLast?.getD 0) ∧ Hid (risB 0 (l.take k) = true ∧ Below w.heap.size w wr))
  (fun _ _ i _ => n - (intOf i).toNat)
 case atStart => exact ⟨0, by omega, rfl, rfl, Lib.hid ⟨rfl, Below.refl _ _⟩⟩
 case round =>
  obtain ⟨k, hk, rfl, rfl, HS⟩ := hrel
  obtain ⟨hl0, hl1⟩ := ris_last HS.out.1
  obtain ⟨p, hp⟩ : ∃ p, (l.take k).getLast?.getD 0 = p := ⟨_, rfl⟩
  rw [hp] at hl0 hl1 ⊢
  by_cases hlt : k < n
  ·obtain ⟨b, off, x, rfl, hbB, hx, hc⟩ := (HR.out.below HS.out.2).cell hlt
   have HX := Lib.hid hx
   have HP := Lib.hid hp
   clear hx hp hr
   go_wp2_with fail
   have hb1 : Below wr.heap.size wr (wr.alloc (.cells #[.int .i64 x] 3)) := (Below.refl _ _).alloc (Nat.le_refl _) _
   refine (in_any (p + 1) 9999 (some ⟨wr.heap.size, 0, none⟩) 1 1 [x] _ (IntsAt.new wr 3 [x] _ (by simp)) (by decide)).mono ?_
   rintro e W ⟨rfl, hb2⟩
   have HB := Lib.hid (HS.out.2.trans ((hb1.trans (hb2.mono hb1.size)).mono HS.out.2.size))
   have HRS := Lib.hid (ris_step HX.out HS.out.1)
   rw [HP.out] at HRS
   clear hb1 hb2
   cases hi : inB (p + 1) 9999 [x] with
   | false =>
    rw [hi] at HRS
    clear hi
    go_wp2_with fail
    go_ret
    refine ⟨ret_bool ?_, HB.out⟩
    cases h0 : risB 0 l with
    | false => rfl
    | true => exact absurd ((ris_pre (k := k + 1) h0).symm.trans HRS.out) (by decide)
   | true =>
    rw [hi] at HRS
    clear hi
    go_wp2_with fail
    go_roundw
    case rel =>
     refine ⟨k + 1, by omega, by go_num, ?_, Lib.hid ⟨HRS.out, HB.out⟩⟩
     obtain ⟨hk2, rfl⟩ := List.getElem?_eq_some_iff.1 HX.out
     rw [List.take_succ_eq_append_getElem hk2, List.getLast?_concat]
     rfl
    case measure => simp [intOf]; omega
  ·go_wp2_with fail
   go_ret
   have hl := HR.out.len
   have h1 := HS.out.1
   rw [List.take_of_length_le (by omega)] at h1
   exact ⟨ret_bool h1.symm, HS.out.2⟩
end Go.Proofs.Ythofngceiecniaa
/- mix.laid: plain words, and words for memory. -/
namespace Go.Proofs.Ythofngceiecniaa
open Go.RowKit

theorem Lay.row {w W W' : World} {bs : List (Nat × TypeId × Array Value)} (h : Lay w W bs) {row : Option Nat} (hg : W.grownBy W' row) (hr : ∀ r, row = some r → w.heap.size ≤ r ∧ ∀ b ∈ bs, b.1 ≠ r) : Lay w W' bs :=
 ⟨h.1.grown hg h.1.size (fun k hk => (hr k hk).1), fun b hb => ⟨(h.2 b hb).1, (h.2 b hb).2.grown hg (fun e => (hr _ e.symm).2 b hb rfl)⟩⟩
theorem own_row {w : World} {base n cap size : Nat} {e : TypeId} {A : Option Addr} {xs : List Value} (h : Own w base e size A n cap xs) : ∀ r, A.map (·.block) = some r → base ≤ r ∧ r < w.heap.size := by
 intro r hr
 cases hA : A with
 | none => rw [hA] at hr; cases hr
 | some a => rw [hA] at hr; cases hr; exact h.lt hA
theorem lay3_row {w W W' : World} {t0 t1 t2 : TypeId} {c0 c1 c2 : Array Value} (h : Lay w W [(w.heap.size, t0, c0), (w.heap.size + 1, t1, c1), (w.heap.size + 1 + 1, t2, c2)]) {row : Option Nat} (hg : W.grownBy W' row) (hr : ∀ r, row = some r → w.heap.size + 3 ≤ r) : Lay w W' [(w.heap.size, t0, c0), (w.heap.size + 1, t1, c1), (w.heap.size + 1 + 1, t2, c2)] :=
 h.row hg fun r e => ⟨by have := hr r e; omega, fun b hb => by
  have := hr r e
  simp only [List.mem_cons, List.not_mem_nil, or_false] at hb
  rcases hb with rfl | rfl | rfl <;> dsimp only <;> omega⟩
theorem one_int {W : World} {g : Nat} {x : Int} {B : Nat} (hB : g < B) (h : W.cell? ⟨g, 0, none⟩ = some (.int .i64 x)) : Reads W B 1 (some ⟨g, 0, none⟩) 1 ([x].map (Value.int .i64)) :=
 ⟨rfl, fun _ => ⟨_, rfl, hB, fun j u hu => by
  match j, hu with
  | 0, hu => simp at hu; rw [← hu]; simpa [Addr.add] using h⟩⟩
theorem ints_of_own {w : World} {base n cap B : Nat} {e : TypeId} {A : Option Addr} {l : List Int} (h : Own w base e 1 A n cap (l.map (Value.int .i64))) (hB : w.heap.size ≤ B) : IntsAt w B A n l := h.reads hB
theorem vessB_in (v : Vess) : inB 1 12 [v.size] = vessB v := by rw [inB_one]; rfl
theorem all_step {α : Type} {p : α → Bool} {l : List α} {k : Nat} {x : α} (hx : l[k]? = some x) (h : (l.take k).all p = true) : (l.take (k + 1)).all p = p x := by
 obtain ⟨hk, rfl⟩ := List.getElem?_eq_some_iff.1 hx
 rw [List.take_succ_eq_append_getElem hk, List.all_append, h]
 simp
theorem all_pre {α : Type} {p : α → Bool} {l : List α} {k : Nat} (h : l.all p = true) : (l.take k).all p = true := by
 rw [List.all_eq_true] at h ⊢
 exact fun x hx => h x (List.mem_of_mem_take hx)
theorem allM_take {m : Mix} {l : List MAct} {k : Nat} {x : MAct} {L : List Held} {s : Held} (hx : l[k]? = some x) (h : allM m (l.take k) = some L) (hs : L[k]? = some s) : allM m (l.take (k + 1)) = (doneM m s x).map fun s' => L ++ [s'] := by
 obtain ⟨hk, rfl⟩ := List.getElem?_eq_some_iff.1 hx
 rw [List.take_succ_eq_append_getElem hk, allM_snoc, h]
 unfold stepM
 simp only [Option.bind_some]
 have hl := allM_len m _ L h
 rw [List.length_take, Nat.min_eq_left (Nat.le_of_lt hk)] at hl
 have : L.getLast?.getD [] = s := by
  rw [List.getLast?_eq_getElem?, hl, Nat.add_sub_cancel, hs]
  rfl
 rw [this]
theorem allM_fail {m : Mix} : ∀ {l : List MAct} {k : Nat}, allM m (l.take k) = none → allM m l = none := by
 intro l k h
 have e : l = l.take k ++ l.drop k := (List.take_append_drop k l).symm
 unfold allM at h ⊢
 rw [e, List.foldl_append, h, fold_noneM]
theorem done_range {m : Mix} {s s' : Held} {x : MAct} (hv : m.vessels.length ≤ 4) (hz : VesOk m) (hs : s.length = 4) (hb : ∀ q : Nat, 0 ≤ heldAt s q ∧ heldAt s q ≤ 12) (h : doneM m s x = some s') : s'.length = 4 ∧ ∀ q : Nat, 0 ≤ heldAt s' q ∧ heldAt s' q ≤ 12 := by
 obtain ⟨hok, e⟩ := done_ok h hs hv
 have hl : s'.length = 4 := by rw [e, shift_len]; exact hs
 refine ⟨hl, fun q => ?_⟩
 by_cases hq : q < 4
 ·rw [e, shift_get hv x hs _ hq]
  have hbq := hb q
  have hap := (size_small hv hz ⟨hs, fun q => by have := hb q; omega⟩ (by rw [h]; rfl)).2.2.2
  have h0 := (size_small hv hz ⟨hs, fun q => by have := hb q; omega⟩ (by rw [h]; rfl)).1
  have hto : toI m x = (q : Int) → heldAt s q + sizeA m s x ≤ 12 := by
   intro ht
   have hsz : ∀ id : Int, 0 ≤ idxV m.vessels id → sizeV m.vessels (idxV m.vessels id) ≤ 12 := by
    intro id h0
    unfold sizeV
    have hlt := idxV_lt h0
    rw [List.getElem?_eq_getElem (by omega)]
    exact (hz _ (List.getElem_mem _)).2
   unfold toI at ht
   by_cases e1 : x.kind = 1
   ·rw [if_pos (.inl e1)] at ht
    unfold doneM at h
    rw [if_pos e1] at h
    split at h
    ·rename_i hc
     obtain ⟨_, c0, _, c2⟩ := hc
     have := hsz _ c0
     rw [ht] at c2 this
     unfold sizeA
     rw [if_neg (by omega)]
     omega
    ·cases h
   ·by_cases e2 : x.kind = 2
    ·rw [if_pos (.inr e2)] at ht
     unfold doneM at h
     rw [if_neg e1] at h
     rw [if_neg (show ¬ idxV m.vessels x.fr < 0 from fun hlt => by have := hok.from_ e1; omega), if_pos e2] at h
     ·split at h
      ·rename_i hc
       obtain ⟨_, _, c0, c2⟩ := hc
       have := hsz _ c0
       rw [ht] at c2 this
       unfold sizeA
       rw [if_neg (by omega)]
       omega
      ·cases h
    ·rw [if_neg (by omega)] at ht
     omega
  have hfr : fromI m x = (q : Int) → sizeA m s x ≤ heldAt s q := by
   intro hf
   unfold sizeA
   split
   ·rw [hf]; exact Int.le_refl _
   ·rename_i e4
    have e1 : x.kind ≠ 1 := fun e1 => by unfold fromI at hf; rw [if_pos e1] at hf; omega
    unfold fromI at hf
    rw [if_neg e1] at hf
    rw [← hf]
    exact (hok.size.2 (by have := hok.kind; omega)).2
  by_cases p1 : toI m x = (q : Int) <;> by_cases p2 : fromI m x = (q : Int)
  ·rw [if_pos p1, if_pos p2]; omega
  ·have := hto p1; rw [if_pos p1, if_neg p2]; omega
  ·have := hfr p2; rw [if_neg p1, if_pos p2]; omega
  ·rw [if_neg p1, if_neg p2]; omega
 ·unfold heldAt
  rw [List.getElem?_eq_none (by omega)]
  decide
theorem vesOk_of {m : Mix} (h : m.vessels.all vessB = true) : VesOk m := by
 intro v hv
 exact of_decide_eq_true (List.all_eq_true.1 h v hv)
/-- What laid tells. -/
def LaidOut (w : World) (Av : Option Addr) (nv cv : Nat) (Aa : Option Addr) (na ca : Nat) (At : Option Addr) (nt ct : Nat) (m : Mix) (e : Ending) (w' : World) : Prop :=
 ∃ p, e = .returned (.tuple #[.pointer p, .bool (okMix m)]) ∧ Below w.heap.size w w' ∧ (okMix m = true → ∃ g AA nl cl L, p = some ⟨g, 0, none⟩ ∧ w.heap.size ≤ g ∧ allM m m.acts = some L ∧ TbOwn w' w.heap.size ⟨g, Av, nv, cv, Aa, na, ca, At, nt, ct, AA, nl, cl, m, L⟩)
theorem LaidOut.bad {w w' : World} {Av Aa At : Option Addr} {nv cv na ca nt ct : Nat} {m : Mix} (h : okMix m = false) (hb : Below w.heap.size w w') : LaidOut w Av nv cv Aa na ca At nt ct m (.returned (.tuple #[.pointer none, .bool false])) w' :=
 ⟨none, by rw [h], hb, fun h' => by rw [h] at h'; cases h'⟩
/-- Reasons for which mixed water is not valid. -/
theorem bad_limits {m : Mix} (h : ¬ ((1 ≤ m.fountains ∧ m.fountains ≤ 4) ∧ m.vessels.length ≤ 4 ∧ m.acts.length ≤ 12 ∧ m.tastes.length ≤ 8)) : okMix m = false := by
 unfold okMix
 by_cases h1 : 1 ≤ m.fountains ∧ m.fountains ≤ 4
 ·have : ¬ (m.vessels.length ≤ 4 ∧ m.acts.length ≤ 12 ∧ m.tastes.length ≤ 8) := fun h2 => h ⟨h1, h2⟩
  rw [decide_eq_false this]
  simp
 ·rw [decide_eq_false h1]
  simp
theorem bad_vess {m : Mix} (h : m.vessels.all vessB = false) : okMix m = false := by unfold okMix; rw [h]; simp
theorem bad_tast {m : Mix} (h : m.tastes.all (tastB m) = false) : okMix m = false := by unfold okMix; rw [h]; simp
theorem bad_acts {m : Mix} (h : allM m m.acts = none) : okMix m = false := by unfold okMix; rw [h]; simp
theorem ok_rest {m : Mix} {L : List Held} (h1 : (1 ≤ m.fountains ∧ m.fountains ≤ 4) ∧ m.vessels.length ≤ 4 ∧ m.acts.length ≤ 12 ∧ m.tastes.length ≤ 8) (h2 : m.vessels.all vessB = true) (h3 : m.tastes.all (tastB m) = true) (h4 : allM m m.acts = some L) :
  okMix m = (risB 0 (m.vessels.map (·.id)) && risB 0 (m.tastes.map (·.num))) := by
 unfold okMix
 rw [decide_eq_true h1.1, decide_eq_true h1.2, h2, h3, h4]
 rfl
end Go.Proofs.Ythofngceiecniaa
/- mix.laid: the table, and whether the mixed water is valid. -/
namespace Go.Proofs.Ythofngceiecniaa
open Go.RowKit

def LdA (w W : World) (bs : List (Nat × TypeId × Array Value)) (A5 : Option Addr) (k c5 : Nat) (m : Mix) : Prop :=
 Lay w W bs ∧ Own W (w.heap.size + 3) 3 1 A5 k c5 (((m.vessels.take k).map (·.id)).map (Value.int .i64)) ∧ (m.vessels.take k).all vessB = true
def LdB (w W : World) (bs : List (Nat × TypeId × Array Value)) (A5 : Option Addr) (nv c5 : Nat) (A6 : Option Addr) (k c6 : Nat) (m : Mix) : Prop :=
 Lay w W bs ∧ Own W (w.heap.size + 3) 3 1 A5 nv c5 ((m.vessels.map (·.id)).map (Value.int .i64)) ∧ Own W (w.heap.size + 3) 3 1 A6 k c6 (((m.tastes.take k).map (·.num)).map (Value.int .i64)) ∧ (∀ a b, A5 = some a → A6 = some b → a.block ≠ b.block) ∧ (m.tastes.take k).all (tastB m) = true

def LdC (w W : World) (T : Tb) (A5 : Option Addr) (c5 : Nat) (A6 : Option Addr) (c6 k : Nat) : Prop :=
 TbOwn W w.heap.size T ∧ Below w.heap.size w W ∧ allM T.m (T.m.acts.take k) = some T.L ∧ (∀ (j : Nat) (s : Held), T.L[j]? = some s → s.length = 4 ∧ ∀ q : Nat, 0 ≤ heldAt s q ∧ heldAt s q ≤ 12) ∧
 (Own W (w.heap.size + 3) 3 1 A5 T.nv c5 ((T.m.vessels.map (·.id)).map (Value.int .i64)) ∧ Own W (w.heap.size + 3) 3 1 A6 T.nt c6 ((T.m.tastes.map (·.num)).map (Value.int .i64))) ∧
 ∀ a, (A5 = some a ∨ A6 = some a) → a.block < W.heap.size ∧ a.block ≠ T.g ∧ some a.block ≠ T.AA.map (·.block)
theorem Own.keep2 {w w' : World} {base n cap size g : Nat} {e : TypeId} {A : Option Addr} {xs : List Value} {row : Option Nat} (h : Own w base e size A n cap xs) (hk : Keep2 w w' g row) (hne : ∀ a, A = some a → a.block ≠ g ∧ some a.block ≠ row) : Own w' base e size A n cap xs := by
 refine ⟨h.1, ?_⟩
 rcases h.2 with h' | ⟨g', cap', cur, hv, hb, hgb, hrest⟩
 ·exact .inl h'
 ·have hA : A = some ⟨g', 0, none⟩ := by simpa using congrArg (fun v => match v with | Value.slice a _ _ => a | _ => none) hv
  have hlt : g' < w.heap.size := (Array.getElem?_eq_some_iff.1 hgb).1
  exact .inr ⟨g', cap', cur, hv, hb, (hk.2 g' hlt (hne _ hA).1 (hne _ hA).2).trans hgb, hrest⟩
theorem ldc_step {w W W' : World} {T : Tb} {A5 A6 A9 : Option Addr} {c5 c6 c9 k : Nat} {x : MAct} {s s' : Held} (h : LdC w W T A5 c5 A6 c6 k) (hx : T.m.acts[k]? = some x) (hs : T.L[k]? = some s) (hd : doneM T.m s x = some s') (hz : VesOk T.m)
  (hT : TbOwn W' w.heap.size (T.plus A9 c9 s')) (hb : Below w.heap.size W W') (hk : Keep2 W W' T.g (T.AA.map (·.block))) (hA : ∀ a, A9 = some a → A9 = T.AA ∨ W.heap.size ≤ a.block) : LdC w W' (T.plus A9 c9 s') A5 c5 A6 c6 (k + 1) := by
 obtain ⟨h1, h2, h3, h4, ⟨h5, h6⟩, h7⟩ := h
 have hv : T.m.vessels.length ≤ 4 := by have := h1.mix.lenV; have := h1.small; omega
 refine ⟨hT, h2.trans hb, ?_, ?_, ⟨h5.keep2 hk (fun a ha => (h7 a (.inl ha)).2), h6.keep2 hk (fun a ha => (h7 a (.inr ha)).2)⟩, fun a ha => ?_⟩
 ·show allM T.m (T.m.acts.take (k + 1)) = some (T.L ++ [s'])
  rw [allM_take hx h3 hs, hd]
  rfl
 ·intro j u hu
  have hu' : (T.L ++ [s'])[j]? = some u := hu
  by_cases hj : j < T.L.length
  ·rw [List.getElem?_append_left hj] at hu'
   exact h4 j u hu'
  ·rw [List.getElem?_append_right (by omega)] at hu'
   have hj0 : j - T.L.length = 0 := by
    have := (List.getElem?_eq_some_iff.1 hu').1
    simp at this
    omega
   rw [hj0] at hu'
   have e : s' = u := by simpa using hu'
   rw [← e]
   have := h4 k s hs
   exact done_range hv hz this.1 this.2 hd
 ·obtain ⟨q1, q2, q3⟩ := h7 a ha
  refine ⟨Nat.lt_of_lt_of_le q1 hk.1, q2, ?_⟩
  show some a.block ≠ A9.map (·.block)
  cases h9 : A9 with
  | none => simp
  | some b =>
   rcases hA b h9 with e | e
   ·rw [← h9, e]; exact q3
   ·intro e2
    have := Option.some.inj e2
    dsimp only at this
    omega
/-- The table at its first time. -/
theorem tb_first {w W : World} {Av Aa At : Option Addr} {nv cv na ca nt ct : Nat} {m : Mix} (h : Lay w W [(w.heap.size, 26, #[.int .i64 m.fountains, .slice Av nv cv, .slice Aa na ca, .slice At nt ct]), (w.heap.size + 1, 97, #[.int .i64 0, .int .i64 0, .int .i64 0, .int .i64 0]), (w.heap.size + 1 + 1, 123, #[.int .i64 m.fountains, .slice Av nv cv, .slice Aa na ca, .slice At nt ct, .slice (some ⟨w.heap.size + 1, 0, none⟩) 1 1])]) (hm : MixAt w w.heap.size Av nv Aa na At nt m) (hn : nv ≤ 4 ∧ na ≤ 12 ∧ nt ≤ 8) :
  TbAt W ⟨w.heap.size + 1 + 1, Av, nv, cv, Aa, na, ca, At, nt, ct, some ⟨w.heap.size + 1, 0, none⟩, 1, 1, m, [zeroH]⟩ := by
 refine ⟨h.blk 2 rfl, hm.up h.1, ?_, hn.1, hn.2.1, hn.2.2, (by show 1 ≤ 13; decide)⟩
 have hb := h.blk 1 rfl
 refine ⟨rfl, fun _ => ⟨_, rfl, hb.lt, fun j u hu => ?_⟩⟩
 have ha : ((⟨w.heap.size + 1, 0, none⟩ : Addr).add j) = ⟨w.heap.size + 1, j, none⟩ := by
  unfold Addr.add
  by_cases hj : j = 0
  ·subst hj; simp
  ·simp [hj]
 rw [ha, hb.cell, ← Array.getElem?_toList]
 exact hu
theorem zero_range : zeroH.length = 4 ∧ ∀ q : Nat, 0 ≤ heldAt zeroH q ∧ heldAt zeroH q ≤ 12 := by
 refine ⟨rfl, fun q => ?_⟩
 match q with
 | 0 => decide
 | 1 => decide
 | 2 => decide
 | 3 => decide
 | q + 4 =>
  have : heldAt zeroH ((q + 4 : Nat) : Int) = 0 := by
   unfold heldAt
   rw [List.getElem?_eq_none (by simp [zeroH]; omega)]
   rfl
  rw [this]
  decide
theorem tb_own {w W : World} {Av Aa At : Option Addr} {nv cv na ca nt ct : Nat} {m : Mix} (h : Lay w W [(w.heap.size, 26, #[.int .i64 m.fountains, .slice Av nv cv, .slice Aa na ca, .slice At nt ct]), (w.heap.size + 1, 97, #[.int .i64 0, .int .i64 0, .int .i64 0, .int .i64 0]), (w.heap.size + 1 + 1, 123, #[.int .i64 m.fountains, .slice Av nv cv, .slice Aa na ca, .slice At nt ct, .slice (some ⟨w.heap.size + 1, 0, none⟩) 1 1])]) (hm : MixAt w w.heap.size Av nv Aa na At nt m) (hn : nv ≤ 4 ∧ na ≤ 12 ∧ nt ≤ 8) :
  TbOwn W w.heap.size ⟨w.heap.size + 1 + 1, Av, nv, cv, Aa, na, ca, At, nt, ct, some ⟨w.heap.size + 1, 0, none⟩, 1, 1, m, [zeroH]⟩ := by
 refine ⟨h.blk 2 rfl, hm.below h.1, ⟨rfl, .inr ⟨w.heap.size + 1, 1, _, rfl, by omega, h.blk 1 rfl, Nat.le_refl _, by unfold maxLen; omega, rfl, rfl⟩⟩, ?_, ⟨h.1.size, by dsimp only; omega⟩, hn.1, hn.2.1, hn.2.2, (by show 1 ≤ 13; decide)⟩
 intro a ha
 cases ha
 dsimp only
 omega
theorem tast_no {m : Mix} {k : Nat} {x : Tast} (hx : m.tastes[k]? = some x) (h : tastB m x = false) : m.tastes.all (tastB m) = false := by
 cases h0 : m.tastes.all (tastB m) with
 | false => rfl
 | true => exact absurd ((List.all_eq_true.1 h0 x (List.mem_of_getElem? hx)).symm.trans h) (by decide)

set_option maxRecDepth 100000 in
set_option maxHeartbeats 16000000 in
theorem laid_any (Av : Option Addr) (nv cv : Nat) (Aa : Option Addr) (na ca : Nat) (At : Option Addr) (nt ct : Nat) (m : Mix) (w : World) (h : MixAt w w.heap.size Av nv Aa na At nt m) (hnv : nv ≤ 1000) (hna : na ≤ 1000) (hnt : nt ≤ 1000) :
  Calls Try.prog 39 #[.agg #[.int .i64 m.fountains, .slice Av nv cv, .slice Aa na ca, .slice At nt ct]] w (LaidOut w Av nv cv Aa na ca At nt ct m) := by
 have HM := Lib.hid h
 have HLV := Lib.hid h.lenV
 have HLA := Lib.hid h.lenA
 have HLT := Lib.hid h.lenT
 clear h
 go_enter Try.func39, Try.ntmps39
 go_upto_region 2 with fail
 have HLay := Lib.hid (Lay.three w 26 #[.int .i64 m.fountains, .slice Av nv cv, .slice Aa na ca, .slice At nt ct] 97 #[.int .i64 0, .int .i64 0, .int .i64 0, .int .i64 0] 123 #[.int .i64 m.fountains, .slice Av nv cv, .slice Aa na ca, .slice At nt ct, .slice (some ⟨w.heap.size + 1, 0, none⟩) 1 1])
 generalize (((w.alloc (.cells #[.int .i64 m.fountains, .slice Av nv cv, .slice Aa na ca, .slice At nt ct] 26)).alloc (.cells #[.int .i64 0, .int .i64 0, .int .i64 0, .int .i64 0] 97)).alloc (.cells #[.int .i64 m.fountains, .slice Av nv cv, .slice Aa na ca, .slice At nt ct, .slice (some ⟨w.heap.size + 1, 0, none⟩) 1 1] 123)) = w0 at *
 have x0 := (HLay.out.blk 0 rfl).cell 0
 have x1 := (HLay.out.blk 0 rfl).cell 1
 have x2 := (HLay.out.blk 0 rfl).cell 2
 have x3 := (HLay.out.blk 0 rfl).cell 3
 have xl := HLay.out.lt 0 rfl
 go_wp2_with fail
 have Y := IntsAt.new w0 3 [m.fountains] (w0.heap.size + 1) (by omega)
 refine (in_any 1 4 (some ⟨w0.heap.size, 0, none⟩) 1 1 [m.fountains] _ (Y.more (by simp)) (by decide)).mono ?_
 rintro e W1 ⟨rfl, hb⟩
 have hb0 : Below w0.heap.size w0 W1 := ((Below.refl _ _).alloc (Nat.le_refl _) _).trans (hb.mono (by simp))
 replace HLay := Lib.hid (HLay.out.below hb0)
 clear hb hb0 x0 x1 x2 x3 xl Y
 have x0 := (HLay.out.blk 0 rfl).cell 0
 have x1 := (HLay.out.blk 0 rfl).cell 1
 have x2 := (HLay.out.blk 0 rfl).cell 2
 have x3 := (HLay.out.blk 0 rfl).cell 3
 have xl := HLay.out.lt 0 rfl
 by_cases hG : (1 ≤ m.fountains ∧ m.fountains ≤ 4) ∧ m.vessels.length ≤ 4 ∧ m.acts.length ≤ 12 ∧ m.tastes.length ≤ 8
 ·have HG := Lib.hid hG
  have hi : inB 1 4 [m.fountains] = true := by rw [inB_one]; exact decide_eq_true hG.1
  have hn4 : nv ≤ 4 := by have := HLV.out; omega
  have hn12 : na ≤ 12 := by have := HLA.out; omega
  have hn8 : nt ≤ 8 := by have := HLT.out; omega
  have d1 : (nv : Int) ≤ 4 := by omega
  have d2 : (na : Int) ≤ 12 := by omega
  have d3 : (nt : Int) ≤ 8 := by omega
  rw [hi]
  clear hi hG
  go_wp2_with fail
  clear d1 d2 d3 x0 x1 x2 x3 xl
  go_loopw [5, 43] (fun v5 i wr => ∃ (k : Nat) (A5 : Option Addr) (c5 : Nat), k ≤ nv ∧ i = .int .i64 k ∧ v5 = .slice A5 k c5 ∧ Hid (LdA w wr [(w.heap.size, 26, #[.int .i64 m.fountains, .slice Av nv cv, .slice Aa na ca, .slice At nt ct]), (w.heap.size + 1, 97, #[.int .i64 0, .int .i64 0, .int .i64 0, .int .i64 0]), (w.heap.size + 1 + 1, 123, #[.int .i64 m.fountains, .slice Av nv cv, .slice Aa na ca, .slice At nt ct, .slice (some ⟨w.heap.size + 1, 0, none⟩) 1 1])] A5 k c5 m))
   (fun _ i _ => nv - (intOf i).toNat)
  case atStart => exact ⟨0, none, 0, by omega, rfl, rfl, Lib.hid ⟨HLay.out, Own.none_ _ _ _ _, rfl⟩⟩
  case round =>
   clear HLay
   obtain ⟨k, A5, c5, hk, rfl, rfl, HS⟩ := hrel
   have hlay := HS.out.1
   have HLay := Lib.hid hlay
   have hW3 : w.heap.size + 3 ≤ wr.heap.size := by have := hlay.lt 2 rfl; omega
   have x0 := (HLay.out.blk 0 rfl).cell 0
   have x1 := (HLay.out.blk 0 rfl).cell 1
   have x2 := (HLay.out.blk 0 rfl).cell 2
   have x3 := (HLay.out.blk 0 rfl).cell 3
   have xl := HLay.out.lt 0 rfl
   clear hlay
   by_cases hlt : k < nv
   ·clear x0 x1 x2 x3 xl
    obtain ⟨b, off, x, rfl, hbB, hx, hc0, hc1⟩ := (HM.out.below HLay.out.1).vess hlt
    have HX := Lib.hid hx
    clear hx
    go_upto_region 8 with fail
    have hb1 : Below wr.heap.size wr (wr.alloc (.cells #[.int .i64 x.id, .int .i64 x.size] 80)) := (Below.refl _ _).alloc (Nat.le_refl _) _
    have HN := Lib.hid (Blk.new wr 80 #[.int .i64 x.id, .int .i64 x.size])
    obtain ⟨g8, hg8⟩ : ∃ g, wr.heap.size = g := ⟨_, rfl⟩
    generalize wr.alloc (.cells #[.int .i64 x.id, .int .i64 x.size] 80) = wa at *
    have HB1 := Lib.hid hb1
    rw [hg8] at HN ⊢
    have y1 := HN.out.cell 1
    have yl := HN.out.lt
    clear hb1 hc0 hc1
    go_wp2_with fail
    have Y := IntsAt.new wa 3 [x.size] (wa.heap.size + 1) (by omega)
    refine (in_any 1 12 (some ⟨wa.heap.size, 0, none⟩) 1 1 [x.size] _ (Y.more (by simp)) (by decide)).mono ?_
    rintro e W ⟨rfl, hb⟩
    have hb0 : Below wa.heap.size wa W := ((Below.refl _ _).alloc (Nat.le_refl _) _).trans (hb.mono (by simp))
    have HB := Lib.hid (HB1.out.trans (hb0.mono HB1.out.size))
    have HN2 := Lib.hid (HN.out.below hb0 HN.out.lt)
    clear hb hb0 y1 yl Y HN HB1
    rw [vessB_in]
    have HAS := Lib.hid (all_step HX.out HS.out.2.2)
    cases hv : vessB x with
    | false =>
     rw [hv] at HAS
     clear hv
     go_wp2_with fail
     refine bodyPost_ret (v := .tuple #[.pointer none, .bool false]) (by simp [results, Try.results39, go_sem]) rfl (LaidOut.bad (bad_vess ?_) (HLay.out.1.trans (HB.out.mono HLay.out.1.size)))
     cases h0 : m.vessels.all vessB with
     | false => rfl
     | true => exact absurd ((all_pre (k := k + 1) h0).symm.trans HAS.out) (by decide)
    | true =>
     rw [hv] at HAS
     clear hv
     have z0 := HN2.out.cell 0
     have zl := HN2.out.lt
     have HO := Lib.hid (HS.out.2.1.below HB.out (Nat.le_refl _))
     go_wp2_with (at_builtin; refine wpList_append_any _ rfl _ _ rfl elem_int rfl (HO.out.alloc _) rfl (one_int (x := x.id) (Nat.lt_succ_self _) (by simp [go_sem])) (ints_one _) (by unfold maxLen; omega) (by omega) (by have := HB.out.size; simp; omega) ?_)
     rintro A2 cap2 w2 hown hg hA
     have hrow := own_row HO.out
     have hla := lay3_row ((HLay.out.below HB.out).below ((Below.refl _ _).alloc (Nat.le_refl _) _)) hg (fun r e => (hrow r e).1)
     have HLA2 := Lib.hid hla
     have HOW := Lib.hid hown
     clear hown hg hA hrow hla z0 zl
     go_wp2_with fail
     go_roundw
     case rel =>
      refine ⟨k + 1, A2, cap2, by omega, by go_num, rfl, Lib.hid ⟨HLA2.out, ?_, HAS.out⟩⟩
      obtain ⟨h1, h2⟩ := List.getElem?_eq_some_iff.1 HX.out
      rw [List.take_succ_eq_append_getElem h1, h2]
      simpa using HOW.out
     case measure => simp [intOf]; omega
   ·obtain rfl : nv = k := by omega
    have hz : m.vessels.all vessB = true := by
     have := HS.out.2.2
     rwa [List.take_of_length_le (by have := HLV.out; omega)] at this
    have hO : Own wr (w.heap.size + 3) 3 1 A5 nv c5 ((m.vessels.map (·.id)).map (Value.int .i64)) := by
     have := HS.out.2.1
     rwa [List.take_of_length_le (by have := HLV.out; omega)] at this
    have HZ := Lib.hid hz
    have HO := Lib.hid hO
    clear hz hO
    go_wp2_with fail
    clear x0 x1 x2 x3 xl
    obtain ⟨wo, rfl⟩ : ∃ wo, wo = wr := ⟨_, rfl⟩
    go_loopw [6, 61] (fun v6 i wr => ∃ (k : Nat) (A6 : Option Addr) (c6 : Nat), k ≤ nt ∧ i = .int .i64 k ∧ v6 = .slice A6 k c6 ∧ Hid (LdB w wr [(w.heap.size, 26, #[.int .i64 m.fountains, .slice Av nv cv, .slice Aa na ca, .slice At nt ct]), (w.heap.size + 1, 97, #[.int .i64 0, .int .i64 0, .int .i64 0, .int .i64 0]), (w.heap.size + 1 + 1, 123, #[.int .i64 m.fountains, .slice Av nv cv, .slice Aa na ca, .slice At nt ct, .slice (some ⟨w.heap.size + 1, 0, none⟩) 1 1])] A5 nv c5 A6 k c6 m))
     (fun _ i _ => nt - (intOf i).toNat)
    case atStart => exact ⟨0, none, 0, by omega, rfl, rfl, Lib.hid ⟨HLay.out, HO.out, Own.none_ _ _ _ _, fun a b _ h => (by cases h), rfl⟩⟩
    case round =>
     clear HLay HO HS
     obtain ⟨k, A6, c6, hk2, rfl, rfl, HS⟩ := hrel
     have hlay := HS.out.1
     have HLay := Lib.hid hlay
     have hW3 : w.heap.size + 3 ≤ wr.heap.size := by have := hlay.lt 2 rfl; omega
     have x0 := (HLay.out.blk 0 rfl).cell 0
     have x1 := (HLay.out.blk 0 rfl).cell 1
     have x2 := (HLay.out.blk 0 rfl).cell 2
     have x3 := (HLay.out.blk 0 rfl).cell 3
     have xl := HLay.out.lt 0 rfl
     clear hlay
     by_cases hlt : k < nt
     ·clear x0 x1 x2 x3 xl
      obtain ⟨b, off, x, rfl, hbB, hx, hc0, hc1, hc2, hc3, hc4, hc5⟩ := (HM.out.below HLay.out.1).tast hlt
      have HX := Lib.hid hx
      clear hx
      go_upto_region 15 with fail
      have hb1 : Below wr.heap.size wr (wr.alloc (.cells #[.int .i64 x.num, .int .i64 x.vessel, .int .i64 x.after, .int .i64 x.fountain, .int .i64 x.lo, .int .i64 x.hi] 65)) := (Below.refl _ _).alloc (Nat.le_refl _) _
      have HN := Lib.hid (Blk.new wr 65 #[.int .i64 x.num, .int .i64 x.vessel, .int .i64 x.after, .int .i64 x.fountain, .int .i64 x.lo, .int .i64 x.hi])
      obtain ⟨g8, hg8⟩ : ∃ g, wr.heap.size = g := ⟨_, rfl⟩
      generalize wr.alloc (.cells #[.int .i64 x.num, .int .i64 x.vessel, .int .i64 x.after, .int .i64 x.fountain, .int .i64 x.lo, .int .i64 x.hi] 65) = wa at *
      have HB1 := Lib.hid hb1
      rw [hg8] at HN ⊢
      have y1 := HN.out.cell 1
      have yl := HN.out.lt
      clear hb1 hc0 hc1 hc2 hc3 hc4 hc5
      go_wp2_with fail
      refine (vessel_any ⟨w.heap.size + 1 + 1, Av, nv, cv, Aa, na, ca, some ⟨b, off, none⟩, nt, ct, some ⟨w.heap.size + 1, 0, none⟩, 1, 1, m, [zeroH]⟩ x.vessel wa (tb_first (HLay.out.below HB1.out) HM.out ⟨hn4, hn12, hn8⟩)).mono ?_
      rintro e W ⟨rfl, hb⟩
      have HB := Lib.hid (HB1.out.trans (hb.mono HB1.out.size))
      have HN2 := Lib.hid (HN.out.below hb HN.out.lt)
      clear hb y1 yl HN HB1
      dsimp only
      by_cases hj : idxV m.vessels x.vessel < 0
      ·have HTB : Hid (tastB m x = false) := Lib.hid (by unfold tastB; exact decide_eq_false (by omega))
       go_wp2_with fail
       refine bodyPost_ret (v := .tuple #[.pointer none, .bool false]) (by simp [results, Try.results39, go_sem]) rfl (LaidOut.bad (bad_tast (tast_no HX.out HTB.out)) (HLay.out.1.trans (HB.out.mono HLay.out.1.size)))
      ·have hj2 : 0 ≤ idxV m.vessels x.vessel := by omega
       have q2 := ((HLay.out.below HB.out).blk 0 rfl).cell 2
       have ql := (HLay.out.below HB.out).lt 0 rfl
       have y2 := HN2.out.cell 2
       have yl := HN2.out.lt
       go_wp2_with fail
       have Y := IntsAt.new W 3 [x.after] (W.heap.size + 1) (by omega)
       refine (in_any 0 na (some ⟨W.heap.size, 0, none⟩) 1 1 [x.after] _ (Y.more (by simp)) (by decide)).mono ?_
       rintro e W2 ⟨rfl, hb⟩
       have hb0 : Below W.heap.size W W2 := ((Below.refl _ _).alloc (Nat.le_refl _) _).trans (hb.mono (by simp))
       replace HB := Lib.hid (HB.out.trans (hb0.mono HB.out.size))
       replace HN2 := Lib.hid (HN2.out.below hb0 HN2.out.lt)
       clear hb hb0 yl Y y2 q2 ql
       obtain ⟨W, rfl⟩ : ∃ W, W = W2 := ⟨_, rfl⟩
       rw [inB_one]
       by_cases ha : 0 ≤ x.after ∧ x.after ≤ (na : Int)
       ·rw [decide_eq_true ha]
        have q0 := ((HLay.out.below HB.out).blk 0 rfl).cell 0
        have ql := (HLay.out.below HB.out).lt 0 rfl
        have y3 := HN2.out.cell 3
        have yl := HN2.out.lt
        have HAF := Lib.hid ha
        clear ha
        go_wp2_with fail
        have Y := IntsAt.new W 3 [x.fountain] (W.heap.size + 1) (by omega)
        refine (in_any 1 m.fountains (some ⟨W.heap.size, 0, none⟩) 1 1 [x.fountain] _ (Y.more (by simp)) (by decide)).mono ?_
        rintro e W2 ⟨rfl, hb⟩
        have hb0 : Below W.heap.size W W2 := ((Below.refl _ _).alloc (Nat.le_refl _) _).trans (hb.mono (by simp))
        replace HB := Lib.hid (HB.out.trans (hb0.mono HB.out.size))
        replace HN2 := Lib.hid (HN2.out.below hb0 HN2.out.lt)
        clear hb hb0 yl Y y3 q0 ql
        obtain ⟨W, rfl⟩ : ∃ W, W = W2 := ⟨_, rfl⟩
        rw [inB_one]
        by_cases hf : 1 ≤ x.fountain ∧ x.fountain ≤ m.fountains
        ·rw [decide_eq_true hf]
         have y4 := HN2.out.cell 4
         have y5 := HN2.out.cell 5
         have yl := HN2.out.lt
         have HFF := Lib.hid hf
         clear hf
         by_cases hlo : x.lo < 0
         ·have HTB : Hid (tastB m x = false) := Lib.hid (by unfold tastB; exact decide_eq_false (by omega))
          go_wp2_with fail
          refine bodyPost_ret (v := .tuple #[.pointer none, .bool false]) (by simp [results, Try.results39, go_sem]) rfl (LaidOut.bad (bad_tast (tast_no HX.out HTB.out)) (HLay.out.1.trans (HB.out.mono HLay.out.1.size)))
         ·by_cases hhi : x.hi < x.lo
          ·have HTB : Hid (tastB m x = false) := Lib.hid (by unfold tastB; exact decide_eq_false (by omega))
           go_wp2_with fail
           refine bodyPost_ret (v := .tuple #[.pointer none, .bool false]) (by simp [results, Try.results39, go_sem]) rfl (LaidOut.bad (bad_tast (tast_no HX.out HTB.out)) (HLay.out.1.trans (HB.out.mono HLay.out.1.size)))
          ·have HTB : Hid (tastB m x = true) := Lib.hid (by unfold tastB; have := HAF.out; have := HFF.out; have := HLA.out; exact decide_eq_true (by omega))
           have y0 := HN2.out.cell 0
           have HO5 := Lib.hid (HS.out.2.1.below HB.out (Nat.le_refl _))
           have HO6 := Lib.hid (HS.out.2.2.1.below HB.out (Nat.le_refl _))
           have HNE := Lib.hid HS.out.2.2.2.1
           have HAS : Hid ((m.tastes.take (k + 1)).all (tastB m) = true) := Lib.hid ((all_step HX.out HS.out.2.2.2.2).trans HTB.out)
           go_wp2_with (at_builtin; refine wpList_append_any _ rfl _ _ rfl elem_int rfl (HO6.out.alloc _) rfl (one_int (x := x.num) (Nat.lt_succ_self _) (by simp [go_sem])) (ints_one _) (by unfold maxLen; omega) (by omega) (by have := HB.out.size; simp; omega) ?_)
           rintro A2 cap2 w2 hown hg hA
           have hrow := own_row HO6.out
           have hla := lay3_row ((HLay.out.below HB.out).below ((Below.refl _ _).alloc (Nat.le_refl _) _)) hg (fun r e => (hrow r e).1)
           have HLA2 := Lib.hid hla
           have HOW := Lib.hid hown
           have HO52 := Lib.hid ((HO5.out.alloc (.cells #[.int .i64 x.num] 3)).grown hg (fun a ha e => by
            cases h6 : A6 with
            | none => rw [h6] at e; cases e
            | some b => rw [h6] at e; exact HNE.out a b ha h6 (Option.some.inj e)))
           have HNE2 : Hid (∀ a b, A5 = some a → A2 = some b → a.block ≠ b.block) := Lib.hid (fun a b ha hb => by
            rcases hA with e | e
            ·exact HNE.out a b ha (e ▸ hb)
            ·rw [e] at hb
             cases hb
             have := (HO5.out.lt ha).2
             simp
             omega)
           clear hown hg hA hrow hla y0 y4 y5 yl
           go_wp2_with fail
           go_roundw
           case rel =>
            refine ⟨k + 1, A2, cap2, by omega, by go_num, rfl, Lib.hid ⟨HLA2.out, HO52.out, ?_, HNE2.out, HAS.out⟩⟩
            obtain ⟨h1, h2⟩ := List.getElem?_eq_some_iff.1 HX.out
            rw [List.take_succ_eq_append_getElem h1, h2]
            simpa using HOW.out
           case measure => simp [intOf]; omega
        ·rw [decide_eq_false hf]
         have HTB : Hid (tastB m x = false) := Lib.hid (by unfold tastB; exact decide_eq_false (by omega))
         clear hf
         have y4 := HN2.out.cell 4
         go_wp2_with fail
         refine bodyPost_ret (v := .tuple #[.pointer none, .bool false]) (by simp [results, Try.results39, go_sem]) rfl (LaidOut.bad (bad_tast (tast_no HX.out HTB.out)) (HLay.out.1.trans (HB.out.mono HLay.out.1.size)))
       ·rw [decide_eq_false ha]
        have HTB : Hid (tastB m x = false) := Lib.hid (by unfold tastB; have := HLA.out; exact decide_eq_false (by omega))
        clear ha
        go_wp2_with fail
        refine bodyPost_ret (v := .tuple #[.pointer none, .bool false]) (by simp [results, Try.results39, go_sem]) rfl (LaidOut.bad (bad_tast (tast_no HX.out HTB.out)) (HLay.out.1.trans (HB.out.mono HLay.out.1.size)))
     ·obtain rfl : nt = k := by omega
      have hz : m.tastes.all (tastB m) = true := by
       have := HS.out.2.2.2.2
       rwa [List.take_of_length_le (by have := HLT.out; omega)] at this
      have hO6 : Own wr (w.heap.size + 3) 3 1 A6 nt c6 ((m.tastes.map (·.num)).map (Value.int .i64)) := by
       have := HS.out.2.2.1
       rwa [List.take_of_length_le (by have := HLT.out; omega)] at this
      have HZT := Lib.hid hz
      have HO6 := Lib.hid hO6
      have HO5 := Lib.hid HS.out.2.1
      have HNE := Lib.hid HS.out.2.2.2.1
      clear hz hO6
      go_wp2_with fail
      clear x0 x1 x2 x3 xl HS
      obtain ⟨wp, rfl⟩ : ∃ wp, wp = wr := ⟨_, rfl⟩
      have hst : LdC w wp ⟨w.heap.size + 1 + 1, Av, nv, cv, Aa, na, ca, At, nt, ct, some ⟨w.heap.size + 1, 0, none⟩, 1, 1, m, [zeroH]⟩ A5 c5 A6 c6 0 := by
       refine ⟨tb_own HLay.out HM.out ⟨hn4, hn12, hn8⟩, HLay.out.1, rfl, ?_, ⟨HO5.out, HO6.out⟩, ?_⟩
       ·intro j u hu
        match j, hu with
        | 0, hu =>
         have e : zeroH = u := by simpa using hu
         rw [← e]
         exact zero_range
       ·intro a ha
        have hlt : w.heap.size + 3 ≤ a.block ∧ a.block < wp.heap.size := by
         rcases ha with ha | ha
         ·exact HO5.out.lt ha
         ·exact HO6.out.lt ha
        refine ⟨hlt.2, by dsimp only; omega, ?_⟩
        simp
        omega
      have HST := Lib.hid hst
      clear hst HLay HO5 HO6 HNE hW3
      go_loopw [113] (fun i wr => ∃ (k : Nat) (AA : Option Addr) (cl : Nat) (L : List Held), k ≤ na ∧ i = .int .i64 k ∧ Hid (LdC w wr ⟨w.heap.size + 1 + 1, Av, nv, cv, Aa, na, ca, At, nt, ct, AA, k + 1, cl, m, L⟩ A5 c5 A6 c6 k))
       (fun i _ => na - (intOf i).toNat)
      case atStart => exact ⟨0, _, _, _, by omega, rfl, HST⟩
      case round =>
       clear HST
       obtain ⟨k, AA, cl, L, hk3, rfl, HS⟩ := hrel
       by_cases hlt : k < na
       ·have hx : m.acts[k]? = some (m.acts[k]'(by have := HLA.out; omega)) := List.getElem?_eq_getElem (by have := HLA.out; omega)
        obtain ⟨x, hx'⟩ : ∃ x, m.acts[k]'(by have := HLA.out; omega) = x := ⟨_, rfl⟩
        rw [hx'] at hx
        have hlen : L.length = k + 1 := by
         have : L.length = (m.acts.take k).length + 1 := allM_len m _ L HS.out.2.2.1
         rw [List.length_take, Nat.min_eq_left (by have := HLA.out; omega)] at this
         exact this
        have hs : L[k]? = some (L[k]'(by omega)) := List.getElem?_eq_getElem (by omega)
        obtain ⟨s, hs'⟩ : ∃ s, L[k]'(by omega) = s := ⟨_, rfl⟩
        rw [hs'] at hs
        have HX := Lib.hid hx
        have HSS := Lib.hid hs
        have hr := HS.out.2.2.2.1 k s hs
        have HR := Lib.hid (And.intro hr.1 (fun q : Nat => show 0 ≤ heldAt s q ∧ heldAt s q ≤ 1000 from ⟨(hr.2 q).1, by have := (hr.2 q).2; omega⟩))
        have HVZ := Lib.hid (vesOk_of HZ.out)
        have HC := Lib.hid (callsIn_wide.1 (act_in w.heap.size ⟨w.heap.size + 1 + 1, Av, nv, cv, Aa, na, ca, At, nt, ct, AA, k + 1, cl, m, L⟩ k x s wr HS.out.1 hx hs (by show k + 1 ≤ 12; omega) HVZ.out HR.out))
        clear hx hx' hs hs' hr hlen
        go_wp2_with fail
        refine HC.out.mono ?_
        rintro e W (⟨hn, rfl, hb⟩ | ⟨A9, c9, hsm, rfl, hT, hb, hkk, hA⟩)
        ·have HN := Lib.hid hn
         have HB := Lib.hid (HS.out.2.1.trans (hb.mono HS.out.2.1.size))
         clear hn hb HC
         go_wp2_with fail
         refine bodyPost_ret (v := .tuple #[.pointer none, .bool false]) (by simp [results, Try.results39, go_sem]) rfl (LaidOut.bad (bad_acts (allM_fail (k := k + 1) ?_)) HB.out)
         rw [allM_take HX.out HS.out.2.2.1 HSS.out]
         cases hd : doneM m s x with
         | none => rfl
         | some s' => have := HN.out; rw [hd] at this; cases this
        ·obtain ⟨s', hd⟩ := Option.isSome_iff_exists.1 hsm
         have he := (done_ok hd HR.out.1 (by have := HLV.out; omega)).2
         rw [← he] at hT
         have HN := Lib.hid (ldc_step HS.out HX.out HSS.out hd HVZ.out hT hb hkk hA)
         clear hsm hd he hT hb hkk hA HC
         go_wp2_with fail
         go_roundw
         case rel => exact ⟨k + 1, A9, c9, L ++ [s'], by omega, by go_num, HN⟩
         case measure => simp [intOf]; omega
       ·obtain rfl : na = k := by omega
        have hL : allM m m.acts = some L := by
         have : allM m (m.acts.take na) = some L := HS.out.2.2.1
         rwa [List.take_of_length_le (by have := HLA.out; omega)] at this
        have HL := Lib.hid hL
        clear hL
        go_wp2_with fail
        refine (rising_any A5 nv c5 (m.vessels.map (·.id)) wr (ints_of_own HS.out.2.2.2.2.1.1 (Nat.le_refl _)) hnv).mono ?_
        rintro e W ⟨rfl, hb⟩
        have HB := Lib.hid hb
        have HO6 := Lib.hid (HS.out.2.2.2.2.1.2.below hb (Nat.le_refl _))
        clear hb
        cases hr : risB 0 (m.vessels.map (·.id)) with
        | false =>
         have HRB := Lib.hid hr
         clear hr
         go_wp2_with fail
         refine bodyPost_ret (v := .tuple #[.pointer (some ⟨w.heap.size + 1 + 1, 0, none⟩), .bool false]) (by simp [results, Try.results39, go_sem]) rfl ?_
         have hno : okMix m = false := by rw [ok_rest HG.out HZ.out HZT.out HL.out, HRB.out]; rfl
         exact ⟨_, by rw [hno], HS.out.2.1.trans (HB.out.mono HS.out.2.1.size), fun h' => by rw [hno] at h'; cases h'⟩
        | true =>
         have HRB := Lib.hid hr
         clear hr
         go_wp2_with fail
         refine (rising_any A6 nt c6 (m.tastes.map (·.num)) W (ints_of_own HO6.out (Nat.le_refl _)) hnt).mono ?_
         rintro e W2 ⟨rfl, hb⟩
         have HB2 := Lib.hid (HB.out.trans (hb.mono HB.out.size))
         clear hb
         have HOK : Hid (okMix m = risB 0 (m.tastes.map (·.num))) := Lib.hid (by rw [ok_rest HG.out HZ.out HZT.out HL.out, HRB.out, Bool.true_and])
         go_wp2_with fail
         refine bodyPost_ret (v := .tuple #[.pointer (some ⟨w.heap.size + 1 + 1, 0, none⟩), .bool (risB 0 (m.tastes.map (·.num)))]) (by simp [results, Try.results39, go_sem]) rfl ?_
         refine ⟨_, by rw [HOK.out], HS.out.2.1.trans (HB2.out.mono HS.out.2.1.size), fun _ => ⟨_, AA, na + 1, cl, L, rfl, by omega, HL.out, ?_⟩⟩
         exact HS.out.1.below HB2.out
 ·have HB := Lib.hid (bad_limits hG)
  cases hi : inB 1 4 [m.fountains] with
  | false =>
   clear hi
   go_wp2_with fail
   exact bodyPost_ret (v := .tuple #[.pointer none, .bool false]) (by simp [results, Try.results39, go_sem]) rfl (LaidOut.bad HB.out HLay.out.1)
  | true =>
   have h2 : ¬ (nv ≤ 4 ∧ na ≤ 12 ∧ nt ≤ 8) := by
    rw [inB_one] at hi
    have := of_decide_eq_true hi
    rw [← HLV.out, ← HLA.out, ← HLT.out]
    exact fun h2 => hG ⟨this, h2⟩
   clear hi hG
   by_cases q1 : nv ≤ 4
   ·have d1 : (nv : Int) ≤ 4 := by omega
    by_cases q2 : na ≤ 12
    ·have d2 : (na : Int) ≤ 12 := by omega
     have d3 : ¬ (nt : Int) ≤ 8 := by omega
     clear h2
     go_wp2_with fail
     exact bodyPost_ret (v := .tuple #[.pointer none, .bool false]) (by simp [results, Try.results39, go_sem]) rfl (LaidOut.bad HB.out HLay.out.1)
    ·have d2 : ¬ (na : Int) ≤ 12 := by omega
     clear h2
     go_wp2_with fail
     exact bodyPost_ret (v := .tuple #[.pointer none, .bool false]) (by simp [results, Try.results39, go_sem]) rfl (LaidOut.bad HB.out HLay.out.1)
   ·have d1 : ¬ (nv : Int) ≤ 4 := by omega
    clear h2
    go_wp2_with fail
    exact bodyPost_ret (v := .tuple #[.pointer none, .bool false]) (by simp [results, Try.results39, go_sem]) rfl (LaidOut.bad HB.out HLay.out.1)
end Go.Proofs.Ythofngceiecniaa
/- What is told of mixed water, as predicates that one answer alone meets (plain). -/
namespace Go.Proofs.Ythofngceiecniaa

/-- The error of mixed water, a vessel, a time, and fountains. -/
def askM (m : Mix) (vessel after : Int) (fs : List Int) : Int :=
 if okMix m = true then (if idxV m.vessels vessel < 0 then 6 else if (0 ≤ after ∧ after ≤ m.acts.length) ∧ ∀ f ∈ fs, 1 ≤ f ∧ f ≤ m.fountains then 0 else 2) else 40
def HoldsIs (m : Mix) (vessel after : Int) (n e : Int) : Prop :=
 (askM m vessel after [] ≠ 0 ∧ n = 0 ∧ e = askM m vessel after []) ∨ (askM m vessel after [] = 0 ∧ e = 0 ∧ ∃ A a, allM m m.acts = some A ∧ A[after.toNat]? = some a ∧ n = heldAt a (idxV m.vessels vessel))
/-- The spans: no truth, or the least and the greatest of some numbers. -/
def TellIs (m : Mix) (f : Int) (P : List Held → Int → Prop) (s : Int × Int) (e : Int) : Prop :=
 ∃ A, allM m m.acts = some A ∧ ((¬ Truth m f A 0 zeroH ∧ s = (0, 0) ∧ e = 8) ∨ (Truth m f A 0 zeroH ∧ e = 0 ∧ IsSpan (P A) s))
def GuardIs (g : Int) (T : Int × Int → Int → Prop) (s : Int × Int) (e : Int) : Prop := (g ≠ 0 ∧ s = (0, 0) ∧ e = g) ∨ (g = 0 ∧ T s e)
def OfP (m : Mix) (vessel after f : Int) (A : List Held) (n : Int) : Prop := ∃ x, Truth m f A after.toNat x ∧ heldAt x (idxV m.vessels vessel) = n
def OfIs (m : Mix) (vessel after f : Int) : Int × Int → Int → Prop := GuardIs (askM m vessel after [f]) (TellIs m f (OfP m vessel after f))
def actM (m : Mix) (act f : Int) : Int := if okMix m = true then (if (1 ≤ act ∧ act ≤ m.acts.length) ∧ 1 ≤ f ∧ f ≤ m.fountains then 0 else 2) else 40
def MovedP (m : Mix) (act f : Int) (A : List Held) (n : Int) : Prop :=
 ∃ x all s, m.acts[act.toNat - 1]? = some x ∧ A[act.toNat - 1]? = some all ∧ Truth m f A (act.toNat - 1) s ∧ (spanP m x f all s).1 ≤ n ∧ n ≤ (spanP m x f all s).2 ∧ Truth m f A act.toNat (shiftH s (fromI m x) (toI m x) n)
def MovedIs (m : Mix) (act f : Int) : Int × Int → Int → Prop := GuardIs (actM m act f) (TellIs m f (MovedP m act f))
def goneM (m : Mix) (f : Int) : Int := if okMix m = true then (if 1 ≤ f ∧ f ≤ m.fountains then 0 else 2) else 40
def filledM (m : Mix) (f : Int) : Int := m.acts.foldl (fun n x => if x.kind = 1 ∧ x.fr = f then n + x.drops else n) 0
def sumH (s : Held) : Int := heldAt s 0 + heldAt s 1 + heldAt s 2 + heldAt s 3
def GoneP (m : Mix) (f : Int) (A : List Held) (n : Int) : Prop := ∃ s, Truth m f A m.acts.length s ∧ n = filledM m f - sumH s
def GoneIs (m : Mix) (f : Int) : Int × Int → Int → Prop := GuardIs (goneM m f) (TellIs m f (GoneP m f))
section
variable {m : Mix} {f g e e' : Int} {s s' : Int × Int} {P : List Held → Int → Prop} {T : Int × Int → Int → Prop}
theorem HoldsIs.same {v a n n' : Int} (h : HoldsIs m v a n e) (h' : HoldsIs m v a n' e') : n = n' ∧ e = e' := by
 rcases h with ⟨h0, rfl, rfl⟩ | ⟨h0, rfl, A, x, hA, hx, rfl⟩ <;> rcases h' with ⟨k0, rfl, rfl⟩ | ⟨k0, rfl, B, y, hB, hy, rfl⟩
 ·exact ⟨rfl, rfl⟩
 ·exact absurd k0 h0
 ·exact absurd h0 k0
 ·rw [hA] at hB
  cases hB
  rw [hx] at hy
  cases hy
  exact ⟨rfl, rfl⟩
theorem TellIs.same (h : TellIs m f P s e) (h' : TellIs m f P s' e') : s = s' ∧ e = e' := by
 obtain ⟨A, hA, h⟩ := h
 obtain ⟨B, hB, h'⟩ := h'
 rw [hA] at hB
 cases hB
 rcases h with ⟨h0, rfl, rfl⟩ | ⟨h0, rfl, h1⟩ <;> rcases h' with ⟨k0, rfl, rfl⟩ | ⟨k0, rfl, k1⟩
 ·exact ⟨rfl, rfl⟩
 ·exact absurd k0 h0
 ·exact absurd h0 k0
 ·exact ⟨h1.same k1, rfl⟩
theorem GuardIs.same (hT : ∀ {s s' e e'}, T s e → T s' e' → s = s' ∧ e = e') (h : GuardIs g T s e) (h' : GuardIs g T s' e') : s = s' ∧ e = e' := by
 rcases h with ⟨h0, rfl, rfl⟩ | ⟨h0, h1⟩ <;> rcases h' with ⟨k0, rfl, rfl⟩ | ⟨k0, k1⟩
 ·exact ⟨rfl, rfl⟩
 ·exact absurd k0 h0
 ·exact absurd h0 k0
 ·exact hT h1 k1
theorem OfIs.same {v a : Int} (h : OfIs m v a f s e) (h' : OfIs m v a f s' e') : s = s' ∧ e = e' := GuardIs.same TellIs.same h h'
theorem MovedIs.same {a : Int} (h : MovedIs m a f s e) (h' : MovedIs m a f s' e') : s = s' ∧ e = e' := GuardIs.same TellIs.same h h'
theorem GoneIs.same (h : GoneIs m f s e) (h' : GoneIs m f s' e') : s = s' ∧ e = e' := GuardIs.same TellIs.same h h'
theorem okMix_all (h : okMix m = true) : ∃ A, allM m m.acts = some A := by
 unfold okMix at h
 simp only [Bool.and_eq_true] at h
 exact Option.isSome_iff_exists.1 h.1.1.2
theorem okMix_vess (h : okMix m = true) : m.vessels.length ≤ 4 ∧ m.acts.length ≤ 12 ∧ m.tastes.length ≤ 8 ∧ 1 ≤ m.fountains ∧ m.fountains ≤ 4 := by
 unfold okMix at h
 simp only [Bool.and_eq_true, decide_eq_true_eq] at h
 omega
end
end Go.Proofs.Ythofngceiecniaa
/- mix.Check, mix.placed, mix.Holds. -/
namespace Go.Proofs.Ythofngceiecniaa
open Go.RowKit

/-- Mixed water as a value. -/
structure MixS (w : World) (Av : Option Addr) (nv : Nat) (Aa : Option Addr) (na : Nat) (At : Option Addr) (nt : Nat) (m : Mix) : Prop where
 at_ : MixAt w w.heap.size Av nv Aa na At nt m
 hv : nv ≤ 1000
 ha : na ≤ 1000
 ht : nt ≤ 1000
theorem MixS.up {w w' : World} {Av Aa At : Option Addr} {nv na nt : Nat} {m : Mix} (h : MixS w Av nv Aa na At nt m) (hb : Below w.heap.size w w') : MixS w' Av nv Aa na At nt m := ⟨h.at_.up hb, h.hv, h.ha, h.ht⟩
theorem MixS.laid {w : World} {Av Aa At : Option Addr} {nv cv na ca nt ct : Nat} {m : Mix} (h : MixS w Av nv Aa na At nt m) :
  Calls Try.prog 39 #[.agg #[.int .i64 m.fountains, .slice Av nv cv, .slice Aa na ca, .slice At nt ct]] w (LaidOut w Av nv cv Aa na ca At nt ct m) := laid_any Av nv cv Aa na ca At nt ct m w h.at_ h.hv h.ha h.ht
end Go.Proofs.Ythofngceiecniaa
/- What a table of valid mixed water holds. -/
namespace Go.Proofs.Ythofngceiecniaa
open Go.RowKit

theorem allM_range {m : Mix} {l : List MAct} {A : List Held} (h : allM m l = some A) (hv : m.vessels.length ≤ 4) (hz : VesOk m) : ∀ {t : Nat} {a : Held}, A[t]? = some a → a.length = 4 ∧ ∀ q : Nat, 0 ≤ heldAt a q ∧ heldAt a q ≤ 12 := by
 intro t
 induction t with
 | zero => intro a ha; rw [allM_zero h] at ha; cases ha; exact ⟨rfl, fun q => by
   match q with
   | 0 => decide
   | 1 => decide
   | 2 => decide
   | 3 => decide
   | q + 4 =>
    have : heldAt zeroH ((q + 4 : Nat) : Int) = 0 := by
     unfold heldAt
     rw [List.getElem?_eq_none (by simp [zeroH]; omega)]
     rfl
    rw [this]
    decide⟩
 | succ t ih =>
  intro a ha
  have hl := allM_len m l A h
  have ht : t < l.length := by
   have := (List.getElem?_eq_some_iff.1 ha).1
   omega
  obtain ⟨b, b', h1, h2, h3⟩ := allM_step h (List.getElem?_eq_getElem ht)
  rw [ha] at h2
  cases h2
  have := ih h1
  exact done_range hv hz this.1 this.2 h3
/-- Mixed water that is valid, and what it holds at all times. -/
structure TbOk (T : Tb) : Prop where
 ok : okMix T.m = true
 all : allM T.m T.m.acts = some T.L
section
variable {T : Tb} {x : MAct} {k : Nat}
theorem okMix_ves {m : Mix} (h : okMix m = true) : VesOk m := by
 unfold okMix at h
 simp only [Bool.and_eq_true] at h
 exact vesOk_of h.1.1.1.1.2
theorem TbOk.vess (h : TbOk T) : T.m.vessels.length ≤ 4 := (okMix_vess h.ok).1
theorem TbOk.acts (h : TbOk T) : T.m.acts.length ≤ 12 := (okMix_vess h.ok).2.1
theorem TbOk.long (h : TbOk T) : T.L.length = T.m.acts.length + 1 := allM_len _ _ _ h.all
structure ActAt (T : Tb) (k : Nat) (x : MAct) (all : Held) : Prop where
 hx : T.m.acts[k]? = some x
 ha : T.L[k]? = some all
 ok : ActOk T.m all x
 len : all.length = 4
 rng : ∀ q : Nat, 0 ≤ heldAt all q ∧ heldAt all q ≤ 12
 size : 0 ≤ sizeA T.m all x ∧ sizeA T.m all x ≤ 2000
 four : x.kind = 4 → 0 ≤ fromI T.m x
 apart : fromI T.m x ≠ toI T.m x ∨ fromI T.m x < 0
 next : T.L[k + 1]? = some (shiftH all (fromI T.m x) (toI T.m x) (sizeA T.m all x))
theorem TbOk.at_ (h : TbOk T) (hx : T.m.acts[k]? = some x) : ∃ all, ActAt T k x all := by
 have hl := h.long
 have hk := (List.getElem?_eq_some_iff.1 hx).1
 obtain ⟨a, a', h1, h2, h3⟩ := allM_step h.all hx
 have hr := allM_range h.all h.vess (okMix_ves h.ok) h1
 obtain ⟨h4, h5⟩ := act_ok h.all h.vess hx h1
 have h6 := size_small h.vess (okMix_ves h.ok) ⟨hr.1, fun q => by have := hr.2 q; omega⟩ (by rw [h3]; rfl)
 exact ⟨a, hx, h1, h4, hr.1, hr.2, ⟨h6.1, h6.2.1⟩, h6.2.2.1, h6.2.2.2, h5⟩
end
theorem ActAt.kindOk {T : Tb} {k : Nat} {x : MAct} {all : Held} (h : ActAt T k x all) : KindOk x := h.ok.kind
end Go.Proofs.Ythofngceiecniaa
/- A map as an association list: made, looked up, stored into, deleted from, ranged over. -/
namespace Go.Proofs.Ythofngceiecniaa
open Go.RowKit Go.MapKept
open Go.ChangeMaps (setBlock heap_setBlock_other heap_setBlock_same)
open Go.Maps (Keyed)
set_option linter.unusedSectionVars false

/-- How keys and elements lie. -/
structure MapTy (P : Program) (t k e : TypeId) (α β : Type) (encK : α → Value) (encV : β → Value) (ok : α → Prop) (zero : Value) : Prop where
 und : P.underlying t = some (.map k e)
 keyed : Keyed P k
 reads : ∀ x, ok x → ∃ l, keyOf P k (encK x) = some l
 inj : ∀ x y, encK x = encK y → x = y
 zero : ∀ w, (zeroValue e).run P w = .ok zero w

/-- Block r is a map that holds m. -/
def MapIs {α β : Type} (encK : α → Value) (encV : β → Value) (ok : α → Prop) (w : World) (r : Nat) (m : List (α × β)) : Prop :=
 ∃ es clock, w.heap[r]? = some (.map es clock) ∧ es.toList.map (fun e => (e.key, e.val)) = m.map (fun p => (encK p.1, encV p.2)) ∧ Stamped es clock ∧ ∀ p ∈ m, ok p.1

def look {α β : Type} [DecidableEq α] (m : List (α × β)) (x : α) : Option β := (m.find? fun p => decide (p.1 = x)).map Prod.snd
def put {α β : Type} [DecidableEq α] (m : List (α × β)) (x : α) (v : β) : List (α × β) :=
 if m.any (fun p => decide (p.1 = x)) then m.map (fun p => if p.1 = x then (x, v) else p) else m ++ [(x, v)]
def cut {α β : Type} [DecidableEq α] (m : List (α × β)) (x : α) : List (α × β) := m.filter fun p => !decide (p.1 = x)

section
variable {α β : Type} [DecidableEq α] {m : List (α × β)} {x y : α} {v : β}
theorem look_none : look m x = none ↔ ∀ p ∈ m, p.1 ≠ x := by
 unfold look
 simp [List.find?_eq_none]
theorem look_mem (h : look m x = some v) : (x, v) ∈ m := by
 unfold look at h
 cases hf : m.find? (fun p => decide (p.1 = x)) with
 | none => rw [hf] at h; cases h
 | some p =>
  rw [hf] at h
  have h1 := List.find?_some hf
  have h2 := List.mem_of_find?_eq_some hf
  simp at h h1
  obtain ⟨a, b⟩ := p
  simp at h h1
  subst h h1
  exact h2
theorem look_of_mem (hn : (m.map Prod.fst).Nodup) (h : (x, v) ∈ m) : look m x = some v := by
 unfold look
 induction m with
 | nil => simp at h
 | cons p m ih =>
  rw [List.map_cons, List.nodup_cons] at hn
  rcases List.mem_cons.1 h with h | h
  ·subst h; simp
  ·have hne : p.1 ≠ x := fun e => hn.1 (by rw [e]; exact List.mem_map.2 ⟨_, h, rfl⟩)
   rw [List.find?_cons_of_neg (by simpa using hne)]
   exact ih hn.2 h
theorem look_put : look (put m x v) y = if y = x then some v else look m y := by
 unfold put
 by_cases hany : m.any (fun p => decide (p.1 = x)) = true
 ·rw [if_pos hany]
  induction m with
  | nil => simp at hany
  | cons p m ih =>
   by_cases hp : p.1 = x
   ·by_cases hy : y = x
    ·subst hy; simp [look, hp]
    ·rw [if_neg hy]
     by_cases hm : m.any (fun p => decide (p.1 = x)) = true
     ·have := ih hm
      rw [if_neg hy] at this
      unfold look at this ⊢
      rw [List.map_cons, if_pos hp, List.find?_cons_of_neg (by simpa using fun e => hy e.symm), List.find?_cons_of_neg (by rw [hp]; simpa using fun e => hy e.symm)]
      exact this
     ·have hid : m.map (fun p => if p.1 = x then (x, v) else p) = m := by
       have h1 : m.map (fun p => if p.1 = x then (x, v) else p) = m.map id := List.map_congr_left fun q hq => by
        have : q.1 ≠ x := fun e => hm (List.any_eq_true.2 ⟨q, hq, by simpa using e⟩)
        simp [this]
       simpa using h1
      unfold look
      rw [List.map_cons, if_pos hp, hid, List.find?_cons_of_neg (by simpa using fun e => hy e.symm), List.find?_cons_of_neg (by rw [hp]; simpa using fun e => hy e.symm)]
   ·have hm : m.any (fun p => decide (p.1 = x)) = true := by simpa [hp] using hany
    have := ih hm
    unfold look at this ⊢
    rw [List.map_cons, if_neg hp]
    by_cases hpy : p.1 = y
    ·rw [List.find?_cons_of_pos (by simpa using hpy), List.find?_cons_of_pos (by simpa using hpy), if_neg (fun e => hp (hpy.trans e))]
    ·rw [List.find?_cons_of_neg (by simpa using hpy), List.find?_cons_of_neg (by simpa using hpy)]
     exact this
 ·rw [if_neg hany]
  have hno : ∀ p ∈ m, p.1 ≠ x := fun p hp e => hany (List.any_eq_true.2 ⟨p, hp, by simpa using e⟩)
  by_cases hy : y = x
  ·subst hy
   have hf : m.find? (fun p => decide (p.1 = y)) = none := by rw [List.find?_eq_none]; simpa using hno
   unfold look
   rw [List.find?_append, hf]
   simp
  ·rw [if_neg hy]
   unfold look
   rw [List.find?_append]
   have hxy : ¬ x = y := fun e => hy e.symm
   have hl : [(x, v)].find? (fun p => decide (p.1 = y)) = none := by simp [hxy]
   rw [hl]
   simp
theorem mem_cut {p : α × β} : p ∈ cut m x ↔ p ∈ m ∧ p.1 ≠ x := by unfold cut; simp
theorem mem_put {p : α × β} (h : p ∈ put m x v) : p = (x, v) ∨ (p ∈ m ∧ p.1 ≠ x) := by
 unfold put at h
 split at h
 ·obtain ⟨q, hq, rfl⟩ := List.mem_map.1 h
  by_cases e : q.1 = x
  ·simp [e]
  ·simp [e]; exact .inr hq
 ·rename_i hany
  rcases List.mem_append.1 h with h | h
  ·exact .inr ⟨h, fun e => hany (List.any_eq_true.2 ⟨p, h, by simpa using e⟩)⟩
  ·left; simpa using h
end

section
variable {P : Program} {t k e : TypeId} {α β : Type} [DecidableEq α] {encK : α → Value} {encV : β → Value} {okK : α → Prop} {zero : Value}
variable {w w' : World} {r : Nat} {m : List (α × β)}

theorem MapIs.lt (h : MapIs encK encV okK w r m) : r < w.heap.size := by
 obtain ⟨es, clock, hb, _⟩ := h
 exact (Array.getElem?_eq_some_iff.1 hb).1
theorem MapIs.ok (h : MapIs encK encV okK w r m) : ∀ p ∈ m, okK p.1 := by
 obtain ⟨_, _, _, _, _, h⟩ := h
 exact h
theorem MapIs.keep (h : MapIs encK encV okK w r m) (hb : w'.heap[r]? = w.heap[r]?) : MapIs encK encV okK w' r m := by
 obtain ⟨es, clock, h1, h2⟩ := h
 exact ⟨es, clock, hb.trans h1, h2⟩
theorem MapIs.below {B : Nat} (h : MapIs encK encV okK w r m) (hb : Below B w w') (hr : r < B) : MapIs encK encV okK w' r m := h.keep (hb.block r hr)
theorem MapIs.alloc (h : MapIs encK encV okK w r m) (o : Obj) : MapIs encK encV okK (w.alloc o) r m := h.keep (Below.heap_alloc w o r h.lt)
theorem MapIs.grown {row : Option Nat} (h : MapIs encK encV okK w r m) (hg : w.grownBy w' row) (hne : some r ≠ row) : MapIs encK encV okK w' r m := h.keep (hg.block r h.lt hne)
theorem MapIs.drewN (h : MapIs encK encV okK w r m) (n : Nat) : MapIs encK encV okK (w.drewN n) r m := h
theorem MapIs.made (w : World) : MapIs (β := β) encK encV okK (w.alloc (.map #[] 0)) w.heap.size [] :=
 ⟨#[], 0, heap_alloc_new w _, rfl, stamped_empty 0, by simp⟩
theorem MapIs.nodup (T : MapTy P t k e α β encK encV okK zero) (h : MapIs encK encV okK w r m) : (m.map Prod.fst).Nodup := by
 obtain ⟨es, clock, hb, hm, hs, hk⟩ := h
 have hp := ((stamped_iff es clock).1 hs).2.2
 have h1 : (es.toList.map (fun e => (e.key, e.val))).Pairwise (fun p q => p.1 ≠ q.1) := by
  rw [List.pairwise_map]; exact hp
 rw [hm, List.pairwise_map] at h1
 rw [List.Nodup, List.pairwise_map]
 exact h1.imp fun {a b} hne e => hne (by simp [e])

theorem MapIs.find (T : MapTy P t k e α β encK encV okK zero) {es : Array MapEntry} (hm : es.toList.map (fun e => (e.key, e.val)) = m.map (fun p => (encK p.1, encV p.2))) (hk : ∀ p ∈ m, okK p.1) {x : α} (hx : okK x) :
  ((Instr.findKey k (encK x) es.toList).run P w = .ok none w ∧ look m x = none ∧ ∀ y ∈ es.toList, y.key ≠ encK x) ∨
  ∃ (j : Nat) (y : MapEntry) (v : β), (Instr.findKey k (encK x) es.toList).run P w = .ok (some (j, encV v)) w ∧ es.toList[j]? = some y ∧ y.key = encK x ∧ m[j]? = some (x, v) := by
 obtain ⟨l, hl⟩ := T.reads x hx
 have hkeys : ∀ y ∈ es.toList, ∃ l, keyOf P k y.key = some l := by
  intro y hy
  have : (y.key, y.val) ∈ m.map (fun p => (encK p.1, encV p.2)) := by rw [← hm]; exact List.mem_map.2 ⟨y, hy, rfl⟩
  obtain ⟨p, hp, he⟩ := List.mem_map.1 this
  simp at he
  rw [← he.1]
  exact T.reads _ (hk p hp)
 rcases T.keyed.find w hl es.toList hkeys with ⟨h1, h2⟩ | ⟨j, y, h1, h2, h3⟩
 ·refine .inl ⟨h1, look_none.2 fun p hp e => ?_, h2⟩
  have : (encK p.1, encV p.2) ∈ es.toList.map (fun e => (e.key, e.val)) := by rw [hm]; exact List.mem_map.2 ⟨p, hp, rfl⟩
  obtain ⟨y, hy, he⟩ := List.mem_map.1 this
  simp at he
  exact h2 y hy (by rw [he.1, e])
 ·have hj : (es.toList.map (fun e => (e.key, e.val)))[j]? = some (y.key, y.val) := by rw [List.getElem?_map, h2]; rfl
  rw [hm, List.getElem?_map] at hj
  cases hmj : m[j]? with
  | none => rw [hmj] at hj; cases hj
  | some p =>
   rw [hmj] at hj
   simp at hj
   have hpx : p.1 = x := T.inj _ _ (hj.1.trans h3)
   refine .inr ⟨j, y, p.2, ?_, h2, h3, ?_⟩
   ·rw [h1, hj.2]
   ·rw [hmj, ← hpx]

/-- m[x], v, is := m[x] -/
theorem MapIs.lookup (T : MapTy P t k e α β encK encV okK zero) (h : MapIs encK encV okK w r m) {x : α} (hx : okK x) (co : Bool) :
  (Instr.lookup t (.map (some r)) (encK x) co).run P w = .ok (match look m x with | some v => if co then .tuple #[encV v, .bool true] else encV v | none => if co then .tuple #[zero, .bool false] else zero) w := by
 obtain ⟨l, hl⟩ := T.reads x hx
 have hn := MapIs.nodup T h
 obtain ⟨es, clock, hb, hm, hs, hk⟩ := h
 rcases MapIs.find (w := w) T hm hk hx with ⟨h1, h2, _⟩ | ⟨j, y, v, h1, h2, h3, h4⟩
 ·rw [h2]
  cases co <;> simp [Instr.lookup, run_underlying T.und, MapKept.run_getObj_map hb, T.keyed.check w _ hl, h1, T.zero, Result.andThen]
 ·have hm' : look m x = some v := look_of_mem hn (List.mem_of_getElem? h4)
  rw [hm']
  cases co <;> simp [Instr.lookup, run_underlying T.und, MapKept.run_getObj_map hb, T.keyed.check w _ hl, h1, Result.andThen]

theorem grown_setBlock {es : Array MapEntry} {clock : Nat} (hb : w.heap[r]? = some (.map es clock)) (o : Obj) : w.grownBy (setBlock w r o) (some r) ∧ (setBlock w r o).heap.size = w.heap.size :=
 ⟨⟨rfl, rfl, rfl, by simp [setBlock], fun i _ hi => heap_setBlock_other hb o (fun e => hi (by rw [e]))⟩, by simp [setBlock]⟩

theorem map_snd_set {γ : Type} {l : List γ} {m : List (α × β)} {f : γ → Value × Value} (h : l.map f = m.map (fun p => (encK p.1, encV p.2))) : l.length = m.length := by
 have := congrArg List.length h; simpa using this

/-- m[x] = v -/
theorem MapIs.update (T : MapTy P t k e α β encK encV okK zero) (h : MapIs encK encV okK w r m) {x : α} (hx : okK x) (v : β) :
  ∃ w', (Instr.mapUpdate t (.map (some r)) (encK x) (encV v)).run P w = .ok () w' ∧ MapIs encK encV okK w' r (put m x v) ∧ w.grownBy w' (some r) ∧ w'.heap.size = w.heap.size := by
 obtain ⟨l, hl⟩ := T.reads x hx
 have hn := MapIs.nodup T h
 obtain ⟨es, clock, hb, hm, hs, hk⟩ := h
 rcases MapIs.find (w := w) T hm hk hx with ⟨h1, h2, h3⟩ | ⟨j, y, v0, h1, h2, h3, h4⟩
 ·refine ⟨setBlock w r (.map (es.push ⟨encK x, encV v, clock⟩) (clock + 1)), ?_, ⟨_, _, heap_setBlock_same hb _, ?_, stamped_push hs h3, ?_⟩, (grown_setBlock hb _).1, (grown_setBlock hb _).2⟩
  ·simp [Instr.mapUpdate, run_underlying T.und, MapKept.run_getObj_map hb, T.keyed.check w false hl, h1, MapKept.run_setObj_map _ hb, Result.andThen, setBlock]
  ·have hany : ¬ m.any (fun p => decide (p.1 = x)) = true := by
    intro ha
    obtain ⟨p, hp, he⟩ := List.any_eq_true.1 ha
    exact look_none.1 h2 p hp (by simpa using he)
   unfold put
   rw [if_neg hany, Array.toList_push, List.map_append, hm, List.map_append]
   rfl
  ·intro p hp
   rcases mem_put hp with rfl | ⟨hp, _⟩
   ·exact hx
   ·exact hk p hp
 ·have hjl : j < es.toList.length := (List.getElem?_eq_some_iff.1 h2).1
  have hjs : j < es.size := by simpa using hjl
  have hes : es[j]? = some y := by rw [← Array.getElem?_toList]; exact h2
  have hany : m.any (fun p => decide (p.1 = x)) = true := List.any_eq_true.2 ⟨(x, v0), List.mem_of_getElem? h4, by simp⟩
  refine ⟨setBlock w r (.map (es.modify j fun e => { e with key := encK x, val := encV v }) clock), ?_, ⟨_, _, heap_setBlock_same hb _, ?_, ?_, ?_⟩, (grown_setBlock hb _).1, (grown_setBlock hb _).2⟩
  ·simp [Instr.mapUpdate, run_underlying T.und, MapKept.run_getObj_map hb, T.keyed.check w false hl, h1, MapKept.run_setObj_map _ hb, Result.andThen, setBlock, hes, h3, T.keyed.stays w hl]
  ·unfold put
   rw [if_pos hany]
   apply List.ext_getElem?
   intro i
   have hi : ((es.toList.map (fun e => (e.key, e.val)))[i]?) = (m.map (fun p => (encK p.1, encV p.2)))[i]? := by rw [hm]
   rw [List.getElem?_map, List.getElem?_map] at hi
   rw [List.getElem?_map, List.getElem?_map, List.getElem?_map, Array.getElem?_toList, Array.getElem?_modify]
   rw [Array.getElem?_toList] at hi
   by_cases hij : j = i
   ·subst hij
    rw [if_pos rfl, hes, h4]
    simp
   ·rw [if_neg hij, hi]
    cases hmi : m[i]? with
    | none => rfl
    | some p =>
     have hpx : p.1 ≠ x := by
      intro e1
      apply hij
      have h5 : (m.map Prod.fst)[j]? = some x := by rw [List.getElem?_map, h4]; rfl
      have h6 : (m.map Prod.fst)[i]? = some x := by rw [List.getElem?_map, hmi, ← e1]; rfl
      have h7 : j < (m.map Prod.fst).length := (List.getElem?_eq_some_iff.1 h5).1
      exact (List.getElem?_inj h7 hn).1 (h5.trans h6.symm)
     simp [hpx]
  ·exact stamped_modify hs j _ (fun _ _ => rfl) (fun e' he' hj' => by
    have : e' = y := Option.some.inj (hj'.symm.trans hes)
    rw [this]; exact h3.symm)
  ·intro p hp
   rcases mem_put hp with rfl | ⟨hp, _⟩
   ·exact hx
   ·exact hk p hp

/-- delete(m, x) -/
theorem MapIs.delete_ (T : MapTy P t k e α β encK encV okK zero) (h : MapIs encK encV okK w r m) {x : α} (hx : okK x) (ty : TypeId) :
  ∃ w', (Builtin.delete_ #[t, k] ty #[.map (some r), encK x]).run P w = .ok (.tuple #[]) w' ∧ MapIs encK encV okK w' r (cut m x) ∧ w.grownBy w' (some r) ∧ w'.heap.size = w.heap.size := by
 obtain ⟨l, hl⟩ := T.reads x hx
 have hn := MapIs.nodup T h
 obtain ⟨es, clock, hb, hm, hs, hk⟩ := h
 rcases MapIs.find (w := w) T hm hk hx with ⟨h1, h2, h3⟩ | ⟨j, y, v0, h1, h2, h3, h4⟩
 ·refine ⟨setBlock w r (.map es clock), ?_, ⟨_, _, heap_setBlock_same hb _, ?_, hs, fun p hp => hk p (mem_cut.1 hp).1⟩, (grown_setBlock hb _).1, (grown_setBlock hb _).2⟩
  ·simp [Builtin.delete_, run_underlying T.und, MapKept.run_getObj_map hb, T.keyed.check w _ hl, h1, MapKept.run_setObj_map _ hb, Result.andThen, setBlock]
  ·rw [hm]
   congr 1
   unfold cut
   refine (List.filter_eq_self.2 fun p hp => ?_).symm
   simpa using look_none.1 h2 p hp
 ·have hjl : j < es.toList.length := (List.getElem?_eq_some_iff.1 h2).1
  have hjs : j < es.size := by simpa using hjl
  have hsub : (es.eraseIdxIfInBounds j).toList = es.toList.eraseIdx j := by
   unfold Array.eraseIdxIfInBounds
   rw [dif_pos hjs]
   simp
  refine ⟨setBlock w r (.map (es.eraseIdxIfInBounds j) clock), ?_, ⟨_, _, heap_setBlock_same hb _, ?_, stamped_erase hs j, fun p hp => hk p (mem_cut.1 hp).1⟩, (grown_setBlock hb _).1, (grown_setBlock hb _).2⟩
  ·simp [Builtin.delete_, run_underlying T.und, MapKept.run_getObj_map hb, T.keyed.check w _ hl, h1, MapKept.run_setObj_map _ hb, Result.andThen, setBlock]
  ·rw [hsub, Go.ChangeMaps.map_eraseIdx, hm, ← Go.ChangeMaps.map_eraseIdx]
   congr 1
   unfold cut
   exact (erase_cut hn h4).symm
 where
 erase_cut {m : List (α × β)} {x : α} {v0 : β} {j : Nat} (hn : (m.map Prod.fst).Nodup) (h4 : m[j]? = some (x, v0)) : (m.filter fun p => !decide (p.1 = x)) = m.eraseIdx j := by
  induction m generalizing j with
  | nil => simp at h4
  | cons p m ih =>
   rw [List.map_cons, List.nodup_cons] at hn
   cases j with
   | zero =>
    simp at h4
    subst h4
    have : (m.filter fun p => !decide (p.1 = x)) = m := List.filter_eq_self.2 fun q hq => by
     have : q.1 ≠ x := fun e => hn.1 (List.mem_map.2 ⟨q, hq, e⟩)
     simpa using this
    simp [this]
   | succ j =>
    have hne : p.1 ≠ x := fun e => hn.1 (List.mem_map.2 ⟨(x, v0), List.mem_of_getElem? (by simpa using h4), e.symm⟩)
    rw [List.filter_cons_of_pos (by simpa using hne), ih hn.2 (by simpa using h4)]
    rfl
end
end Go.Proofs.Ythofngceiecniaa
/- Ranging over a map that does not turn: the entries come in an order that the tape says. -/
namespace Go.Proofs.Ythofngceiecniaa
open Go.RowKit Go.MapKept
open Go.ChangeMaps (setBlock heap_setBlock_other heap_setBlock_same)
open Go.Maps (Keyed)
set_option linter.unusedSectionVars false

/-- Block 'it' is an iterator over map r, which holds m; 'left' is to come. -/
def IterIs {α β : Type} (encK : α → Value) (encV : β → Value) (okK : α → Prop) (w : World) (it r : Nat) (m left : List (α × β)) : Prop :=
 ∃ es clock since seen c0, w.heap[r]? = some (.map es clock) ∧ es.toList.map (fun e => (e.key, e.val)) = m.map (fun p => (encK p.1, encV p.2)) ∧ Stamped es clock ∧ (∀ p ∈ m, okK p.1) ∧
  w.heap[it]? = some (.mapIter (some r) since seen c0) ∧ (∀ x ∈ es.toList, x.born < since) ∧ since ≤ c0 ∧ since ≤ clock ∧ (leftOf es seen).toList.map (fun e => (e.key, e.val)) = left.map (fun p => (encK p.1, encV p.2))

theorem filter_erase {γ : Type} (f : γ → Nat) {l : List γ} {i : Nat} {e : γ} (hn : (l.map f).Nodup) (h : l[i]? = some e) : (l.filter fun y => !(f y == f e)) = l.eraseIdx i := by
 induction l generalizing i with
 | nil => simp at h
 | cons p l ih =>
  rw [List.map_cons, List.nodup_cons] at hn
  cases i with
  | zero =>
   simp at h
   subst h
   have : (l.filter fun y => !(f y == f p)) = l := List.filter_eq_self.2 fun q hq => by
    have : f q ≠ f p := fun e => hn.1 (List.mem_map.2 ⟨q, hq, e⟩)
    simpa using this
   simp [this]
  | succ i =>
   have hne : f p ≠ f e := fun e' => hn.1 (List.mem_map.2 ⟨e, List.mem_of_getElem? (by simpa using h), e'.symm⟩)
   rw [List.filter_cons_of_pos (by simpa using hne), ih hn.2 (by simpa using h)]
   rfl

theorem left_push (es : Array MapEntry) (seen : Array Nat) (b : Nat) : (leftOf es (seen.push b)).toList = (leftOf es seen).toList.filter fun y => !(y.born == b) := by
 unfold leftOf
 simp only [Array.toList_filter, List.filter_filter]
 congr 1
 funext y
 simp only [Array.contains_push]
 cases seen.contains y.born <;> cases hb : (y.born == b) <;> simp_all

section
variable {P : Program} {t k e : TypeId} {α β : Type} [DecidableEq α] {encK : α → Value} {encV : β → Value} {okK : α → Prop} {zero : Value}
variable {w w' : World} {r it : Nat} {m left : List (α × β)}

theorem IterIs.map (h : IterIs encK encV okK w it r m left) : MapIs encK encV okK w r m := by
 obtain ⟨es, clock, since, seen, c0, h1, h2, h3, h4, _⟩ := h
 exact ⟨es, clock, h1, h2, h3, h4⟩
theorem IterIs.lt (h : IterIs encK encV okK w it r m left) : it < w.heap.size := by
 obtain ⟨es, clock, since, seen, c0, _, _, _, _, h5, _⟩ := h
 exact (Array.getElem?_eq_some_iff.1 h5).1
theorem IterIs.ne (h : IterIs encK encV okK w it r m left) : it ≠ r := by
 obtain ⟨es, clock, since, seen, c0, h1, _, _, _, h5, _⟩ := h
 intro e
 rw [e, h1] at h5
 cases h5
theorem IterIs.keep (h : IterIs encK encV okK w it r m left) (hb : w'.heap[r]? = w.heap[r]?) (hi : w'.heap[it]? = w.heap[it]?) : IterIs encK encV okK w' it r m left := by
 obtain ⟨es, clock, since, seen, c0, h1, h2, h3, h4, h5, h6⟩ := h
 exact ⟨es, clock, since, seen, c0, hb.trans h1, h2, h3, h4, hi.trans h5, h6⟩
theorem IterIs.below {B : Nat} (h : IterIs encK encV okK w it r m left) (hb : Below B w w') (hr : r < B) (hi : it < B) : IterIs encK encV okK w' it r m left := h.keep (hb.block r hr) (hb.block it hi)
theorem IterIs.grown {row : Option Nat} (h : IterIs encK encV okK w it r m left) (hg : w.grownBy w' row) (hr : some r ≠ row) (hi : some it ≠ row) : IterIs encK encV okK w' it r m left := h.keep (hg.block r h.map.lt hr) (hg.block it h.lt hi)

/-- range m -/
theorem MapIs.range {t k e : TypeId} (ht : P.underlying t = some (.map k e)) (h : MapIs encK encV okK w r m) :
  ∃ w', (Instr.range t (.map (some r))).run P w = .ok (.pointer (some ⟨w.heap.size, 0, none⟩)) w' ∧ IterIs encK encV okK w' w.heap.size r m m ∧ w.grownBy w' none ∧ w'.heap.size = w.heap.size + 1 := by
 have hlt := h.lt
 obtain ⟨es, clock, hb, hm, hs, hk⟩ := h
 refine ⟨_, run_range_map w t k e r es clock ht hb, ⟨es, clock, clock, #[], clock, (Below.heap_alloc w _ r hlt).trans hb, hm, hs, hk, heap_alloc_new w _, ((stamped_iff es clock).1 hs).1, Nat.le_refl _, Nat.le_refl _, ?_⟩, World.grownBy_alloc w _ none, by simp⟩
 have : (leftOf es #[]).toList = es.toList := by
  unfold leftOf
  rw [Array.toList_filter]
  exact List.filter_eq_self.2 fun _ _ => by simp
 rw [this]
 exact hm

/-- the step -/
theorem IterIs.next (h : IterIs encK encV okK w it r m left) (ty : TypeId) :
  (left = [] ∧ (Instr.next (.pointer (some ⟨it, 0, none⟩)) false ty).run P w = .ok (.tuple #[.bool false]) w) ∨
  ∃ i p w', left[i]? = some p ∧ (Instr.next (.pointer (some ⟨it, 0, none⟩)) false ty).run P w = .ok (.tuple #[.bool true, encK p.1, encV p.2]) w' ∧ IterIs encK encV okK w' it r m (left.eraseIdx i) ∧ w.grownBy w' (some it) ∧ w'.heap.size = w.heap.size ∧
   (Instr.entry (.pointer (some ⟨it, 0, none⟩))).run P w' = .ok (.tuple #[encK p.1, encV p.2]) w' := by
 have hne := h.ne
 obtain ⟨es, clock, since, seen, c0, hb, hm, hs, hk, hi, hold, hsc, hsk, hl⟩ := h
 have hst := (stamped_iff es clock).1 hs
 rcases run_next_at (P := P) w ty it r since c0 seen es clock hi hb hold hsc with ⟨h0, hrun⟩ | ⟨e0, he, w1, hal, hrun⟩
 ·refine .inl ⟨?_, hrun⟩
  have : (leftOf es seen).toList = [] := List.eq_nil_of_length_eq_zero (by simpa using h0)
  rw [this] at hl
  simpa using hl.symm
 ·obtain ⟨i, hj⟩ := List.getElem?_of_mem he
  have hli : (left.map (fun p => (encK p.1, encV p.2)))[i]? = some (e0.key, e0.val) := by rw [← hl, List.getElem?_map, hj]; rfl
  rw [List.getElem?_map] at hli
  cases hlp : left[i]? with
  | none => rw [hlp] at hli; cases hli
  | some p =>
   rw [hlp] at hli
   simp at hli
   have hem : e0 ∈ es.toList := by
    unfold leftOf at he
    simp at he
    simpa using he.1
   have hi1 : w1.heap[it]? = some (.mapIter (some r) since seen c0) := by rcases hal with rfl | rfl <;> exact hi
   have hb1 : w1.heap[r]? = some (.map es clock) := by rcases hal with rfl | rfl <;> exact hb
   have hset := heap_set (o' := .mapIter (some r) since (seen.push e0.born) clock) hi1
   have hb' : (setBlock w1 it (.mapIter (some r) since (seen.push e0.born) clock)).heap[r]? = some (.map es clock) := (hset.2 r (fun e1 => hne e1.symm)).trans hb1
   have hsub : ((leftOf es seen).toList.map (·.born)).Nodup := by
    unfold leftOf
    rw [Array.toList_filter]
    exact hst.2.1.sublist (List.filter_sublist.map _)
   refine .inr ⟨i, p, _, hlp, by rw [hrun, hli.1, hli.2], ⟨es, clock, since, seen.push e0.born, clock, hb', hm, hs, hk, hset.1, hold, hsk, hsk, ?_⟩, ?_, ?_, ?_⟩
   ·rw [left_push, filter_erase (·.born) hsub hj, Go.ChangeMaps.map_eraseIdx, hl, ← Go.ChangeMaps.map_eraseIdx]
   ·rcases hal with rfl | rfl <;> exact ⟨rfl, rfl, rfl, by simp [setBlock], fun i _ hi => hset.2 i (fun e1 => hi (by rw [e1]))⟩
   ·rcases hal with rfl | rfl <;> simp [setBlock]
   ·rw [run_entry_at _ it r since seen es clock e0 hset.1 hb' hem hst.2.1, hli.1, hli.2]
end
end Go.Proofs.Ythofngceiecniaa
/- How many entries are to come: read off the world. A map, and a walk over it, abide whatever keeps walks. -/
namespace Go.Proofs.Ythofngceiecniaa
open Go.RowKit Go.MapKept Go.Shelf
open Go.Maps (Keyed)
set_option linter.unusedSectionVars false

def iterLeft (w : World) (it : Nat) : Nat := match w.heap[it]? with
 | some (.mapIter (some r) _ seen _) => match w.heap[r]? with
  | some (.map es _) => (leftOf es seen).size
  | _ => 0
 | _ => 0
section
variable {α β : Type} [DecidableEq α] {encK : α → Value} {encV : β → Value} {okK : α → Prop} {w w' : World} {r it : Nat} {m left : List (α × β)}
theorem IterIs.left_eq (h : IterIs encK encV okK w it r m left) : iterLeft w it = left.length := by
 obtain ⟨es, clock, since, seen, c0, hb, hm, hs, hk, hi, hold, hsc, hsk, hl⟩ := h
 unfold iterLeft
 simp only [hi, hb]
 have := congrArg List.length hl
 simpa using this
theorem IterIs.walks (h : IterIs encK encV okK w it r m left) (hk : KeepsWalks w w') : IterIs encK encV okK w' it r m left := by
 obtain ⟨es, clock, since, seen, c0, hb, hm, hs, hkk, hi, rest⟩ := h
 exact ⟨es, clock, since, seen, c0, hk.same r _ hb rfl, hm, hs, hkk, hk.same it _ hi rfl, rest⟩
theorem MapIs.walks (h : MapIs encK encV okK w r m) (hk : KeepsWalks w w') : MapIs encK encV okK w' r m := by
 obtain ⟨es, clock, hb, rest⟩ := h
 exact ⟨es, clock, hk.same r _ hb rfl, rest⟩
theorem IterIs.alloc (h : IterIs encK encV okK w it r m left) (o : Obj) : IterIs encK encV okK (w.alloc o) it r m left := h.walks (KeepsWalks.alloc w o)
end
/-- One entry less to come. -/
theorem perm_erase {α : Type} : ∀ {l : List α} {i : Nat} {x : α}, l[i]? = some x → (x :: l.eraseIdx i).Perm l
 | [], i, x, h => by simp at h
 | y :: l, 0, x, h => by simp at h; subst h; simp
 | y :: l, i + 1, x, h => by
  have := perm_erase (l := l) (i := i) (x := x) (by simpa using h)
  rw [List.eraseIdx_cons_succ]
  exact (List.Perm.swap y x _).trans (this.cons y)
end Go.Proofs.Ythofngceiecniaa
/- Where drops of a fountain can go by an act: mix.table.moves and its iterator. -/
namespace Go.Proofs.Ythofngceiecniaa
open Go.RowKit
attribute [local go_sem] Oper.semAt_some
open Go.Shelf

/-- The iterator's boxes. -/
structure MvIn (g0 g1 g2 g3 : Nat) (T : Tb) (i f : Int) (has : Held) (W : World) : Prop where
 t : Blk W g0 82 #[.pointer (some ⟨T.g, 0, none⟩)]
 i : Blk W g1 3 #[.int .i64 i]
 f : Blk W g2 3 #[.int .i64 f]
 h : Blk W g3 97 #[.int .i64 (heldAt has 0), .int .i64 (heldAt has 1), .int .i64 (heldAt has 2), .int .i64 (heldAt has 3)]
 tb : TbAt W T
theorem MvIn.below {g0 g1 g2 g3 : Nat} {T : Tb} {i f : Int} {has : Held} {W W' : World} (h : MvIn g0 g1 g2 g3 T i f has W) (hb : Below W.heap.size W W') : MvIn g0 g1 g2 g3 T i f has W' :=
 ⟨h.t.below hb h.t.lt, h.i.below hb h.i.lt, h.f.below hb h.f.lt, h.h.below hb h.h.lt, h.tb.below hb⟩
/-- What comes: how many drops move. -/
abbrev Mv (m : Mix) (x : MAct) (f : Int) (all has : Held) := { j : Int // (spanP m x f all has).1 ≤ j ∧ j ≤ (spanP m x f all has).2 }
/-- All of them. -/
def MvAll {m : Mix} {x : MAct} {f : Int} {all has : Held} (xs : List (Mv m x f all has)) : Prop := ∀ j, (spanP m x f all has).1 ≤ j → j ≤ (spanP m x f all has).2 → ∃ y ∈ xs, y.1 = j
def Mv.enc (m : Mix) (x : MAct) {f : Int} {all : Held} (has : Held) (y : Mv m x f all has) : Array Value := #[.int .i64 y.1, .agg #[.int .i64 (heldAt (shiftH has (fromI m x) (toI m x) y.1) 0), .int .i64 (heldAt (shiftH has (fromI m x) (toI m x) y.1) 1), .int .i64 (heldAt (shiftH has (fromI m x) (toI m x) y.1) 2), .int .i64 (heldAt (shiftH has (fromI m x) (toI m x) y.1) 3)]]

set_option maxRecDepth 100000 in
set_option maxHeartbeats 2000000 in
theorem moves_any (T : Tb) (i f : Int) (has : Held) (w : World) :
  Calls Try.prog 44 #[.pointer (some ⟨T.g, 0, none⟩), .int .i64 i, .int .i64 f, .agg #[.int .i64 (heldAt has 0), .int .i64 (heldAt has 1), .int .i64 (heldAt has 2), .int .i64 (heldAt has 3)]] w fun e w' =>
   e = .returned (.func (.func 90) #[] #[.pointer (some ⟨w.heap.size, 0, none⟩), .pointer (some ⟨w.heap.size + 1, 0, none⟩), .pointer (some ⟨w.heap.size + 1 + 1 + 1, 0, none⟩), .pointer (some ⟨w.heap.size + 1 + 1, 0, none⟩)]) ∧
   Lay w w' [(w.heap.size, 82, #[.pointer (some ⟨T.g, 0, none⟩)]), (w.heap.size + 1, 3, #[.int .i64 i]), (w.heap.size + 1 + 1, 3, #[.int .i64 f]), (w.heap.size + 1 + 1 + 1, 97, #[.int .i64 (heldAt has 0), .int .i64 (heldAt has 1), .int .i64 (heldAt has 2), .int .i64 (heldAt has 3)])] := by
 have hmf : ∀ (fn : Fn) (first cap : Array Value) (w : World), (Instr.makeFunc fn first cap).run Try.prog w = .ok (.func fn first cap) w := fun _ _ _ _ => rfl
 go_enter Try.func44, Try.ntmps44
 go_wp2_with fail
 go_ret
 exact ⟨rfl, Lay.four w _ _ _ _ _ _ _ _⟩
theorem MvIn.of_lay {w w' : World} {T : Tb} {i f : Int} {has : Held} (h : Lay w w' [(w.heap.size, 82, #[.pointer (some ⟨T.g, 0, none⟩)]), (w.heap.size + 1, 3, #[.int .i64 i]), (w.heap.size + 1 + 1, 3, #[.int .i64 f]), (w.heap.size + 1 + 1 + 1, 97, #[.int .i64 (heldAt has 0), .int .i64 (heldAt has 1), .int .i64 (heldAt has 2), .int .i64 (heldAt has 3)])]) (ht : TbAt w T) :
  MvIn w.heap.size (w.heap.size + 1) (w.heap.size + 1 + 1) (w.heap.size + 1 + 1 + 1) T i f has w' :=
 ⟨h.blk 0 rfl, h.blk 1 rfl, h.blk 2 rfl, h.blk 3 rfl, ht.below h.1⟩
theorem held_at (s : Held) {q : Nat} (h : q < 4) : (#[Value.int .i64 (heldAt s 0), .int .i64 (heldAt s 1), .int .i64 (heldAt s 2), .int .i64 (heldAt s 3)] : Array Value)[q]? = some (.int .i64 (heldAt s (q : Int))) := by
 match q, h with
 | 0, _ => rfl
 | 1, _ => rfl
 | 2, _ => rfl
 | 3, _ => rfl

theorem fromI_ge {m : Mix} (x : MAct) : -1 ≤ fromI m x := by unfold fromI; split; decide; exact idxV_ge _ _
theorem toI_ge {m : Mix} (x : MAct) : -1 ≤ toI m x := by unfold toI; split; exact idxV_ge _ _; decide

set_option maxRecDepth 100000 in
set_option maxHeartbeats 8000000 in
theorem moves1_stops (n : Nat) (hn : 2 ≤ n) (T : Tb) (hT : TbOk T) (k : Nat) (x : MAct) (all : Held) (hA : ActAt T k x all) (f : Int) (has : Held) (hfit : Fits all has) (g0 g1 g2 g3 : Nat) (w0 : World) (hin : MvIn g0 g1 g2 g3 T k f has w0) :
  SeqStopsK Fence.wide n Try.prog 90 #[.pointer (some ⟨g0, 0, none⟩), .pointer (some ⟨g1, 0, none⟩), .pointer (some ⟨g3, 0, none⟩), .pointer (some ⟨g2, 0, none⟩)] (Mv.enc T.m x (f := f) (all := all) has) (fun W W' => Blk W g3 97 #[.int .i64 (heldAt has 0), .int .i64 (heldAt has 1), .int .i64 (heldAt has 2), .int .i64 (heldAt has 3)] → Blk W' g3 97 #[.int .i64 (heldAt has 0), .int .i64 (heldAt has 1), .int .i64 (heldAt has 2), .int .i64 (heldAt has 3)])
   MvAll (fun pre => True) ((spanP T.m x f all has).2 + 1 - (spanP T.m x f all has).1).toNat w0 := by
 intro l J Jx w hW hJ hJx hY h0
 have HIN := Lib.hid (hin.below hW)
 have HA := Lib.hid hA
 have HFI := Lib.hid hfit
 have HJ := Lib.hid hJ
 have HY := Lib.hid hY
 have H0 := Lib.hid h0
 have hka : k < T.na := by have := hin.tb.mix.lenA; have := (List.getElem?_eq_some_iff.1 hA.hx).1; omega
 obtain ⟨ba, oa, x', hAa, hba, hx', c0, c1, c2, c3⟩ := HIN.out.tb.mix.act hka
 rw [hA.hx] at hx'
 obtain rfl : x = x' := Option.some.inj hx'
 have hkl : k < T.nl := by have := recs_n heldC_k (by omega) hin.tb.all; have := (List.getElem?_eq_some_iff.1 hA.ha).1; omega
 obtain ⟨bl, ol, all', hAL, hbl, ha', cl⟩ := recs_cell heldC_k (by omega) HIN.out.tb.all hkl
 rw [hA.ha] at ha'
 obtain rfl : all = all' := Option.some.inj ha'
 have HC0 := Lib.hid c0
 have HC1 := Lib.hid c1
 have HC2 := Lib.hid c2
 have HC3 := Lib.hid c3
 have HCE := Lib.hid cl
 have HAA := Lib.hid hAa
 have HAL := Lib.hid hAL
 have HBA := Lib.hid hba
 have HBL := Lib.hid hbl
 have HKA := Lib.hid hka
 have HKL := Lib.hid hkl
 have HFR := Lib.hid (fromI_small (m := T.m) hT.vess x)
 have HTO := Lib.hid (toI_small (m := T.m) hT.vess x)
 clear hJ hJx hY h0 hx' ha' c0 c1 c2 c3 cl hAa hAL hba hbl hka hkl hin hA hfit
 refine callsIn_of_wp Try.func90 rfl trivial ?_ rfl
 simp only [Try.ntmps90, List.size_toArray, List.length_cons, List.length_nil, Nat.reduceAdd, Nat.reduceSub, Array.replicate_succ, Array.replicate_zero, List.push_toArray, List.append_toArray, List.nil_append, List.cons_append]
 gi_upto_region 0 with fail
 have HLay := Lib.hid (Lay.nil w)
 have HLay0 := Lib.hid HLay.out
 refine wpIn_flow_new [([true, true, true, true, true, true, true, true, true, true], 10)] [false, false, false, false, false, false, false, false, false, false, false, false, false, true] [false, false, false, false, false, false, false, false, false, false, false, false, true] 11 (fun b => .pointer (some ⟨b, 0, none⟩)) 67 #[.int .i64 0, .int .i64 0, .int .i64 0, .int .i64 0] (by kernel_rfl) (by kernel_rfl) (by kernel_rfl) (below_drewN (Below.refl _ _) 1) rfl rfl rfl (fun _ _ => rfl) (fun _ _ => rfl) ?_
 refine wpFlow_cons (A := ?AF1) rfl ?hq1 ?_
 case hq1 =>
  rintro σ hσ of hof hcl
  have HOF := Lib.hid hof
  have HCL := Lib.hid hcl
  clear hof hcl
  have hfw : ∀ f, Fence.wide.fn f := fun _ => trivial
  have a0 : ∀ z, (of z).cell? ⟨g0, 0, none⟩ = some (.pointer (some ⟨T.g, 0, none⟩)) := fun z => (HIN.out.below (HLay.out.1.trans ((HOF.out z).mono HLay.out.1.size))).t.cell 0
  have a1 : ∀ z, (of z).cell? ⟨g1, 0, none⟩ = some (.int .i64 (k : Int)) := fun z => (HIN.out.below (HLay.out.1.trans ((HOF.out z).mono HLay.out.1.size))).i.cell 0
  have t2 : ∀ z, (of z).cell? ⟨T.g, 2, none⟩ = some (.slice (some ⟨ba, oa, none⟩) T.na T.ca) := fun z => by rw [← HAA.out]; exact (HIN.out.below (HLay.out.1.trans ((HOF.out z).mono HLay.out.1.size))).tb.blk.cell 2
  have d0 : ∀ z, (of z).cell? ⟨ba, oa + k * 4, none⟩ = some (.int .i64 x.kind) := fun z => ((HLay.out.1.trans ((HOF.out z).mono HLay.out.1.size)).cell (p := ⟨ba, oa + k * 4, none⟩) HBA.out).trans HC0.out
  have d1 : ∀ z, (of z).cell? ⟨ba, oa + k * 4 + 1, none⟩ = some (.int .i64 x.fr) := fun z => ((HLay.out.1.trans ((HOF.out z).mono HLay.out.1.size)).cell (p := ⟨ba, oa + k * 4 + 1, none⟩) HBA.out).trans HC1.out
  have d2 : ∀ z, (of z).cell? ⟨ba, oa + k * 4 + 2, none⟩ = some (.int .i64 x.to) := fun z => ((HLay.out.1.trans ((HOF.out z).mono HLay.out.1.size)).cell (p := ⟨ba, oa + k * 4 + 2, none⟩) HBA.out).trans HC2.out
  have d3 : ∀ z, (of z).cell? ⟨ba, oa + k * 4 + 3, none⟩ = some (.int .i64 x.drops) := fun z => ((HLay.out.1.trans ((HOF.out z).mono HLay.out.1.size)).cell (p := ⟨ba, oa + k * 4 + 3, none⟩) HBA.out).trans HC3.out
  have hka := HKA.out
  simp only [pickB]
  repeat (gi_big_quiet_step (fail))
  refine wpQuietIn_nil ?_
  exact rfl
 intro W1 hW
 replace HLay := Lib.hid (HLay.out.below hW)
 clear hW
 gi_wp2
 refine ⟨trivial, fun _ => by omega, (callsIn_wide.2 (callsIn_wide.1 (size_in T k x all W1 (HIN.out.below HLay.out.1).tb HA.out.hx HA.out.ha HA.out.kindOk HA.out.four))).mono ?_⟩
 rintro e W2 ⟨rfl, hb⟩
 replace HLay := Lib.hid (HLay.out.below hb)
 gi_wp2
 refine ⟨trivial, hb, ?_⟩
 clear hb
 refine wpFlow_nil (A := ?AF2) ?hq2 ?_
 case hq2 =>
  rintro σ hσ of hof hcl
  have HOF := Lib.hid hof
  have HCL := Lib.hid hcl
  clear hof hcl
  have hfw : ∀ f, Fence.wide.fn f := fun _ => trivial
  have a0 : ∀ z, (of z).cell? ⟨g0, 0, none⟩ = some (.pointer (some ⟨T.g, 0, none⟩)) := fun z => (HIN.out.below (HLay.out.1.trans ((HOF.out z).mono HLay.out.1.size))).t.cell 0
  have a1 : ∀ z, (of z).cell? ⟨g1, 0, none⟩ = some (.int .i64 (k : Int)) := fun z => (HIN.out.below (HLay.out.1.trans ((HOF.out z).mono HLay.out.1.size))).i.cell 0
  have t2 : ∀ z, (of z).cell? ⟨T.g, 2, none⟩ = some (.slice (some ⟨ba, oa, none⟩) T.na T.ca) := fun z => by rw [← HAA.out]; exact (HIN.out.below (HLay.out.1.trans ((HOF.out z).mono HLay.out.1.size))).tb.blk.cell 2
  have d0 : ∀ z, (of z).cell? ⟨ba, oa + k * 4, none⟩ = some (.int .i64 x.kind) := fun z => ((HLay.out.1.trans ((HOF.out z).mono HLay.out.1.size)).cell (p := ⟨ba, oa + k * 4, none⟩) HBA.out).trans HC0.out
  have d1 : ∀ z, (of z).cell? ⟨ba, oa + k * 4 + 1, none⟩ = some (.int .i64 x.fr) := fun z => ((HLay.out.1.trans ((HOF.out z).mono HLay.out.1.size)).cell (p := ⟨ba, oa + k * 4 + 1, none⟩) HBA.out).trans HC1.out
  have d2 : ∀ z, (of z).cell? ⟨ba, oa + k * 4 + 2, none⟩ = some (.int .i64 x.to) := fun z => ((HLay.out.1.trans ((HOF.out z).mono HLay.out.1.size)).cell (p := ⟨ba, oa + k * 4 + 2, none⟩) HBA.out).trans HC2.out
  have d3 : ∀ z, (of z).cell? ⟨ba, oa + k * 4 + 3, none⟩ = some (.int .i64 x.drops) := fun z => ((HLay.out.1.trans ((HOF.out z).mono HLay.out.1.size)).cell (p := ⟨ba, oa + k * 4 + 3, none⟩) HBA.out).trans HC3.out
  have hka := HKA.out
  simp only [pickB]
  repeat (gi_big_quiet_step (fail))
  refine wpQuietIn_nil ?_
  exact rfl
 intro bN W3 hW hbg hbb hbi
 replace HLay := Lib.hid (HLay.out.below hW)
 have c0 := hbb.cell 0
 have z0 := hbb.frozen 0
 have c1 := hbb.cell 1
 have z1 := hbb.frozen 1
 have c2 := hbb.cell 2
 have z2 := hbb.frozen 2
 have c3 := hbb.cell 3
 have z3 := hbb.frozen 3
 have hbl := hbb.lt
 have hbw : w.heap.size ≤ bN := Nat.le_trans (HLay0.out.1.size) hbg
 simp only [pickB]
 refine wpT_cons ?_
 gi_wp2
 refine wpT_nil ?_
 have R3 := ret4' hbb (Below.refl bN W3) (Nat.le_refl _) (.int .i64 x.kind) (.int .i64 x.fr) (.int .i64 x.to) (.int .i64 x.drops)
 have HLay9 := Lib.hid (Lay.add (w := w) (bs := []) ⟨HLay.out.1.trans (R3.2.1.mono hbw), fun p hp => ⟨(HLay.out.2 p hp).1, (HLay.out.2 p hp).2.below R3.2.1 (by have := (HLay0.out.2 p hp).2.lt; omega)⟩⟩ hbw R3.1)
 generalize ((((W3.setCell ⟨bN, 0, none⟩ (.int .i64 x.kind)).setCell ⟨bN, 1, none⟩ (.int .i64 x.fr)).setCell ⟨bN, 2, none⟩ (.int .i64 x.to)).setCell ⟨bN, 3, none⟩ (.int .i64 x.drops)) = W99 at *
 clear c0 z0 c1 z1 c2 z2 c3 z3 hbl hbb hW hbg R3
 replace HLay := HLay9
 obtain ⟨n0, hn0⟩ : ∃ n0, sizeA T.m all x = n0 := ⟨_, rfl⟩
 have HN0 := Lib.hid hn0
 have HNR : Hid (0 ≤ n0 ∧ n0 ≤ 2000) := Lib.hid (by rw [← hn0]; exact HA.out.size)
 rw [hn0]
 clear hn0
 have x0_0 := (HLay.out.blk 0 rfl).cell 0
 have x0_1 := (HLay.out.blk 0 rfl).cell 1
 have x0_2 := (HLay.out.blk 0 rfl).cell 2
 have x0_3 := (HLay.out.blk 0 rfl).cell 3
 have l0_ := HLay.out.lt 0 rfl
 have a0 := (HIN.out.below HLay.out.1).t.cell 0
 have al := (HIN.out.below HLay.out.1).t.lt
 gi_wp2
 clear a0 al
 clear x0_0 x0_1 x0_2 x0_3 l0_
 refine ⟨trivial, fun _ => by omega, (callsIn_wide.2 (callsIn_wide.1 (ends_in T x W99 (HIN.out.below HLay.out.1).tb HA.out.kindOk))).mono ?_⟩
 rintro e W4 ⟨rfl, hb⟩
 replace HLay := Lib.hid (HLay.out.below hb)
 clear hb
 obtain ⟨fr, hfr⟩ : ∃ fr, fromI T.m x = fr := ⟨_, rfl⟩
 obtain ⟨to, hto⟩ : ∃ to, toI T.m x = to := ⟨_, rfl⟩
 have HFT := Lib.hid (And.intro hfr hto)
 rw [hfr, hto]
 obtain ⟨lo, hlo⟩ : ∃ lo, (spanP T.m x f all has).1 = lo := ⟨_, rfl⟩
 obtain ⟨hi, hhi⟩ : ∃ hi, (spanP T.m x f all has).2 = hi := ⟨_, rfl⟩
 have HLH := Lib.hid (And.intro hlo hhi)
 have HSP : Hid (spanP T.m x f all has = if 0 ≤ fr then (max 0 (n0 - (heldAt all fr - heldAt has fr)), min n0 (heldAt has fr)) else if x.fr = f then (n0, n0) else (0, 0)) := Lib.hid (by unfold spanP; rw [hfr, HN0.out])
 have HBD : Hid ((-1 ≤ fr ∧ fr < 4) ∧ (-1 ≤ to ∧ to < 4)) := Lib.hid (by rw [← hfr, ← hto]; exact ⟨⟨fromI_ge x, HFR.out⟩, ⟨toI_ge x, HTO.out⟩⟩)
 clear hfr hto hlo hhi
 by_cases h0 : 0 ≤ fr
 ·
  obtain ⟨q, rfl⟩ : ∃ q : Nat, fr = q := ⟨fr.toNat, by omega⟩
  have hq4 : q < 4 := by have := HBD.out.1; omega
  have HLO : Hid (lo = max 0 (n0 - (heldAt all q - heldAt has q)) ∧ hi = min n0 (heldAt has q)) := Lib.hid (by
   have h := HSP.out
   rw [if_pos h0] at h
   rw [← HLH.out.1, ← HLH.out.2, h]
   exact ⟨rfl, rfl⟩)
  have HE := Lib.hid (HCE.out q _ (heldC_l all hq4))
  have HQ4 := Lib.hid hq4
  have HAQ : Hid (0 ≤ heldAt all q ∧ heldAt all q ≤ 12 ∧ 0 ≤ heldAt has q ∧ heldAt has q ≤ 12) := Lib.hid (by have h1 := HA.out.rng q; have h2 := HFI.out.le q hq4; exact ⟨h1.1, h1.2, h2.1, by omega⟩)
  have hnr := HNR.out
  have haq := HAQ.out
  clear h0
  gi_wp2
  refine wpIn_flow_old [] [true, true, true, true, true, true, true, true, true, true, true, true, true, true] [] (by kernel_rfl) (by kernel_rfl) (by kernel_rfl) (below_drewN (Below.refl _ _) 1) ?_
  refine wpFlow_nil (A := ?AF3) ?hq3 ?_
  case hq3 =>
   rintro σ hσ of hof hcl
   have HOF := Lib.hid hof
   have HCL := Lib.hid hcl
   clear hof hcl
   have hfw : ∀ f, Fence.wide.fn f := fun _ => trivial
   have a0 : ∀ z, (of z).cell? ⟨g0, 0, none⟩ = some (.pointer (some ⟨T.g, 0, none⟩)) := fun z => (HIN.out.below (HLay.out.1.trans ((HOF.out z).mono HLay.out.1.size))).t.cell 0
   have a1 : ∀ z, (of z).cell? ⟨g1, 0, none⟩ = some (.int .i64 (k : Int)) := fun z => (HIN.out.below (HLay.out.1.trans ((HOF.out z).mono HLay.out.1.size))).i.cell 0
   have t4 : ∀ z, (of z).cell? ⟨T.g, 4, none⟩ = some (.slice (some ⟨bl, ol, none⟩) T.nl T.cl) := fun z => by rw [← HAL.out]; exact (HIN.out.below (HLay.out.1.trans ((HOF.out z).mono HLay.out.1.size))).tb.blk.cell 4
   have ce : ∀ z, (of z).cell? ⟨bl, ol + k * 4 + q, none⟩ = some (.int .i64 (heldAt all (q : Int))) := fun z => ((HLay.out.1.trans ((HOF.out z).mono HLay.out.1.size)).cell (p := ⟨bl, ol + k * 4 + q, none⟩) HBL.out).trans HE.out
   have ch : ∀ z, (of z).cell? ⟨g3, q, none⟩ = some (.int .i64 (heldAt has (q : Int))) := fun z => ((HIN.out.below (HLay.out.1.trans ((HOF.out z).mono HLay.out.1.size))).h.cell q).trans (held_at has HQ4.out)
   have hkl := HKL.out
   simp only [pickB]
   repeat (gi_big_quiet_step (fail))
   refine wpQuietIn_nil ?_
   exact rfl
  intro W5 hW
  replace HLay := Lib.hid (HLay.out.below hW)
  clear hW
  simp only [pickB]
  refine wpT_nil ?_
  gi_wp2
  refine wpIn_flow_old [] [true, true, true, true, true, true, true, true, true, true, true] [] (by kernel_rfl) (by kernel_rfl) (by kernel_rfl) (below_drewN (Below.refl _ _) 1) ?_
  refine wpFlow_nil (A := ?AF4) ?hq4 ?_
  case hq4 =>
   rintro σ hσ of hof hcl
   have HOF := Lib.hid hof
   have HCL := Lib.hid hcl
   clear hof hcl
   have hfw : ∀ f, Fence.wide.fn f := fun _ => trivial
   have a0 : ∀ z, (of z).cell? ⟨g0, 0, none⟩ = some (.pointer (some ⟨T.g, 0, none⟩)) := fun z => (HIN.out.below (HLay.out.1.trans ((HOF.out z).mono HLay.out.1.size))).t.cell 0
   have a1 : ∀ z, (of z).cell? ⟨g1, 0, none⟩ = some (.int .i64 (k : Int)) := fun z => (HIN.out.below (HLay.out.1.trans ((HOF.out z).mono HLay.out.1.size))).i.cell 0
   have t4 : ∀ z, (of z).cell? ⟨T.g, 4, none⟩ = some (.slice (some ⟨bl, ol, none⟩) T.nl T.cl) := fun z => by rw [← HAL.out]; exact (HIN.out.below (HLay.out.1.trans ((HOF.out z).mono HLay.out.1.size))).tb.blk.cell 4
   have ce : ∀ z, (of z).cell? ⟨bl, ol + k * 4 + q, none⟩ = some (.int .i64 (heldAt all (q : Int))) := fun z => ((HLay.out.1.trans ((HOF.out z).mono HLay.out.1.size)).cell (p := ⟨bl, ol + k * 4 + q, none⟩) HBL.out).trans HE.out
   have ch : ∀ z, (of z).cell? ⟨g3, q, none⟩ = some (.int .i64 (heldAt has (q : Int))) := fun z => ((HIN.out.below (HLay.out.1.trans ((HOF.out z).mono HLay.out.1.size))).h.cell q).trans (held_at has HQ4.out)
   have hkl := HKL.out
   simp only [pickB]
   repeat (gi_big_quiet_step (fail))
   refine wpQuietIn_nil ?_
   exact rfl
  intro W6 hW
  replace HLay := Lib.hid (HLay.out.below hW)
  clear hW
  simp only [pickB]
  refine wpT_nil ?_
  gi_wp2
  rw [← HLO.out.1, ← HLO.out.2]
  have HLR : Hid (0 ≤ lo ∧ hi ≤ 2000) := Lib.hid (by have h1 := HLO.out; omega)
  have HWL := Lib.hid HLay.out.1
  clear HLay9 HLay0 HLay
  generalize W6 = WL at *
  clear hnr haq hq4
  obtain ⟨fr, hfr⟩ : ∃ fr, (q : Int) = fr := ⟨_, rfl⟩
  simp only [hfr] at *
  gi_loopw [13] (fun v13 wr => ∃ (j : Int) (pre : List (Mv T.m x f all has)), v13 = .int .i64 j ∧ lo ≤ j ∧ (j ≤ hi + 1 ∨ j = lo) ∧ Hid (pre.length = (j - lo).toNat ∧ (∀ i, lo ≤ i → i < j → ∃ y ∈ pre, y.1 = i) ∧ J pre wr ∧ Blk wr g3 97 #[.int .i64 (heldAt has 0), .int .i64 (heldAt has 1), .int .i64 (heldAt has 2), .int .i64 (heldAt has 3)])) (fun v13 _ => (hi + 1 - intOf v13).toNat)
  case atStart => exact ⟨lo, [], rfl, Int.le_refl _, .inr rfl, Lib.hid ⟨by simp, (fun i h1 h2 => by omega), HJ.out _ _ _ none H0.out (grown_of_below HWL.out none) (fun r e => by cases e), (HIN.out.below HWL.out).h⟩⟩
  case round =>
   obtain ⟨j, pre, rfl, hj1, hj2, HS⟩ := hrel
   have HHJ := Lib.hid (And.intro hj1 hj2)
   have hlr : 0 ≤ (lo : Int) ∧ (hi : Int) ≤ 2000 := HLR.out
   by_cases hlt : j ≤ hi
   ·have x0 := HS.out.2.2.2.cell 0
    have x1 := HS.out.2.2.2.cell 1
    have x2 := HS.out.2.2.2.cell 2
    have x3 := HS.out.2.2.2.cell 3
    have xl := HS.out.2.2.2.lt
    have HLT := Lib.hid hlt
    gi_wp2
    clear x0 x1 x2 x3 xl
    refine ⟨trivial, fun _ => by omega, (callsIn_wide.2 (shift_any has fr to j wr HFI.out.lh (fun q => by
     by_cases hq : q < 4
     ·have h1 := HFI.out.le q hq; have h2 := HA.out.rng q; omega
     ·unfold heldAt; rw [List.getElem?_eq_none (by rw [HFI.out.lh]; omega)]; decide) (by omega) HBD.out.1 HBD.out.2 (by rw [← HFT.out.1, ← HFT.out.2]; exact HA.out.apart))).mono ?_⟩
    rintro e W7 ⟨rfl, hb7⟩
    have hj7 := HJ.out pre wr W7 none HS.out.2.2.1 (grown_of_below hb7 none) (fun r e => by cases e)
    have HI7 := Lib.hid (HS.out.2.2.2.below hb7 HS.out.2.2.2.lt)
    have hY := HY.out pre ⟨j, by rw [HLH.out.1, HLH.out.2]; exact ⟨hj1, hlt⟩⟩ W7 hj7 (by rw [HLH.out.1, HLH.out.2, HS.out.1]; omega)
    unfold Mv.enc at hY
    rw [HFT.out.1, HFT.out.2] at hY
    dsimp only at hY
    obtain ⟨fn, tmps, assign, body, hy, hR⟩ := hY
    have HR := Lib.hid hR
    clear hR hj7 hb7
    gi_wp2
    refine ⟨fun _ => by omega, HR.out.mono ?_⟩
    rintro e W8 (⟨rfl, hj8, hk8⟩ | ⟨rfl, hjx⟩)
    ·have HJ8 := Lib.hid hj8
     have HI8 := Lib.hid (hk8 HI7.out)
     clear hj8 hk8 hy
     gi_wp2
     go_roundw
     case rel => exact ⟨j + 1, pre ++ [⟨j, by rw [HLH.out.1, HLH.out.2]; exact ⟨HHJ.out.1, HLT.out⟩⟩], rfl, by have := HHJ.out; omega, .inl (by have := HLT.out; omega), Lib.hid ⟨by rw [List.length_append, HS.out.1, List.length_singleton]; have := HHJ.out; omega, fun i h1 h2 => by
      by_cases e : i = j
      ·exact ⟨_, List.mem_append_right _ (List.mem_singleton_self _), e.symm⟩
      ·obtain ⟨y, hy, he⟩ := HS.out.2.1 i h1 (by omega)
       exact ⟨y, by simp [hy], he⟩, HJ8.out, HI8.out⟩⟩
     case measure => have := HHJ.out; have := HLT.out; simp only [intOf]; omega
    ·have HJX := Lib.hid hjx
     clear hjx hy
     gi_wp2
     refine bodyPost_ret (results_none rfl _ _ _) rfl ?_
     exact ⟨⟨_, rfl⟩, .inr ⟨_, trivial, HJX.out⟩⟩
   ·gi_wp2
    go_end0
    exact ⟨⟨_, rfl⟩, .inl ⟨pre, fun (i : Int) h1 h2 => HS.out.2.1 i (by rw [← HLH.out.1]; exact h1) (by have := HLH.out.2; omega), HS.out.2.2.1⟩⟩
 ·
  have h0c : fr < 0 := by omega
  by_cases hf : x.fr = f
  ·
   replace HLH : Hid ((spanP T.m x f all has).1 = n0 ∧ (spanP T.m x f all has).2 = n0) := Lib.hid (by
    have h := HSP.out
    rw [if_neg (by omega), if_pos hf] at h
    rw [h]
    exact ⟨rfl, rfl⟩)
   have hfb : (x.fr == f) = true := by simpa using hf
   have hfb2 : (x.fr != f) = false := by simpa using hf
   have x0_0 := (HLay.out.blk 0 rfl).cell 0
   have x0_1 := (HLay.out.blk 0 rfl).cell 1
   have x0_2 := (HLay.out.blk 0 rfl).cell 2
   have x0_3 := (HLay.out.blk 0 rfl).cell 3
   have l0_ := HLay.out.lt 0 rfl
   have c1 := (HIN.out.below HLay.out.1).f.cell 0
   have c1l := (HIN.out.below HLay.out.1).f.lt
   have hnr := HNR.out
   gi_wp2
   clear c1 c1l hfb hfb2
   clear x0_0 x0_1 x0_2 x0_3 l0_
   have HLR : Hid (0 ≤ n0 ∧ n0 ≤ 2000) := Lib.hid (by have h2 := HNR.out; omega)
   have HWL := Lib.hid HLay.out.1
   clear HLay9 HLay0 HLay
   generalize W4 = WL at *
   clear h0 h0c hf hnr
   gi_loopw [13] (fun v13 wr => ∃ (j : Int) (pre : List (Mv T.m x f all has)), v13 = .int .i64 j ∧ n0 ≤ j ∧ (j ≤ n0 + 1 ∨ j = n0) ∧ Hid (pre.length = (j - n0).toNat ∧ (∀ i, n0 ≤ i → i < j → ∃ y ∈ pre, y.1 = i) ∧ J pre wr ∧ Blk wr g3 97 #[.int .i64 (heldAt has 0), .int .i64 (heldAt has 1), .int .i64 (heldAt has 2), .int .i64 (heldAt has 3)])) (fun v13 _ => (n0 + 1 - intOf v13).toNat)
   case atStart => exact ⟨n0, [], rfl, Int.le_refl _, .inr rfl, Lib.hid ⟨by simp, (fun i h1 h2 => by omega), HJ.out _ _ _ none H0.out (grown_of_below HWL.out none) (fun r e => by cases e), (HIN.out.below HWL.out).h⟩⟩
   case round =>
    obtain ⟨j, pre, rfl, hj1, hj2, HS⟩ := hrel
    have HHJ := Lib.hid (And.intro hj1 hj2)
    have hlr : 0 ≤ (n0 : Int) ∧ (n0 : Int) ≤ 2000 := HLR.out
    by_cases hlt : j ≤ n0
    ·have x0 := HS.out.2.2.2.cell 0
     have x1 := HS.out.2.2.2.cell 1
     have x2 := HS.out.2.2.2.cell 2
     have x3 := HS.out.2.2.2.cell 3
     have xl := HS.out.2.2.2.lt
     have HLT := Lib.hid hlt
     gi_wp2
     clear x0 x1 x2 x3 xl
     refine ⟨trivial, fun _ => by omega, (callsIn_wide.2 (shift_any has fr to j wr HFI.out.lh (fun q => by
      by_cases hq : q < 4
      ·have h1 := HFI.out.le q hq; have h2 := HA.out.rng q; omega
      ·unfold heldAt; rw [List.getElem?_eq_none (by rw [HFI.out.lh]; omega)]; decide) (by omega) HBD.out.1 HBD.out.2 (by rw [← HFT.out.1, ← HFT.out.2]; exact HA.out.apart))).mono ?_⟩
     rintro e W7 ⟨rfl, hb7⟩
     have hj7 := HJ.out pre wr W7 none HS.out.2.2.1 (grown_of_below hb7 none) (fun r e => by cases e)
     have HI7 := Lib.hid (HS.out.2.2.2.below hb7 HS.out.2.2.2.lt)
     have hY := HY.out pre ⟨j, by rw [HLH.out.1, HLH.out.2]; exact ⟨hj1, hlt⟩⟩ W7 hj7 (by rw [HLH.out.1, HLH.out.2, HS.out.1]; omega)
     unfold Mv.enc at hY
     rw [HFT.out.1, HFT.out.2] at hY
     dsimp only at hY
     obtain ⟨fn, tmps, assign, body, hy, hR⟩ := hY
     have HR := Lib.hid hR
     clear hR hj7 hb7
     gi_wp2
     refine ⟨fun _ => by omega, HR.out.mono ?_⟩
     rintro e W8 (⟨rfl, hj8, hk8⟩ | ⟨rfl, hjx⟩)
     ·have HJ8 := Lib.hid hj8
      have HI8 := Lib.hid (hk8 HI7.out)
      clear hj8 hk8 hy
      gi_wp2
      go_roundw
      case rel => exact ⟨j + 1, pre ++ [⟨j, by rw [HLH.out.1, HLH.out.2]; exact ⟨HHJ.out.1, HLT.out⟩⟩], rfl, by have := HHJ.out; omega, .inl (by have := HLT.out; omega), Lib.hid ⟨by rw [List.length_append, HS.out.1, List.length_singleton]; have := HHJ.out; omega, fun i h1 h2 => by
       by_cases e : i = j
       ·exact ⟨_, List.mem_append_right _ (List.mem_singleton_self _), e.symm⟩
       ·obtain ⟨y, hy, he⟩ := HS.out.2.1 i h1 (by omega)
        exact ⟨y, by simp [hy], he⟩, HJ8.out, HI8.out⟩⟩
      case measure => have := HHJ.out; have := HLT.out; simp only [intOf]; omega
     ·have HJX := Lib.hid hjx
      clear hjx hy
      gi_wp2
      refine bodyPost_ret (results_none rfl _ _ _) rfl ?_
      exact ⟨⟨_, rfl⟩, .inr ⟨_, trivial, HJX.out⟩⟩
    ·gi_wp2
     go_end0
     exact ⟨⟨_, rfl⟩, .inl ⟨pre, fun (i : Int) h1 h2 => HS.out.2.1 i (by rw [← HLH.out.1]; exact h1) (by have := HLH.out.2; omega), HS.out.2.2.1⟩⟩
  ·
   replace HLH : Hid ((spanP T.m x f all has).1 = 0 ∧ (spanP T.m x f all has).2 = 0) := Lib.hid (by
    have h := HSP.out
    rw [if_neg (by omega), if_neg hf] at h
    rw [h]
    exact ⟨rfl, rfl⟩)
   have hfb : (x.fr == f) = false := by simpa using hf
   have hfb2 : (x.fr != f) = true := by simpa using hf
   have x0_0 := (HLay.out.blk 0 rfl).cell 0
   have x0_1 := (HLay.out.blk 0 rfl).cell 1
   have x0_2 := (HLay.out.blk 0 rfl).cell 2
   have x0_3 := (HLay.out.blk 0 rfl).cell 3
   have l0_ := HLay.out.lt 0 rfl
   have c1 := (HIN.out.below HLay.out.1).f.cell 0
   have c1l := (HIN.out.below HLay.out.1).f.lt
   have hnr := HNR.out
   gi_wp2
   clear c1 c1l hfb hfb2
   clear x0_0 x0_1 x0_2 x0_3 l0_
   have HLR : Hid (0 ≤ (0 : Int) ∧ (0 : Int) ≤ 2000) := Lib.hid (by have h2 := HNR.out; omega)
   have HWL := Lib.hid HLay.out.1
   clear HLay9 HLay0 HLay
   generalize W4 = WL at *
   clear h0 h0c hf hnr
   gi_loopw [13] (fun v13 wr => ∃ (j : Int) (pre : List (Mv T.m x f all has)), v13 = .int .i64 j ∧ 0 ≤ j ∧ (j ≤ 0 + 1 ∨ j = 0) ∧ Hid (pre.length = (j - 0).toNat ∧ (∀ i, 0 ≤ i → i < j → ∃ y ∈ pre, y.1 = i) ∧ J pre wr ∧ Blk wr g3 97 #[.int .i64 (heldAt has 0), .int .i64 (heldAt has 1), .int .i64 (heldAt has 2), .int .i64 (heldAt has 3)])) (fun v13 _ => (0 + 1 - intOf v13).toNat)
   case atStart => exact ⟨0, [], rfl, Int.le_refl _, .inr rfl, Lib.hid ⟨by simp, (fun i h1 h2 => by omega), HJ.out _ _ _ none H0.out (grown_of_below HWL.out none) (fun r e => by cases e), (HIN.out.below HWL.out).h⟩⟩
   case round =>
    obtain ⟨j, pre, rfl, hj1, hj2, HS⟩ := hrel
    have HHJ := Lib.hid (And.intro hj1 hj2)
    have hlr : 0 ≤ (0 : Int) ∧ (0 : Int) ≤ 2000 := HLR.out
    by_cases hlt : j ≤ 0
    ·have x0 := HS.out.2.2.2.cell 0
     have x1 := HS.out.2.2.2.cell 1
     have x2 := HS.out.2.2.2.cell 2
     have x3 := HS.out.2.2.2.cell 3
     have xl := HS.out.2.2.2.lt
     have HLT := Lib.hid hlt
     gi_wp2
     clear x0 x1 x2 x3 xl
     refine ⟨trivial, fun _ => by omega, (callsIn_wide.2 (shift_any has fr to j wr HFI.out.lh (fun q => by
      by_cases hq : q < 4
      ·have h1 := HFI.out.le q hq; have h2 := HA.out.rng q; omega
      ·unfold heldAt; rw [List.getElem?_eq_none (by rw [HFI.out.lh]; omega)]; decide) (by omega) HBD.out.1 HBD.out.2 (by rw [← HFT.out.1, ← HFT.out.2]; exact HA.out.apart))).mono ?_⟩
     rintro e W7 ⟨rfl, hb7⟩
     have hj7 := HJ.out pre wr W7 none HS.out.2.2.1 (grown_of_below hb7 none) (fun r e => by cases e)
     have HI7 := Lib.hid (HS.out.2.2.2.below hb7 HS.out.2.2.2.lt)
     have hY := HY.out pre ⟨j, by rw [HLH.out.1, HLH.out.2]; exact ⟨hj1, hlt⟩⟩ W7 hj7 (by rw [HLH.out.1, HLH.out.2, HS.out.1]; omega)
     unfold Mv.enc at hY
     rw [HFT.out.1, HFT.out.2] at hY
     dsimp only at hY
     obtain ⟨fn, tmps, assign, body, hy, hR⟩ := hY
     have HR := Lib.hid hR
     clear hR hj7 hb7
     gi_wp2
     refine ⟨fun _ => by omega, HR.out.mono ?_⟩
     rintro e W8 (⟨rfl, hj8, hk8⟩ | ⟨rfl, hjx⟩)
     ·have HJ8 := Lib.hid hj8
      have HI8 := Lib.hid (hk8 HI7.out)
      clear hj8 hk8 hy
      gi_wp2
      go_roundw
      case rel => exact ⟨j + 1, pre ++ [⟨j, by rw [HLH.out.1, HLH.out.2]; exact ⟨HHJ.out.1, HLT.out⟩⟩], rfl, by have := HHJ.out; omega, .inl (by have := HLT.out; omega), Lib.hid ⟨by rw [List.length_append, HS.out.1, List.length_singleton]; have := HHJ.out; omega, fun i h1 h2 => by
       by_cases e : i = j
       ·exact ⟨_, List.mem_append_right _ (List.mem_singleton_self _), e.symm⟩
       ·obtain ⟨y, hy, he⟩ := HS.out.2.1 i h1 (by omega)
        exact ⟨y, by simp [hy], he⟩, HJ8.out, HI8.out⟩⟩
      case measure => have := HHJ.out; have := HLT.out; simp only [intOf]; omega
     ·have HJX := Lib.hid hjx
      clear hjx hy
      gi_wp2
      refine bodyPost_ret (results_none rfl _ _ _) rfl ?_
      exact ⟨⟨_, rfl⟩, .inr ⟨_, trivial, HJX.out⟩⟩
    ·gi_wp2
     go_end0
     exact ⟨⟨_, rfl⟩, .inl ⟨pre, fun (i : Int) h1 h2 => HS.out.2.1 i (by rw [← HLH.out.1]; exact h1) (by have := HLH.out.2; omega), HS.out.2.2.1⟩⟩

end Go.Proofs.Ythofngceiecniaa
/- slices.Clone at vessels, acts, tastes. -/
namespace Go.Proofs.Ythofngceiecniaa
open Go.RowKit

theorem info_vess : (Try.prog.info? 80).map (fun i => (i.zero, i.size, i.bytes)) = some (some (.agg #[.int .i64 0, .int .i64 0]), 2, 16) := by kernel_rfl
theorem elem_vess : ElemAt Try.prog 22 80 (.agg #[.int .i64 0, .int .i64 0]) 2 16 := by
 obtain ⟨i0, hi, hz0, hz1, hz2⟩ := info_parts info_vess
 exact ⟨i0, Try.underlying22, hi, hz0, hz1, hz2, rfl, by decide⟩
theorem vess_one1 (x : Vess) : ∀ u ∈ x.vals, u.oneCell' = true := by
 intro u hu
 simp only [Vess.vals, List.mem_cons, List.not_mem_nil, or_false] at hu
 obtain rfl | rfl := hu <;> rfl
theorem vess_one (l : List Vess) : ∀ u ∈ l.flatMap Vess.vals, u.oneCell' = true := by
 intro u hu
 obtain ⟨x, _, hx⟩ := List.mem_flatMap.1 hu
 exact vess_one1 x u hx
theorem info_act : (Try.prog.info? 67).map (fun i => (i.zero, i.size, i.bytes)) = some (some (.agg #[.int .i64 0, .int .i64 0, .int .i64 0, .int .i64 0]), 4, 32) := by kernel_rfl
theorem elem_act : ElemAt Try.prog 23 67 (.agg #[.int .i64 0, .int .i64 0, .int .i64 0, .int .i64 0]) 4 32 := by
 obtain ⟨i0, hi, hz0, hz1, hz2⟩ := info_parts info_act
 exact ⟨i0, Try.underlying23, hi, hz0, hz1, hz2, rfl, by decide⟩
theorem act_one1 (x : MAct) : ∀ u ∈ x.vals, u.oneCell' = true := by
 intro u hu
 simp only [MAct.vals, List.mem_cons, List.not_mem_nil, or_false] at hu
 obtain rfl | rfl | rfl | rfl := hu <;> rfl
theorem act_one (l : List MAct) : ∀ u ∈ l.flatMap MAct.vals, u.oneCell' = true := by
 intro u hu
 obtain ⟨x, _, hx⟩ := List.mem_flatMap.1 hu
 exact act_one1 x u hx
theorem info_tast : (Try.prog.info? 65).map (fun i => (i.zero, i.size, i.bytes)) = some (some (.agg #[.int .i64 0, .int .i64 0, .int .i64 0, .int .i64 0, .int .i64 0, .int .i64 0]), 6, 48) := by kernel_rfl
theorem elem_tast : ElemAt Try.prog 24 65 (.agg #[.int .i64 0, .int .i64 0, .int .i64 0, .int .i64 0, .int .i64 0, .int .i64 0]) 6 48 := by
 obtain ⟨i0, hi, hz0, hz1, hz2⟩ := info_parts info_tast
 exact ⟨i0, Try.underlying24, hi, hz0, hz1, hz2, rfl, by decide⟩
theorem tast_one1 (x : Tast) : ∀ u ∈ x.vals, u.oneCell' = true := by
 intro u hu
 simp only [Tast.vals, List.mem_cons, List.not_mem_nil, or_false] at hu
 obtain rfl | rfl | rfl | rfl | rfl | rfl := hu <;> rfl
theorem tast_one (l : List Tast) : ∀ u ∈ l.flatMap Tast.vals, u.oneCell' = true := by
 intro u hu
 obtain ⟨x, _, hx⟩ := List.mem_flatMap.1 hu
 exact tast_one1 x u hx
end Go.Proofs.Ythofngceiecniaa
/- slices.IndexFunc at tastes. -/
namespace Go.Proofs.Ythofngceiecniaa
open Go.RowKit

/-- A slice of tastes. -/
def TastsAt (w : World) (B : Nat) (A : Option Addr) (n : Nat) (l : List Tast) : Prop := Reads w B 6 A n (l.flatMap Tast.vals)
section
variable {w w' : World} {B B' n : Nat} {A : Option Addr} {l : List Tast}
theorem TastsAt.len (h : TastsAt w B A n l) : l.length = n := recs_n tast_k (by omega) h
theorem TastsAt.below (h : TastsAt w B A n l) (hb : Below B w w') : TastsAt w' B A n l := Reads.below h hb
theorem TastsAt.more (h : TastsAt w B A n l) (hB : B ≤ B') : TastsAt w B' A n l := Reads.more h hB
theorem TastsAt.cell (h : TastsAt w B A n l) {k : Nat} (hk : k < n) : ∃ b off x, A = some ⟨b, off, none⟩ ∧ b < B ∧ l[k]? = some x ∧ w.cell? ⟨b, off + k * 6, none⟩ = some (.int .i64 x.num) ∧ w.cell? ⟨b, off + k * 6 + 1, none⟩ = some (.int .i64 x.vessel) ∧ w.cell? ⟨b, off + k * 6 + 2, none⟩ = some (.int .i64 x.after)
  ∧ w.cell? ⟨b, off + k * 6 + 3, none⟩ = some (.int .i64 x.fountain) ∧ w.cell? ⟨b, off + k * 6 + 4, none⟩ = some (.int .i64 x.lo) ∧ w.cell? ⟨b, off + k * 6 + 5, none⟩ = some (.int .i64 x.hi) := by
 obtain ⟨b, off, x, e, hb, hx, hc⟩ := recs_cell tast_k (by omega) h hk
 exact ⟨b, off, x, e, hb, hx, hc 0 _ rfl, hc 1 _ rfl, hc 2 _ rfl, hc 3 _ rfl, hc 4 _ rfl, hc 5 _ rfl⟩
end
@[reducible] def tastW (x : Tast) : Value := .agg #[.int .i64 x.num, .int .i64 x.vessel, .int .i64 x.after, .int .i64 x.fountain, .int .i64 x.lo, .int .i64 x.hi]

/-- The first place at which something is so; -1 if there is none. -/
def idxL {α : Type} (p : α → Bool) (l : List α) : Int := if l.any p then (l.findIdx p : Int) else -1
theorem idxL_none {α : Type} {p : α → Bool} {l : List α} (h : ∀ y ∈ l, p y = false) : idxL p l = -1 := by
 unfold idxL
 rw [if_neg]
 simp only [List.any_eq_true, not_exists, not_and, Bool.not_eq_true]
 exact h
theorem idxL_some {α : Type} {p : α → Bool} {l : List α} {k : Nat} {x : α} (hx : l[k]? = some x) (hp : p x = true) (h : ∀ y ∈ l.take k, p y = false) : idxL p l = k := by
 obtain ⟨hk, rfl⟩ := List.getElem?_eq_some_iff.1 hx
 have hf : l.findIdx p = k := by
  rw [List.findIdx_eq hk]
  refine ⟨hp, fun j hj => ?_⟩
  have := h (l[j]'(by omega)) (by
   rw [List.mem_take_iff_getElem]
   exact ⟨j, by omega, rfl⟩)
  simp [this]
 unfold idxL
 rw [if_pos (List.any_eq_true.2 ⟨_, List.getElem_mem hk, hp⟩), hf]

/-- A predicate on links, as a function value: in all worlds in which the blocks below K lie as in w. -/
structure PredT (w : World) (K : Nat) (F : FuncId) (C : Array Value) (p : Tast → Bool) : Prop where
 enters : ∀ args W, (callFunc F args).run Try.prog W = .ok (.enter F args) W
 calls : ∀ x W, Below K w W → Calls Try.prog F (#[.agg #[.int .i64 x.num, .int .i64 x.vessel, .int .i64 x.after, .int .i64 x.fountain, .int .i64 x.lo, .int .i64 x.hi]] ++ C) W fun e w' => e = .returned (.bool (p x)) ∧ Below W.heap.size W w'
theorem PredT.below {w w' : World} {K : Nat} {F : FuncId} {C : Array Value} {p : Tast → Bool} (h : PredT w K F C p) (hb : Below K w w') : PredT w' K F C p :=
 ⟨h.enters, fun x W hW => h.calls x W (hb.trans hW)⟩

set_option maxRecDepth 100000 in
set_option maxHeartbeats 2000000 in
theorem indexFunc_tastM (F : FuncId) (C : Array Value) (p : Tast → Bool) (A : Option Addr) (n c : Nat) (l : List Tast) (w : World) (hr : TastsAt w w.heap.size A n l) (hn : n ≤ maxLen) (hE : ∀ args W, (callFunc F args).run Try.prog W = .ok (.enter F args) W)
  (hF : ∀ x ∈ l, ∀ W, Below w.heap.size w W → Calls Try.prog F (#[.agg #[.int .i64 x.num, .int .i64 x.vessel, .int .i64 x.after, .int .i64 x.fountain, .int .i64 x.lo, .int .i64 x.hi]] ++ C) W fun e w' => e = .returned (.bool (p x)) ∧ Below W.heap.size W w') :
  Calls Try.prog 127 #[.slice A n c, .func (.func F) #[] C] w fun e w' => e = .returned (.int .i64 (idxL p l)) ∧ Below w.heap.size w w' := by
 unfold maxLen at hn
 have HF := Lib.hid hF
 clear hF
 go_enter Try.func127, Try.ntmps127
 go_wp2_with fail
 go_loopw [8, 5] (fun i j wr => ∃ k : Nat, k ≤ n ∧ i = .int .i64 k ∧ (∀ y ∈ l.take k, p y = false) ∧ Below w.heap.size w wr)
  (fun i _ _ => n - (intOf i).toNat)
 case atStart => exact ⟨0, by omega, rfl, by simp, Below.refl _ _⟩
 case round =>
  obtain ⟨k, hk, rfl, hno, hb⟩ := hrel
  have HN := Lib.hid hno
  clear hno
  by_cases hlt : k < n
  ·obtain ⟨b, off, x, rfl, hbB, hx, hc0, hc1, hc2, hc3, hc4, hc5⟩ := (hr.below hb).cell hlt
   have HX := Lib.hid hx
   clear hx
   go_wp2_with fail
   refine (HF.out x (mem_of_at HX.out) _ hb).mono ?_
   rintro e w' ⟨rfl, hb'⟩
   cases hp : p x with
   | true =>
    have HP := Lib.hid hp
    clear hp
    go_wp2_with fail
    go_ret
    exact ⟨ret_int (idxL_some HX.out HP.out HN.out).symm, hb.trans (hb'.mono hb.size)⟩
   | false =>
    have HP := Lib.hid hp
    clear hp
    go_wp2_with fail
    go_roundw
    case rel => exact ⟨k + 1, by omega, by go_num, take_snoc_all HX.out HP.out HN.out, hb.trans (hb'.mono hb.size)⟩
    case measure => simp [intOf]; omega
  ·go_wp2_with fail
   go_ret
   exact ⟨ret_int (idxL_none (by
    have := HN.out
    rwa [List.take_of_length_le (by have := hr.len; omega)] at this)).symm, hb⟩
end Go.Proofs.Ythofngceiecniaa
/- What was tasted of a fountain: mix.truths.tastes. -/
namespace Go.Proofs.Ythofngceiecniaa
open Go.RowKit
/-- A fountain's truths in the making: their block, and the table. -/
def trC (T : Tb) (f : Int) (As : Option Addr) (ns cs : Nat) : Array Value := #[.pointer (some ⟨T.g, 0, none⟩), .int .i64 f, .slice As ns cs]
/-- Whether a taste lets this be. -/
def tasteB (m : Mix) (f : Int) (t : Int) (has : Held) (x : Tast) : Bool := decide (x.fountain = f) && decide (x.after = t) && !(decide (x.lo ≤ heldAt has (idxV m.vessels x.vessel)) && decide (heldAt has (idxV m.vessels x.vessel) ≤ x.hi))
theorem tasted_any (m : Mix) (f : Int) (t : Nat) (has : Held) : tastedB m f t has = !m.tastes.any (tasteB m f t has) := by
 unfold tastedB tasteB
 rw [List.not_any_eq_all_not]
theorem idxL_ge {α : Type} {p : α → Bool} {l : List α} : decide (0 ≤ idxL p l) = l.any p := by
 unfold idxL
 cases h : l.any p <;> simp
set_option maxHeartbeats 1000000 in
theorem containsFunc_tast (F : FuncId) (C : Array Value) (p : Tast → Bool) (A : Option Addr) (n c : Nat) (l : List Tast) (w : World) (hr : TastsAt w w.heap.size A n l) (hn : n ≤ maxLen)
  (hE : ∀ args W, (callFunc F args).run Try.prog W = .ok (.enter F args) W)
  (hF : ∀ x ∈ l, ∀ W, Below w.heap.size w W → Calls Try.prog F (#[.agg #[.int .i64 x.num, .int .i64 x.vessel, .int .i64 x.after, .int .i64 x.fountain, .int .i64 x.lo, .int .i64 x.hi]] ++ C) W fun e w' => e = .returned (.bool (p x)) ∧ Below W.heap.size W w') :
  Calls Try.prog 113 #[.slice A n c, .func (.func F) #[] C] w fun e w' => e = .returned (.bool (l.any p)) ∧ Below w.heap.size w w' := by
 have H := Lib.hid (indexFunc_tastM F C p A n c l w hr hn hE hF)
 clear hE hF
 go_enter Try.func113, Try.ntmps113
 go_wp2_with fail
 refine H.out.mono ?_
 rintro e w' ⟨rfl, hb⟩
 go_wp2_with fail
 go_ret
 exact ⟨ret_bool idxL_ge, hb⟩

set_option maxRecDepth 100000 in
set_option maxHeartbeats 8000000 in
theorem tastes1_in (T : Tb) (f : Int) (As : Option Addr) (ns cs : Nat) (x : Tast) (t : Int) (has : Held) (gU g1 g2 g3 : Nat) (w : World) (hT : TbAt w T) (hU : Blk w gU 95 (trC T f As ns cs))
  (h1 : Blk w g1 86 #[.pointer (some ⟨gU, 0, none⟩)]) (h2 : Blk w g2 3 #[.int .i64 t]) (h3 : Blk w g3 97 #[.int .i64 (heldAt has 0), .int .i64 (heldAt has 1), .int .i64 (heldAt has 2), .int .i64 (heldAt has 3)]) (hx : 0 ≤ idxV T.m.vessels x.vessel ∧ idxV T.m.vessels x.vessel < 4) :
  CallsIn Fence.wide 9 Try.prog 114 (#[.agg #[.int .i64 x.num, .int .i64 x.vessel, .int .i64 x.after, .int .i64 x.fountain, .int .i64 x.lo, .int .i64 x.hi]] ++ #[.pointer (some ⟨g1, 0, none⟩), .pointer (some ⟨g2, 0, none⟩), .pointer (some ⟨g3, 0, none⟩)]) w fun e w' => e = .returned (.bool (tasteB T.m f t has x)) ∧ Below w.heap.size w w' := by
 have HT := Lib.hid hT
 have HU := Lib.hid hU
 have H1 := Lib.hid h1
 have H2 := Lib.hid h2
 have H3 := Lib.hid h3
 have HX := Lib.hid hx
 clear hT hU h1 h2 h3 hx
 refine callsIn_of_wp Try.func114 rfl trivial ?_ rfl
 simp only [Try.ntmps114, List.size_toArray, List.length_cons, List.length_nil, Nat.reduceAdd, Nat.reduceSub, Array.replicate_succ, Array.replicate_zero, List.push_toArray, List.append_toArray, List.nil_append, List.cons_append]
 gi_wp2
 have HLay := Lib.hid (Lay.one w 65 #[.int .i64 x.num, .int .i64 x.vessel, .int .i64 x.after, .int .i64 x.fountain, .int .i64 x.lo, .int .i64 x.hi])
 generalize (w.alloc (.cells #[.int .i64 x.num, .int .i64 x.vessel, .int .i64 x.after, .int .i64 x.fountain, .int .i64 x.lo, .int .i64 x.hi] 65)) = w0 at *
 by_cases ha : x.fountain = f
 ·
  by_cases hb : x.after = t
  ·
   obtain ⟨q, hq⟩ : ∃ q : Nat, idxV T.m.vessels x.vessel = q := ⟨(idxV T.m.vessels x.vessel).toNat, by have := HX.out; omega⟩
   have HQ4 : Hid (q < 4) := Lib.hid (by have := HX.out; omega)
   have HQ := Lib.hid hq
   have HAB := Lib.hid (And.intro ha hb)
   have hae : (x.fountain == f) = true := by simpa using ha
   have hbe : (x.after == t) = true := by simpa using hb
   clear ha hb hq
   refine wpIn_flow_old [([true, true, true, true, true, true, true, true, true, true, true, true, true, true, true, true, true, true, true, true, true, true, true, true, true, true], 26), ([false, false, false, false, false, false, false, false, false, false, false, false, false, false, false, false, false, false, false, false, false, false, false, false, false, false, false, true, true], 29), ([], 30)] [false, false, false, false, false, false, false, false, false, false, false, false, false, false, false, false, false, false, false, false, false, false, false, false, false, false, false, false, false, false, false, true, true, true] [] (by kernel_rfl) (by kernel_rfl) (by kernel_rfl) (below_drewN (Below.refl _ _) 1) ?_
   refine wpFlow_cons (A := ?AF1) rfl ?hq1 ?_
   case hq1 =>
    rintro σ hσ of hof hcl
    have HOF := Lib.hid hof
    have HCL := Lib.hid hcl
    clear hof hcl
    have c0_ : ∀ z, (of z).cell? ⟨w.heap.size, 0, none⟩ = some (.int .i64 x.num) := fun z => ((HLay.out.below (HOF.out z)).blk 0 rfl).cell 0
    have c1_ : ∀ z, (of z).cell? ⟨w.heap.size, 1, none⟩ = some (.int .i64 x.vessel) := fun z => ((HLay.out.below (HOF.out z)).blk 0 rfl).cell 1
    have c2_ : ∀ z, (of z).cell? ⟨w.heap.size, 2, none⟩ = some (.int .i64 x.after) := fun z => ((HLay.out.below (HOF.out z)).blk 0 rfl).cell 2
    have c3_ : ∀ z, (of z).cell? ⟨w.heap.size, 3, none⟩ = some (.int .i64 x.fountain) := fun z => ((HLay.out.below (HOF.out z)).blk 0 rfl).cell 3
    have c4_ : ∀ z, (of z).cell? ⟨w.heap.size, 4, none⟩ = some (.int .i64 x.lo) := fun z => ((HLay.out.below (HOF.out z)).blk 0 rfl).cell 4
    have c5_ : ∀ z, (of z).cell? ⟨w.heap.size, 5, none⟩ = some (.int .i64 x.hi) := fun z => ((HLay.out.below (HOF.out z)).blk 0 rfl).cell 5
    have hfw : ∀ f, Fence.wide.fn f := fun _ => trivial
    have b1 : ∀ z, (of z).cell? ⟨g1, 0, none⟩ = some (.pointer (some ⟨gU, 0, none⟩)) := fun z => (H1.out.below (HLay.out.1.trans ((HOF.out z).mono HLay.out.1.size)) H1.out.lt).cell 0
    have b2 : ∀ z, (of z).cell? ⟨g2, 0, none⟩ = some (.int .i64 t) := fun z => (H2.out.below (HLay.out.1.trans ((HOF.out z).mono HLay.out.1.size)) H2.out.lt).cell 0
    have u0 : ∀ z, (of z).cell? ⟨gU, 0, none⟩ = some (.pointer (some ⟨T.g, 0, none⟩)) := fun z => (HU.out.below (HLay.out.1.trans ((HOF.out z).mono HLay.out.1.size)) HU.out.lt).cell 0
    have u1 : ∀ z, (of z).cell? ⟨gU, 1, none⟩ = some (.int .i64 f) := fun z => (HU.out.below (HLay.out.1.trans ((HOF.out z).mono HLay.out.1.size)) HU.out.lt).cell 1
    have e3 : ∀ z, (of z).cell? ⟨g3, q, none⟩ = some (.int .i64 (heldAt has (q : Int))) := fun z => ((H3.out.below (HLay.out.1.trans ((HOF.out z).mono HLay.out.1.size)) H3.out.lt).cell q).trans (held_at has HQ4.out)
    have hq4 := HQ4.out
    simp only [pickB]
    repeat (gi_big_quiet_step (fail))
    refine wpQuietIn_nil ?_
    exact rfl
   intro W1 hW
   replace HLay := Lib.hid (HLay.out.below hW)
   clear hW
   gi_wp2
   refine ⟨trivial, (callsIn_wide.2 (vessel_any T x.vessel W1 (HT.out.below HLay.out.1))).mono ?_⟩
   rintro e W2 ⟨rfl, hb⟩
   replace HLay := Lib.hid (HLay.out.below hb)
   rw [HQ.out]
   gi_wp2
   refine ⟨trivial, hb, ?_⟩
   clear hb
   refine wpFlow_cons (A := ?AF2) rfl ?hq2 ?_
   case hq2 =>
    rintro σ hσ of hof hcl
    have HOF := Lib.hid hof
    have HCL := Lib.hid hcl
    clear hof hcl
    have c0_ : ∀ z, (of z).cell? ⟨w.heap.size, 0, none⟩ = some (.int .i64 x.num) := fun z => ((HLay.out.below (HOF.out z)).blk 0 rfl).cell 0
    have c1_ : ∀ z, (of z).cell? ⟨w.heap.size, 1, none⟩ = some (.int .i64 x.vessel) := fun z => ((HLay.out.below (HOF.out z)).blk 0 rfl).cell 1
    have c2_ : ∀ z, (of z).cell? ⟨w.heap.size, 2, none⟩ = some (.int .i64 x.after) := fun z => ((HLay.out.below (HOF.out z)).blk 0 rfl).cell 2
    have c3_ : ∀ z, (of z).cell? ⟨w.heap.size, 3, none⟩ = some (.int .i64 x.fountain) := fun z => ((HLay.out.below (HOF.out z)).blk 0 rfl).cell 3
    have c4_ : ∀ z, (of z).cell? ⟨w.heap.size, 4, none⟩ = some (.int .i64 x.lo) := fun z => ((HLay.out.below (HOF.out z)).blk 0 rfl).cell 4
    have c5_ : ∀ z, (of z).cell? ⟨w.heap.size, 5, none⟩ = some (.int .i64 x.hi) := fun z => ((HLay.out.below (HOF.out z)).blk 0 rfl).cell 5
    have hfw : ∀ f, Fence.wide.fn f := fun _ => trivial
    have b1 : ∀ z, (of z).cell? ⟨g1, 0, none⟩ = some (.pointer (some ⟨gU, 0, none⟩)) := fun z => (H1.out.below (HLay.out.1.trans ((HOF.out z).mono HLay.out.1.size)) H1.out.lt).cell 0
    have b2 : ∀ z, (of z).cell? ⟨g2, 0, none⟩ = some (.int .i64 t) := fun z => (H2.out.below (HLay.out.1.trans ((HOF.out z).mono HLay.out.1.size)) H2.out.lt).cell 0
    have u0 : ∀ z, (of z).cell? ⟨gU, 0, none⟩ = some (.pointer (some ⟨T.g, 0, none⟩)) := fun z => (HU.out.below (HLay.out.1.trans ((HOF.out z).mono HLay.out.1.size)) HU.out.lt).cell 0
    have u1 : ∀ z, (of z).cell? ⟨gU, 1, none⟩ = some (.int .i64 f) := fun z => (HU.out.below (HLay.out.1.trans ((HOF.out z).mono HLay.out.1.size)) HU.out.lt).cell 1
    have e3 : ∀ z, (of z).cell? ⟨g3, q, none⟩ = some (.int .i64 (heldAt has (q : Int))) := fun z => ((H3.out.below (HLay.out.1.trans ((HOF.out z).mono HLay.out.1.size)) H3.out.lt).cell q).trans (held_at has HQ4.out)
    have hq4 := HQ4.out
    simp only [pickB]
    repeat (gi_big_quiet_step (fail))
    refine wpQuietIn_nil ?_
    exact rfl
   intro W3 hW
   replace HLay := Lib.hid (HLay.out.below hW)
   clear hW
   gi_wp2
   refine ⟨trivial, (Below.refl _ _).alloc (Nat.le_refl _) _, ?_⟩
   have hb : Below W3.heap.size W3 (W3.alloc (.cells #[.int .i64 (heldAt has (q : Int))] 3)) := (Below.refl _ _).alloc (Nat.le_refl _) _
   replace HLay := Lib.hid (HLay.out.below hb)
   have HPl := Lib.hid (show IntsAt (W3.alloc (.cells #[.int .i64 (heldAt has (q : Int))] 3)) (W3.alloc (.cells #[.int .i64 (heldAt has (q : Int))] 3)).heap.size (some ⟨W3.heap.size, 0, none⟩) 1 [heldAt has (q : Int)] from IntsAt.new W3 3 [heldAt has (q : Int)] _ (by simp))
   obtain ⟨P5, hP⟩ : ∃ P, W3.heap.size = P := ⟨_, rfl⟩
   rw [hP] at HPl ⊢
   generalize (W3.alloc (.cells #[.int .i64 (heldAt has (q : Int))] 3)) = V4 at *
   clear hb hP
   refine wpFlow_cons rfl Quietly.none ?_
   intro W6 hW
   replace HLay := Lib.hid (HLay.out.below hW)
   replace HPl := Lib.hid ((HPl.out.below hW).more hW.size)
   clear hW
   gi_wp2
   refine ⟨trivial, (callsIn_wide.2 (in_any x.lo x.hi (some ⟨P5, 0, none⟩) 1 1 [heldAt has (q : Int)] W6 HPl.out (by decide))).mono ?_⟩
   rintro e W7 ⟨rfl, hb⟩
   replace HLay := Lib.hid (HLay.out.below hb)
   replace HPl := Lib.hid ((HPl.out.below hb).more hb.size)
   gi_wp2
   refine ⟨trivial, hb, ?_⟩
   clear hb
   clear HPl
   refine wpFlow_nil (A := ?AF3) ?hq3 ?_
   case hq3 =>
    rintro σ hσ of hof hcl
    have HOF := Lib.hid hof
    have HCL := Lib.hid hcl
    clear hof hcl
    have c0_ : ∀ z, (of z).cell? ⟨w.heap.size, 0, none⟩ = some (.int .i64 x.num) := fun z => ((HLay.out.below (HOF.out z)).blk 0 rfl).cell 0
    have c1_ : ∀ z, (of z).cell? ⟨w.heap.size, 1, none⟩ = some (.int .i64 x.vessel) := fun z => ((HLay.out.below (HOF.out z)).blk 0 rfl).cell 1
    have c2_ : ∀ z, (of z).cell? ⟨w.heap.size, 2, none⟩ = some (.int .i64 x.after) := fun z => ((HLay.out.below (HOF.out z)).blk 0 rfl).cell 2
    have c3_ : ∀ z, (of z).cell? ⟨w.heap.size, 3, none⟩ = some (.int .i64 x.fountain) := fun z => ((HLay.out.below (HOF.out z)).blk 0 rfl).cell 3
    have c4_ : ∀ z, (of z).cell? ⟨w.heap.size, 4, none⟩ = some (.int .i64 x.lo) := fun z => ((HLay.out.below (HOF.out z)).blk 0 rfl).cell 4
    have c5_ : ∀ z, (of z).cell? ⟨w.heap.size, 5, none⟩ = some (.int .i64 x.hi) := fun z => ((HLay.out.below (HOF.out z)).blk 0 rfl).cell 5
    have hfw : ∀ f, Fence.wide.fn f := fun _ => trivial
    simp only [pickB]
    repeat (gi_big_quiet_step (fail))
    refine wpQuietIn_nil ?_
    exact rfl
   intro W8 hW
   replace HLay := Lib.hid (HLay.out.below hW)
   clear hW
   simp only [pickB]
   refine wpT_nil ?_
   gi_wp2
   have HR : Hid (tasteB T.m f t has x = !inB x.lo x.hi [heldAt has (q : Int)]) := Lib.hid (by
    unfold tasteB
    rw [HQ.out, inB_one, decide_eq_true HAB.out.1, decide_eq_true HAB.out.2, Bool.decide_and]
    rfl)
   refine bodyPost_ret (v := .bool (!inB x.lo x.hi [heldAt has (q : Int)])) (by simp [results, Try.results114, go_sem]) rfl ?_
   exact ⟨by rw [HR.out], HLay.out.1⟩
  ·
   have hae : (x.fountain == f) = true := by simpa using ha
   have hbe : (x.after == t) = false := by simpa using hb
   have HR : Hid (tasteB T.m f t has x = false) := Lib.hid (by unfold tasteB; simp; intros; omega)
   refine wpIn_flow_old [] [true, true, true, true, true, true, true, true, true, true, true, true, true, true, true, true, true, true, true, true, true, true, true, true, true, true, true, true, true, true, true, true, true, true] [] (by kernel_rfl) (by kernel_rfl) (by kernel_rfl) (below_drewN (Below.refl _ _) 1) ?_
   refine wpFlow_nil (A := ?AF4) ?hq4 ?_
   case hq4 =>
    rintro σ hσ of hof hcl
    have HOF := Lib.hid hof
    have HCL := Lib.hid hcl
    clear hof hcl
    have c0_ : ∀ z, (of z).cell? ⟨w.heap.size, 0, none⟩ = some (.int .i64 x.num) := fun z => ((HLay.out.below (HOF.out z)).blk 0 rfl).cell 0
    have c1_ : ∀ z, (of z).cell? ⟨w.heap.size, 1, none⟩ = some (.int .i64 x.vessel) := fun z => ((HLay.out.below (HOF.out z)).blk 0 rfl).cell 1
    have c2_ : ∀ z, (of z).cell? ⟨w.heap.size, 2, none⟩ = some (.int .i64 x.after) := fun z => ((HLay.out.below (HOF.out z)).blk 0 rfl).cell 2
    have c3_ : ∀ z, (of z).cell? ⟨w.heap.size, 3, none⟩ = some (.int .i64 x.fountain) := fun z => ((HLay.out.below (HOF.out z)).blk 0 rfl).cell 3
    have c4_ : ∀ z, (of z).cell? ⟨w.heap.size, 4, none⟩ = some (.int .i64 x.lo) := fun z => ((HLay.out.below (HOF.out z)).blk 0 rfl).cell 4
    have c5_ : ∀ z, (of z).cell? ⟨w.heap.size, 5, none⟩ = some (.int .i64 x.hi) := fun z => ((HLay.out.below (HOF.out z)).blk 0 rfl).cell 5
    have hfw : ∀ f, Fence.wide.fn f := fun _ => trivial
    have b1 : ∀ z, (of z).cell? ⟨g1, 0, none⟩ = some (.pointer (some ⟨gU, 0, none⟩)) := fun z => (H1.out.below (HLay.out.1.trans ((HOF.out z).mono HLay.out.1.size)) H1.out.lt).cell 0
    have b2 : ∀ z, (of z).cell? ⟨g2, 0, none⟩ = some (.int .i64 t) := fun z => (H2.out.below (HLay.out.1.trans ((HOF.out z).mono HLay.out.1.size)) H2.out.lt).cell 0
    have u0 : ∀ z, (of z).cell? ⟨gU, 0, none⟩ = some (.pointer (some ⟨T.g, 0, none⟩)) := fun z => (HU.out.below (HLay.out.1.trans ((HOF.out z).mono HLay.out.1.size)) HU.out.lt).cell 0
    have u1 : ∀ z, (of z).cell? ⟨gU, 1, none⟩ = some (.int .i64 f) := fun z => (HU.out.below (HLay.out.1.trans ((HOF.out z).mono HLay.out.1.size)) HU.out.lt).cell 1
    simp only [pickB]
    repeat (gi_big_quiet_step (fail))
    refine wpQuietIn_nil ?_
    exact rfl
   intro W9 hW
   replace HLay := Lib.hid (HLay.out.below hW)
   clear hW
   simp only [pickB]
   refine wpT_nil ?_
   gi_wp2
   refine bodyPost_ret (v := .bool false) (by simp [results, Try.results114, go_sem]) rfl ?_
   exact ⟨by rw [HR.out], HLay.out.1⟩
 ·
  have hae : (x.fountain == f) = false := by simpa using ha
  have HR : Hid (tasteB T.m f t has x = false) := Lib.hid (by unfold tasteB; simp; intros; omega)
  refine wpIn_flow_old [] [true, true, true, true, true, true, true, true, true, true, true, true, true, true, true, true, true, true, true, true, true, true, true, true, true, true, true, true, true, true, true, true, true, true] [] (by kernel_rfl) (by kernel_rfl) (by kernel_rfl) (below_drewN (Below.refl _ _) 1) ?_
  refine wpFlow_nil (A := ?AF5) ?hq5 ?_
  case hq5 =>
   rintro σ hσ of hof hcl
   have HOF := Lib.hid hof
   have HCL := Lib.hid hcl
   clear hof hcl
   have c0_ : ∀ z, (of z).cell? ⟨w.heap.size, 0, none⟩ = some (.int .i64 x.num) := fun z => ((HLay.out.below (HOF.out z)).blk 0 rfl).cell 0
   have c1_ : ∀ z, (of z).cell? ⟨w.heap.size, 1, none⟩ = some (.int .i64 x.vessel) := fun z => ((HLay.out.below (HOF.out z)).blk 0 rfl).cell 1
   have c2_ : ∀ z, (of z).cell? ⟨w.heap.size, 2, none⟩ = some (.int .i64 x.after) := fun z => ((HLay.out.below (HOF.out z)).blk 0 rfl).cell 2
   have c3_ : ∀ z, (of z).cell? ⟨w.heap.size, 3, none⟩ = some (.int .i64 x.fountain) := fun z => ((HLay.out.below (HOF.out z)).blk 0 rfl).cell 3
   have c4_ : ∀ z, (of z).cell? ⟨w.heap.size, 4, none⟩ = some (.int .i64 x.lo) := fun z => ((HLay.out.below (HOF.out z)).blk 0 rfl).cell 4
   have c5_ : ∀ z, (of z).cell? ⟨w.heap.size, 5, none⟩ = some (.int .i64 x.hi) := fun z => ((HLay.out.below (HOF.out z)).blk 0 rfl).cell 5
   have hfw : ∀ f, Fence.wide.fn f := fun _ => trivial
   have b1 : ∀ z, (of z).cell? ⟨g1, 0, none⟩ = some (.pointer (some ⟨gU, 0, none⟩)) := fun z => (H1.out.below (HLay.out.1.trans ((HOF.out z).mono HLay.out.1.size)) H1.out.lt).cell 0
   have b2 : ∀ z, (of z).cell? ⟨g2, 0, none⟩ = some (.int .i64 t) := fun z => (H2.out.below (HLay.out.1.trans ((HOF.out z).mono HLay.out.1.size)) H2.out.lt).cell 0
   have u0 : ∀ z, (of z).cell? ⟨gU, 0, none⟩ = some (.pointer (some ⟨T.g, 0, none⟩)) := fun z => (HU.out.below (HLay.out.1.trans ((HOF.out z).mono HLay.out.1.size)) HU.out.lt).cell 0
   have u1 : ∀ z, (of z).cell? ⟨gU, 1, none⟩ = some (.int .i64 f) := fun z => (HU.out.below (HLay.out.1.trans ((HOF.out z).mono HLay.out.1.size)) HU.out.lt).cell 1
   simp only [pickB]
   repeat (gi_big_quiet_step (fail))
   refine wpQuietIn_nil ?_
   exact rfl
  intro W10 hW
  replace HLay := Lib.hid (HLay.out.below hW)
  clear hW
  simp only [pickB]
  refine wpT_nil ?_
  gi_wp2
  refine bodyPost_ret (v := .bool false) (by simp [results, Try.results114, go_sem]) rfl ?_
  exact ⟨by rw [HR.out], HLay.out.1⟩

theorem enters_tastes1 (args : Array Value) (W : World) : (callFunc 114 args).run Try.prog W = .ok (.enter 114 args) W := by
 simp [go_sem]
theorem TbOk.tast {T : Tb} {x : Tast} (h : TbOk T) (hx : x ∈ T.m.tastes) : 0 ≤ idxV T.m.vessels x.vessel ∧ idxV T.m.vessels x.vessel < 4 := by
 have h1 := h.ok
 unfold okMix at h1
 simp only [Bool.and_eq_true] at h1
 have h2 := List.all_eq_true.1 h1.1.1.1.2 x hx
 have h3 := (of_decide_eq_true h2).1
 have := idxV_lt h3
 have := h.vess
 omega

set_option maxRecDepth 100000 in
set_option maxHeartbeats 8000000 in
theorem tastes_in (T : Tb) (f : Int) (As : Option Addr) (ns cs : Nat) (t : Int) (has : Held) (gU : Nat) (w : World) (hT : TbAt w T) (hU : Blk w gU 95 (trC T f As ns cs)) (hok : TbOk T) :
  CallsIn Fence.wide 9 Try.prog 86 #[.pointer (some ⟨gU, 0, none⟩), .int .i64 t, .agg #[.int .i64 (heldAt has 0), .int .i64 (heldAt has 1), .int .i64 (heldAt has 2), .int .i64 (heldAt has 3)]] w fun e w' => e = .returned (.bool (!T.m.tastes.any (tasteB T.m f t has))) ∧ Below w.heap.size w w' := by
 have hmf : ∀ (fn : Fn) (first cap : Array Value) (w : World), (Instr.makeFunc fn first cap).run Try.prog w = .ok (.func fn first cap) w := fun _ _ _ _ => rfl
 have HT := Lib.hid hT
 have HU := Lib.hid hU
 have HOK := Lib.hid hok
 clear hT hU hok
 refine callsIn_of_wp Try.func86 rfl trivial ?_ rfl
 simp only [Try.ntmps86, List.size_toArray, List.length_cons, List.length_nil, Nat.reduceAdd, Nat.reduceSub, Array.replicate_succ, Array.replicate_zero, List.push_toArray, List.append_toArray, List.nil_append, List.cons_append]
 gi_upto_region 1 with fail
 have HLay := Lib.hid (Lay.three w 86 #[.pointer (some ⟨gU, 0, none⟩)] 3 #[.int .i64 t] 97 #[.int .i64 (heldAt has 0), .int .i64 (heldAt has 1), .int .i64 (heldAt has 2), .int .i64 (heldAt has 3)])
 generalize (((w.alloc (.cells #[.pointer (some ⟨gU, 0, none⟩)] 86)).alloc (.cells #[.int .i64 t] 3)).alloc (.cells #[.int .i64 (heldAt has 0), .int .i64 (heldAt has 1), .int .i64 (heldAt has 2), .int .i64 (heldAt has 3)] 97)) = w0 at *
 have x0_0 := (HLay.out.blk 0 rfl).cell 0
 have l0_ := HLay.out.lt 0 rfl
 have u0 := (HU.out.below HLay.out.1 HU.out.lt).cell 0
 have t3 := (HT.out.below HLay.out.1).blk.cell 3
 have ul := HU.out.lt
 have ul2 := (HU.out.below HLay.out.1 HU.out.lt).lt
 have tl := (HT.out.below HLay.out.1).blk.lt
 unfold trC at u0
 unfold Tb.cells at t3
 gi_wp2
 clear u0 t3 ul ul2 tl
 clear x0_0 l0_
 refine ⟨trivial, (callsIn_wide.2 (containsFunc_tast 114 #[.pointer (some ⟨w.heap.size, 0, none⟩), .pointer (some ⟨w.heap.size + 1, 0, none⟩), .pointer (some ⟨w.heap.size + 1 + 1, 0, none⟩)] (tasteB T.m f t has) T.At T.nt T.ct T.m.tastes w0 (show TastsAt w0 w0.heap.size T.At T.nt T.m.tastes from (HT.out.below HLay.out.1).mix.tastes) (by have := HT.out.small; unfold maxLen; omega) enters_tastes1
  (fun x hx W hW => callsIn_wide.1 (tastes1_in T f As ns cs x t has gU w.heap.size (w.heap.size + 1) (w.heap.size + 1 + 1) W ((HT.out.below HLay.out.1).below hW) ((HU.out.below HLay.out.1 HU.out.lt).below hW (Nat.lt_of_lt_of_le HU.out.lt HLay.out.1.size)) ((HLay.out.below hW).blk 0 rfl) ((HLay.out.below hW).blk 1 rfl) ((HLay.out.below hW).blk 2 rfl) (HOK.out.tast hx))))).mono ?_⟩
 rintro e W1 ⟨rfl, hb⟩
 replace HLay := Lib.hid (HLay.out.below hb)
 clear hb
 gi_wp2
 refine bodyPost_ret (v := .bool (!T.m.tastes.any (tasteB T.m f t has))) (by simp [results, Try.results86, go_sem]) rfl ?_
 exact ⟨rfl, HLay.out.1⟩

end Go.Proofs.Ythofngceiecniaa
