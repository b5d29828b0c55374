/- Part 5 of the texts of this claim, joined. -/
import Derived.Sort.CutIn
import Derived.Sort.WalkA
import Derived.Sort.OwnSortedInts
import Derived.Shelf.SlSortCmp.InsertionK
import Derived.Ground.SlsfProg
import Derived.Test.YthofngceiecniaaMxC4
set_option linter.unusedVariables false
/- An act more, whatever its kind; rising. -/
namespace Go.Proofs.Ythofngceiecniaa
open Go.RowKit

theorem some_dec {α : Type} {P : Prop} [Decidable P] {a : α} : (if P then some a else none).isSome = decide P := by
 by_cases h : P
 ·rw [if_pos h, decide_eq_true h]; rfl
 ·rw [if_neg h, decide_eq_false h]; rfl
theorem done1 (m : Mix) (s : Held) (fr to dr : Int) : right1B m s ⟨1, fr, to, dr⟩ = (doneM m s ⟨1, fr, to, dr⟩).isSome := by
 unfold right1B roomB roomJ doneM
 dsimp only
 rw [if_pos rfl, some_dec, ← Bool.decide_and, decide_eq_decide]
theorem done2 (m : Mix) (s : Held) (fr to dr : Int) : right2B m s ⟨2, fr, to, dr⟩ = (doneM m s ⟨2, fr, to, dr⟩).isSome := by
 unfold right2B heldB heldJ roomB roomJ doneM
 dsimp only
 rw [if_neg (by decide), if_pos rfl]
 by_cases h : idxV m.vessels fr < 0
 ·rw [if_pos h]
  simp
  intro _ h0
  omega
 ·rw [if_neg h, some_dec, ← decide_not, ← Bool.decide_and, ← Bool.decide_and, decide_eq_decide]
  constructor
  ·rintro ⟨h1, ⟨h2, h3⟩, h4, h5, h6⟩; exact ⟨h1, h3, h4, h6⟩
  ·rintro ⟨h1, h2, h3, h4⟩; exact ⟨h1, ⟨by omega, h2⟩, h3, by omega, h4⟩
theorem done3 (m : Mix) (s : Held) (fr to dr : Int) : right3B m s ⟨3, fr, to, dr⟩ = (doneM m s ⟨3, fr, to, dr⟩).isSome := by
 unfold right3B heldB heldJ doneM
 dsimp only
 rw [if_neg (show ¬ (3 : Int) = 1 by decide), if_neg (show ¬ (3 : Int) = 2 by decide), if_pos (show (3 : Int) = 3 from rfl)]
 by_cases h : idxV m.vessels fr < 0
 ·rw [if_pos h]
  simp
  intro _ h0
  omega
 ·rw [if_neg h, some_dec, ← Bool.decide_and, decide_eq_decide]
  constructor
  ·rintro ⟨h1, h2, h3⟩; exact ⟨h1, h3⟩
  ·rintro ⟨h1, h2⟩; exact ⟨h1, by omega, h2⟩
theorem done4 (m : Mix) (s : Held) (fr to dr : Int) : right4B m s ⟨4, fr, to, dr⟩ = (doneM m s ⟨4, fr, to, dr⟩).isSome := by
 unfold right4B doneM
 dsimp only
 rw [if_neg (show ¬ (4 : Int) = 1 by decide), if_neg (show ¬ (4 : Int) = 2 by decide), if_neg (show ¬ (4 : Int) = 3 by decide), if_pos (show (4 : Int) = 4 from rfl)]
 by_cases h : idxV m.vessels fr < 0
 ·rw [if_pos h]
  simp
  intro _ _
  omega
 ·rw [if_neg h, some_dec, ← Bool.decide_and, decide_eq_decide]
  constructor
  ·rintro ⟨h1, h2⟩; exact h1
  ·intro h1; exact ⟨h1, by omega⟩
theorem done_bad {m : Mix} {s : Held} {x : MAct} (h : ¬ KindOk x) : (doneM m s x).isSome = false := by
 unfold KindOk at h
 unfold doneM
 rw [if_neg (by omega), if_neg (show ¬ x.kind = 2 by omega), if_neg (show ¬ x.kind = 3 by omega), if_neg (show ¬ x.kind = 4 by omega)]
 split <;> rfl
theorem size_small {m : Mix} {s : Held} {x : MAct} (hv : m.vessels.length ≤ 4) (hz : VesOk m) (hs : s.length = 4 ∧ ∀ q : Nat, 0 ≤ heldAt s q ∧ heldAt s q ≤ 1000) (h : (doneM m s x).isSome = true) :
  0 ≤ sizeA m s x ∧ sizeA m s x ≤ 2000 ∧ (x.kind = 4 → 0 ≤ fromI m x) ∧ (fromI m x ≠ toI m x ∨ fromI m x < 0) := by
 obtain ⟨s', hd⟩ := Option.isSome_iff_exists.1 h
 obtain ⟨hok, _⟩ := done_ok hd hs.1 hv
 have hap : fromI m x ≠ toI m x ∨ fromI m x < 0 := by
  unfold fromI toI
  by_cases e1 : x.kind = 1
  ·right; rw [if_pos e1]; decide
  ·by_cases e2 : x.kind = 2
   ·left
    have := hok.apart e2
    simp only [e2]
    simpa using this
   ·left
    have := hok.from_ e1
    rw [if_neg e1, if_neg (by omega)]
    omega
 have hh : ∀ j : Int, 0 ≤ heldAt s j ∧ heldAt s j ≤ 1000 := fun j => by rw [heldAt_nat]; exact hs.2 _
 refine ⟨?_, ?_, fun e4 => by unfold fromI; rw [if_neg (by omega)]; exact hok.from_ (by omega), hap⟩
 ·unfold sizeA
  split
  ·exact (hh _).1
  ·rename_i e4
   have := hok.size
   have := hok.kind
   omega
 ·unfold sizeA
  split
  ·have := (hh (fromI m x)).2; omega
  ·rename_i e4
   by_cases e1 : x.kind = 1
   ·unfold doneM at hd
    rw [if_pos e1] at hd
    split at hd
    ·rename_i hc
     obtain ⟨_, h0, _, h2⟩ := hc
     have h3 := (hh (idxV m.vessels x.to)).1
     have h4 : sizeV m.vessels (idxV m.vessels x.to) ≤ 12 := by
      unfold sizeV
      have hlt := idxV_lt h0
      rw [List.getElem?_eq_getElem (by omega)]
      exact (hz _ (List.getElem_mem _)).2
     omega
    ·cases hd
   ·have := hok.size.2 (by have := hok.kind; omega)
    have := (hh (idxV m.vessels x.fr)).2
    omega
theorem held_le {s : Held} (hs : s.length = 4 ∧ ∀ q : Nat, 0 ≤ heldAt s q ∧ heldAt s q ≤ 1000) : s.length = 4 ∧ Small s 2000 := ⟨hs.1, fun q => by have := hs.2 q; omega⟩
theorem act_in (B : Nat) (T : Tb) (k : Nat) (x : MAct) (s : Held) (w : World) (h : TbOwn w B T) (hx : T.m.acts[k]? = some x) (ha : T.L[k]? = some s) (hn : T.nl ≤ 12) (hz : VesOk T.m) (hs : s.length = 4 ∧ ∀ q : Nat, 0 ≤ heldAt s q ∧ heldAt s q ≤ 1000) :
  CallsIn Fence.wide 9 Try.prog 84 #[.pointer (some ⟨T.g, 0, none⟩), .int .i64 k] w (ActOut w B T (doneM T.m s x).isSome (shiftH s (fromI T.m x) (toI T.m x) (sizeA T.m s x))) := by
 have hv : T.m.vessels.length ≤ 4 := by have := h.mix.lenV; have := h.small; omega
 by_cases hk : KindOk x
 ·obtain ⟨kk, fr, to, dr⟩ := x
  have hk' := hk
  rcases hk' with e | e | e | e <;> dsimp only at e <;> subst e
  ·refine act_core B T k ⟨1, fr, to, dr⟩ s 116 (.func (.func 118) #[] #[]) (.func (.func 119) #[] #[]) _ w h hx ha hn hk (fun _ => by kernel_rfl) enters_kinds1 (fun _ => by kernel_rfl) (fun W hW => ?_) (held_le hs) (fun hr => size_small hv hz hs hr)
   rw [← done1]
   exact kind1_in T s _ W (h.at_.below hW) hs.2 hz
  ·refine act_core B T k ⟨2, fr, to, dr⟩ s 120 (.func (.func 122) #[] #[]) (.func (.func 119) #[] #[]) _ w h hx ha hn hk (fun _ => by kernel_rfl) enters_kinds2 (fun _ => by kernel_rfl) (fun W hW => ?_) (held_le hs) (fun hr => size_small hv hz hs hr)
   rw [← done2]
   exact kind2_in T s _ W (h.at_.below hW) hs.2 hz
  ·refine act_core B T k ⟨3, fr, to, dr⟩ s 123 (.func (.func 122) #[] #[]) (.func (.func 118) #[] #[]) _ w h hx ha hn hk (fun _ => by kernel_rfl) enters_kinds3 (fun _ => by kernel_rfl) (fun W hW => ?_) (held_le hs) (fun hr => size_small hv hz hs hr)
   rw [← done3]
   exact kind3_in T s _ W (h.at_.below hW) hs.2 hz
  ·refine act_core B T k ⟨4, fr, to, dr⟩ s 124 (.func (.func 122) #[] #[]) (.func (.func 118) #[] #[]) _ w h hx ha hn hk (fun _ => by kernel_rfl) enters_kinds4 (fun _ => by kernel_rfl) (fun W hW => ?_) (held_le hs) (fun hr => size_small hv hz hs hr)
   rw [← done4]
   exact kind4_in T s _ W (h.at_.below hW) hs.2 hz
 ·rw [done_bad hk]
  exact (act_bad B T k x s w h hx ha hk).mono fun e w' ⟨h1, h2⟩ => .inl ⟨rfl, h1, h2⟩

theorem ris_step {l : List Int} {k : Nat} {x : Int} (hx : l[k]? = some x) (h : risB 0 (l.take k) = true) : risB 0 (l.take (k + 1)) = inB ((l.take k).getLast?.getD 0 + 1) 9999 [x] := by
 obtain ⟨hk, rfl⟩ := List.getElem?_eq_some_iff.1 hx
 rw [List.take_succ_eq_append_getElem hk, risB_snoc, h, Bool.true_and, inB_one]
theorem ris_pre : ∀ {a : Int} {l : List Int} {k : Nat}, risB a l = true → risB a (l.take k) = true
 | _, [], _, _ => by simp [risB]
 | _, _ :: _, 0, _ => rfl
 | a, x :: l, k + 1, h => by
  unfold risB at h
  rw [Bool.and_eq_true] at h
  show risB a (x :: l.take k) = true
  unfold risB
  rw [Bool.and_eq_true]
  exact ⟨h.1, ris_pre h.2⟩
theorem ris_last {l : List Int} (h : risB 0 l = true) : 0 ≤ l.getLast?.getD 0 ∧ l.getLast?.getD 0 ≤ 9999 := by
 cases hl : l.getLast? with
 | none => simp
 | some x =>
  have := (risB_pair h).2 x (List.mem_of_getLast? hl)
  simp
  omega
set_option maxRecDepth 100000 in
set_option maxHeartbeats 4000000 in
theorem rising_any (A : Option Addr) (n c : Nat) (l : List Int) (w : World) (hr : IntsAt w w.heap.size A n l) (hn : n ≤ 1000) :
  Calls Try.prog 81 #[.slice A n c] w fun e w' => e = .returned (.bool (risB 0 l)) ∧ Below w.heap.size w w' := by
 have HR := Lib.hid hr
 go_enter Try.func81, Try.ntmps81
 go_wp2_with fail
 go_loopw [3, 5, 8] (fun p q i wr => ∃ k : Nat, k ≤ n ∧ i = .int .i64 k ∧ p = .int .i64 ((l.take k).getLast?.getD 0) ∧ Hid (risB 0 (l.take k) = true ∧ Below w.heap.size w wr))
  (fun _ _ i _ => n - (intOf i).toNat)
 case atStart => exact ⟨0, by omega, rfl, rfl, Lib.hid ⟨rfl, Below.refl _ _⟩⟩
 case round =>
  obtain ⟨k, hk, rfl, rfl, HS⟩ := hrel
  obtain ⟨hl0, hl1⟩ := ris_last HS.out.1
  obtain ⟨p, hp⟩ : ∃ p, (l.take k).getLast?.getD 0 = p := ⟨_, rfl⟩
  rw [hp] at hl0 hl1 ⊢
  by_cases hlt : k < n
  ·obtain ⟨b, off, x, rfl, hbB, hx, hc⟩ := (HR.out.below HS.out.2).cell hlt
   have HX := Lib.hid hx
   have HP := Lib.hid hp
   clear hx hp hr
   go_wp2_with fail
   have hb1 : Below wr.heap.size wr (wr.alloc (.cells #[.int .i64 x] 3)) := (Below.refl _ _).alloc (Nat.le_refl _) _
   refine (in_any (p + 1) 9999 (some ⟨wr.heap.size, 0, none⟩) 1 1 [x] _ (IntsAt.new wr 3 [x] _ (by simp)) (by decide)).mono ?_
   rintro e W ⟨rfl, hb2⟩
   have HB := Lib.hid (HS.out.2.trans ((hb1.trans (hb2.mono hb1.size)).mono HS.out.2.size))
   have HRS := Lib.hid (ris_step HX.out HS.out.1)
   rw [HP.out] at HRS
   clear hb1 hb2
   cases hi : inB (p + 1) 9999 [x] with
   | false =>
    rw [hi] at HRS
    clear hi
    go_wp2_with fail
    go_ret
    refine ⟨ret_bool ?_, HB.out⟩
    cases h0 : risB 0 l with
    | false => rfl
    | true => exact absurd ((ris_pre (k := k + 1) h0).symm.trans HRS.out) (by decide)
   | true =>
    rw [hi] at HRS
    clear hi
    go_wp2_with fail
    go_roundw
    case rel =>
     refine ⟨k + 1, by omega, by go_num, ?_, Lib.hid ⟨HRS.out, HB.out⟩⟩
     obtain ⟨hk2, rfl⟩ := List.getElem?_eq_some_iff.1 HX.out
     rw [List.take_succ_eq_append_getElem hk2, List.getLast?_concat]
     rfl
    case measure => simp [intOf]; omega
  ·go_wp2_with fail
   go_ret
   have hl := HR.out.len
   have h1 := HS.out.1
   rw [List.take_of_length_le (by omega)] at h1
   exact ⟨ret_bool h1.symm, HS.out.2⟩
end Go.Proofs.Ythofngceiecniaa
/- mix.laid: plain words, and words for memory. -/
namespace Go.Proofs.Ythofngceiecniaa
open Go.RowKit

theorem Lay.row {w W W' : World} {bs : List (Nat × TypeId × Array Value)} (h : Lay w W bs) {row : Option Nat} (hg : W.grownBy W' row) (hr : ∀ r, row = some r → w.heap.size ≤ r ∧ ∀ b ∈ bs, b.1 ≠ r) : Lay w W' bs :=
 ⟨h.1.grown hg h.1.size (fun k hk => (hr k hk).1), fun b hb => ⟨(h.2 b hb).1, (h.2 b hb).2.grown hg (fun e => (hr _ e.symm).2 b hb rfl)⟩⟩
theorem own_row {w : World} {base n cap size : Nat} {e : TypeId} {A : Option Addr} {xs : List Value} (h : Own w base e size A n cap xs) : ∀ r, A.map (·.block) = some r → base ≤ r ∧ r < w.heap.size := by
 intro r hr
 cases hA : A with
 | none => rw [hA] at hr; cases hr
 | some a => rw [hA] at hr; cases hr; exact h.lt hA
theorem lay3_row {w W W' : World} {t0 t1 t2 : TypeId} {c0 c1 c2 : Array Value} (h : Lay w W [(w.heap.size, t0, c0), (w.heap.size + 1, t1, c1), (w.heap.size + 1 + 1, t2, c2)]) {row : Option Nat} (hg : W.grownBy W' row) (hr : ∀ r, row = some r → w.heap.size + 3 ≤ r) : Lay w W' [(w.heap.size, t0, c0), (w.heap.size + 1, t1, c1), (w.heap.size + 1 + 1, t2, c2)] :=
 h.row hg fun r e => ⟨by have := hr r e; omega, fun b hb => by
  have := hr r e
  simp only [List.mem_cons, List.not_mem_nil, or_false] at hb
  rcases hb with rfl | rfl | rfl <;> dsimp only <;> omega⟩
theorem one_int {W : World} {g : Nat} {x : Int} {B : Nat} (hB : g < B) (h : W.cell? ⟨g, 0, none⟩ = some (.int .i64 x)) : Reads W B 1 (some ⟨g, 0, none⟩) 1 ([x].map (Value.int .i64)) :=
 ⟨rfl, fun _ => ⟨_, rfl, hB, fun j u hu => by
  match j, hu with
  | 0, hu => simp at hu; rw [← hu]; simpa [Addr.add] using h⟩⟩
theorem ints_of_own {w : World} {base n cap B : Nat} {e : TypeId} {A : Option Addr} {l : List Int} (h : Own w base e 1 A n cap (l.map (Value.int .i64))) (hB : w.heap.size ≤ B) : IntsAt w B A n l := h.reads hB
theorem vessB_in (v : Vess) : inB 1 12 [v.size] = vessB v := by rw [inB_one]; rfl
theorem all_step {α : Type} {p : α → Bool} {l : List α} {k : Nat} {x : α} (hx : l[k]? = some x) (h : (l.take k).all p = true) : (l.take (k + 1)).all p = p x := by
 obtain ⟨hk, rfl⟩ := List.getElem?_eq_some_iff.1 hx
 rw [List.take_succ_eq_append_getElem hk, List.all_append, h]
 simp
theorem all_pre {α : Type} {p : α → Bool} {l : List α} {k : Nat} (h : l.all p = true) : (l.take k).all p = true := by
 rw [List.all_eq_true] at h ⊢
 exact fun x hx => h x (List.mem_of_mem_take hx)
theorem allM_take {m : Mix} {l : List MAct} {k : Nat} {x : MAct} {L : List Held} {s : Held} (hx : l[k]? = some x) (h : allM m (l.take k) = some L) (hs : L[k]? = some s) : allM m (l.take (k + 1)) = (doneM m s x).map fun s' => L ++ [s'] := by
 obtain ⟨hk, rfl⟩ := List.getElem?_eq_some_iff.1 hx
 rw [List.take_succ_eq_append_getElem hk, allM_snoc, h]
 unfold stepM
 simp only [Option.bind_some]
 have hl := allM_len m _ L h
 rw [List.length_take, Nat.min_eq_left (Nat.le_of_lt hk)] at hl
 have : L.getLast?.getD [] = s := by
  rw [List.getLast?_eq_getElem?, hl, Nat.add_sub_cancel, hs]
  rfl
 rw [this]
theorem allM_fail {m : Mix} : ∀ {l : List MAct} {k : Nat}, allM m (l.take k) = none → allM m l = none := by
 intro l k h
 have e : l = l.take k ++ l.drop k := (List.take_append_drop k l).symm
 unfold allM at h ⊢
 rw [e, List.foldl_append, h, fold_noneM]
theorem done_range {m : Mix} {s s' : Held} {x : MAct} (hv : m.vessels.length ≤ 4) (hz : VesOk m) (hs : s.length = 4) (hb : ∀ q : Nat, 0 ≤ heldAt s q ∧ heldAt s q ≤ 12) (h : doneM m s x = some s') : s'.length = 4 ∧ ∀ q : Nat, 0 ≤ heldAt s' q ∧ heldAt s' q ≤ 12 := by
 obtain ⟨hok, e⟩ := done_ok h hs hv
 have hl : s'.length = 4 := by rw [e, shift_len]; exact hs
 refine ⟨hl, fun q => ?_⟩
 by_cases hq : q < 4
 ·rw [e, shift_get hv x hs _ hq]
  have hbq := hb q
  have hap := (size_small hv hz ⟨hs, fun q => by have := hb q; omega⟩ (by rw [h]; rfl)).2.2.2
  have h0 := (size_small hv hz ⟨hs, fun q => by have := hb q; omega⟩ (by rw [h]; rfl)).1
  have hto : toI m x = (q : Int) → heldAt s q + sizeA m s x ≤ 12 := by
   intro ht
   have hsz : ∀ id : Int, 0 ≤ idxV m.vessels id → sizeV m.vessels (idxV m.vessels id) ≤ 12 := by
    intro id h0
    unfold sizeV
    have hlt := idxV_lt h0
    rw [List.getElem?_eq_getElem (by omega)]
    exact (hz _ (List.getElem_mem _)).2
   unfold toI at ht
   by_cases e1 : x.kind = 1
   ·rw [if_pos (.inl e1)] at ht
    unfold doneM at h
    rw [if_pos e1] at h
    split at h
    ·rename_i hc
     obtain ⟨_, c0, _, c2⟩ := hc
     have := hsz _ c0
     rw [ht] at c2 this
     unfold sizeA
     rw [if_neg (by omega)]
     omega
    ·cases h
   ·by_cases e2 : x.kind = 2
    ·rw [if_pos (.inr e2)] at ht
     unfold doneM at h
     rw [if_neg e1] at h
     rw [if_neg (show ¬ idxV m.vessels x.fr < 0 from fun hlt => by have := hok.from_ e1; omega), if_pos e2] at h
     ·split at h
      ·rename_i hc
       obtain ⟨_, _, c0, c2⟩ := hc
       have := hsz _ c0
       rw [ht] at c2 this
       unfold sizeA
       rw [if_neg (by omega)]
       omega
      ·cases h
    ·rw [if_neg (by omega)] at ht
     omega
  have hfr : fromI m x = (q : Int) → sizeA m s x ≤ heldAt s q := by
   intro hf
   unfold sizeA
   split
   ·rw [hf]; exact Int.le_refl _
   ·rename_i e4
    have e1 : x.kind ≠ 1 := fun e1 => by unfold fromI at hf; rw [if_pos e1] at hf; omega
    unfold fromI at hf
    rw [if_neg e1] at hf
    rw [← hf]
    exact (hok.size.2 (by have := hok.kind; omega)).2
  by_cases p1 : toI m x = (q : Int) <;> by_cases p2 : fromI m x = (q : Int)
  ·rw [if_pos p1, if_pos p2]; omega
  ·have := hto p1; rw [if_pos p1, if_neg p2]; omega
  ·have := hfr p2; rw [if_neg p1, if_pos p2]; omega
  ·rw [if_neg p1, if_neg p2]; omega
 ·unfold heldAt
  rw [List.getElem?_eq_none (by omega)]
  decide
theorem vesOk_of {m : Mix} (h : m.vessels.all vessB = true) : VesOk m := by
 intro v hv
 exact of_decide_eq_true (List.all_eq_true.1 h v hv)
/-- What laid tells. -/
def LaidOut (w : World) (Av : Option Addr) (nv cv : Nat) (Aa : Option Addr) (na ca : Nat) (At : Option Addr) (nt ct : Nat) (m : Mix) (e : Ending) (w' : World) : Prop :=
 ∃ p, e = .returned (.tuple #[.pointer p, .bool (okMix m)]) ∧ Below w.heap.size w w' ∧ (okMix m = true → ∃ g AA nl cl L, p = some ⟨g, 0, none⟩ ∧ w.heap.size ≤ g ∧ allM m m.acts = some L ∧ TbOwn w' w.heap.size ⟨g, Av, nv, cv, Aa, na, ca, At, nt, ct, AA, nl, cl, m, L⟩)
theorem LaidOut.bad {w w' : World} {Av Aa At : Option Addr} {nv cv na ca nt ct : Nat} {m : Mix} (h : okMix m = false) (hb : Below w.heap.size w w') : LaidOut w Av nv cv Aa na ca At nt ct m (.returned (.tuple #[.pointer none, .bool false])) w' :=
 ⟨none, by rw [h], hb, fun h' => by rw [h] at h'; cases h'⟩
/-- Reasons for which mixed water is not valid. -/
theorem bad_limits {m : Mix} (h : ¬ ((1 ≤ m.fountains ∧ m.fountains ≤ 4) ∧ m.vessels.length ≤ 4 ∧ m.acts.length ≤ 12 ∧ m.tastes.length ≤ 8)) : okMix m = false := by
 unfold okMix
 by_cases h1 : 1 ≤ m.fountains ∧ m.fountains ≤ 4
 ·have : ¬ (m.vessels.length ≤ 4 ∧ m.acts.length ≤ 12 ∧ m.tastes.length ≤ 8) := fun h2 => h ⟨h1, h2⟩
  rw [decide_eq_false this]
  simp
 ·rw [decide_eq_false h1]
  simp
theorem bad_vess {m : Mix} (h : m.vessels.all vessB = false) : okMix m = false := by unfold okMix; rw [h]; simp
theorem bad_tast {m : Mix} (h : m.tastes.all (tastB m) = false) : okMix m = false := by unfold okMix; rw [h]; simp
theorem bad_acts {m : Mix} (h : allM m m.acts = none) : okMix m = false := by unfold okMix; rw [h]; simp
theorem ok_rest {m : Mix} {L : List Held} (h1 : (1 ≤ m.fountains ∧ m.fountains ≤ 4) ∧ m.vessels.length ≤ 4 ∧ m.acts.length ≤ 12 ∧ m.tastes.length ≤ 8) (h2 : m.vessels.all vessB = true) (h3 : m.tastes.all (tastB m) = true) (h4 : allM m m.acts = some L) :
  okMix m = (risB 0 (m.vessels.map (·.id)) && risB 0 (m.tastes.map (·.num))) := by
 unfold okMix
 rw [decide_eq_true h1.1, decide_eq_true h1.2, h2, h3, h4]
 rfl
end Go.Proofs.Ythofngceiecniaa
/- mix.laid: the table, and whether the mixed water is valid. -/
namespace Go.Proofs.Ythofngceiecniaa
open Go.RowKit

def LdA (w W : World) (bs : List (Nat × TypeId × Array Value)) (A5 : Option Addr) (k c5 : Nat) (m : Mix) : Prop :=
 Lay w W bs ∧ Own W (w.heap.size + 3) 3 1 A5 k c5 (((m.vessels.take k).map (·.id)).map (Value.int .i64)) ∧ (m.vessels.take k).all vessB = true
def LdB (w W : World) (bs : List (Nat × TypeId × Array Value)) (A5 : Option Addr) (nv c5 : Nat) (A6 : Option Addr) (k c6 : Nat) (m : Mix) : Prop :=
 Lay w W bs ∧ Own W (w.heap.size + 3) 3 1 A5 nv c5 ((m.vessels.map (·.id)).map (Value.int .i64)) ∧ Own W (w.heap.size + 3) 3 1 A6 k c6 (((m.tastes.take k).map (·.num)).map (Value.int .i64)) ∧ (∀ a b, A5 = some a → A6 = some b → a.block ≠ b.block) ∧ (m.tastes.take k).all (tastB m) = true

def LdC (w W : World) (T : Tb) (A5 : Option Addr) (c5 : Nat) (A6 : Option Addr) (c6 k : Nat) : Prop :=
 TbOwn W w.heap.size T ∧ Below w.heap.size w W ∧ allM T.m (T.m.acts.take k) = some T.L ∧ (∀ (j : Nat) (s : Held), T.L[j]? = some s → s.length = 4 ∧ ∀ q : Nat, 0 ≤ heldAt s q ∧ heldAt s q ≤ 12) ∧
 (Own W (w.heap.size + 3) 3 1 A5 T.nv c5 ((T.m.vessels.map (·.id)).map (Value.int .i64)) ∧ Own W (w.heap.size + 3) 3 1 A6 T.nt c6 ((T.m.tastes.map (·.num)).map (Value.int .i64))) ∧
 ∀ a, (A5 = some a ∨ A6 = some a) → a.block < W.heap.size ∧ a.block ≠ T.g ∧ some a.block ≠ T.AA.map (·.block)
theorem Own.keep2 {w w' : World} {base n cap size g : Nat} {e : TypeId} {A : Option Addr} {xs : List Value} {row : Option Nat} (h : Own w base e size A n cap xs) (hk : Keep2 w w' g row) (hne : ∀ a, A = some a → a.block ≠ g ∧ some a.block ≠ row) : Own w' base e size A n cap xs := by
 refine ⟨h.1, ?_⟩
 rcases h.2 with h' | ⟨g', cap', cur, hv, hb, hgb, hrest⟩
 ·exact .inl h'
 ·have hA : A = some ⟨g', 0, none⟩ := by simpa using congrArg (fun v => match v with | Value.slice a _ _ => a | _ => none) hv
  have hlt : g' < w.heap.size := (Array.getElem?_eq_some_iff.1 hgb).1
  exact .inr ⟨g', cap', cur, hv, hb, (hk.2 g' hlt (hne _ hA).1 (hne _ hA).2).trans hgb, hrest⟩
theorem ldc_step {w W W' : World} {T : Tb} {A5 A6 A9 : Option Addr} {c5 c6 c9 k : Nat} {x : MAct} {s s' : Held} (h : LdC w W T A5 c5 A6 c6 k) (hx : T.m.acts[k]? = some x) (hs : T.L[k]? = some s) (hd : doneM T.m s x = some s') (hz : VesOk T.m)
  (hT : TbOwn W' w.heap.size (T.plus A9 c9 s')) (hb : Below w.heap.size W W') (hk : Keep2 W W' T.g (T.AA.map (·.block))) (hA : ∀ a, A9 = some a → A9 = T.AA ∨ W.heap.size ≤ a.block) : LdC w W' (T.plus A9 c9 s') A5 c5 A6 c6 (k + 1) := by
 obtain ⟨h1, h2, h3, h4, ⟨h5, h6⟩, h7⟩ := h
 have hv : T.m.vessels.length ≤ 4 := by have := h1.mix.lenV; have := h1.small; omega
 refine ⟨hT, h2.trans hb, ?_, ?_, ⟨h5.keep2 hk (fun a ha => (h7 a (.inl ha)).2), h6.keep2 hk (fun a ha => (h7 a (.inr ha)).2)⟩, fun a ha => ?_⟩
 ·show allM T.m (T.m.acts.take (k + 1)) = some (T.L ++ [s'])
  rw [allM_take hx h3 hs, hd]
  rfl
 ·intro j u hu
  have hu' : (T.L ++ [s'])[j]? = some u := hu
  by_cases hj : j < T.L.length
  ·rw [List.getElem?_append_left hj] at hu'
   exact h4 j u hu'
  ·rw [List.getElem?_append_right (by omega)] at hu'
   have hj0 : j - T.L.length = 0 := by
    have := (List.getElem?_eq_some_iff.1 hu').1
    simp at this
    omega
   rw [hj0] at hu'
   have e : s' = u := by simpa using hu'
   rw [← e]
   have := h4 k s hs
   exact done_range hv hz this.1 this.2 hd
 ·obtain ⟨q1, q2, q3⟩ := h7 a ha
  refine ⟨Nat.lt_of_lt_of_le q1 hk.1, q2, ?_⟩
  show some a.block ≠ A9.map (·.block)
  cases h9 : A9 with
  | none => simp
  | some b =>
   rcases hA b h9 with e | e
   ·rw [← h9, e]; exact q3
   ·intro e2
    have := Option.some.inj e2
    dsimp only at this
    omega
/-- The table at its first time. -/
theorem tb_first {w W : World} {Av Aa At : Option Addr} {nv cv na ca nt ct : Nat} {m : Mix} (h : Lay w W [(w.heap.size, 26, #[.int .i64 m.fountains, .slice Av nv cv, .slice Aa na ca, .slice At nt ct]), (w.heap.size + 1, 97, #[.int .i64 0, .int .i64 0, .int .i64 0, .int .i64 0]), (w.heap.size + 1 + 1, 123, #[.int .i64 m.fountains, .slice Av nv cv, .slice Aa na ca, .slice At nt ct, .slice (some ⟨w.heap.size + 1, 0, none⟩) 1 1])]) (hm : MixAt w w.heap.size Av nv Aa na At nt m) (hn : nv ≤ 4 ∧ na ≤ 12 ∧ nt ≤ 8) :
  TbAt W ⟨w.heap.size + 1 + 1, Av, nv, cv, Aa, na, ca, At, nt, ct, some ⟨w.heap.size + 1, 0, none⟩, 1, 1, m, [zeroH]⟩ := by
 refine ⟨h.blk 2 rfl, hm.up h.1, ?_, hn.1, hn.2.1, hn.2.2, (by show 1 ≤ 13; decide)⟩
 have hb := h.blk 1 rfl
 refine ⟨rfl, fun _ => ⟨_, rfl, hb.lt, fun j u hu => ?_⟩⟩
 have ha : ((⟨w.heap.size + 1, 0, none⟩ : Addr).add j) = ⟨w.heap.size + 1, j, none⟩ := by
  unfold Addr.add
  by_cases hj : j = 0
  ·subst hj; simp
  ·simp [hj]
 rw [ha, hb.cell, ← Array.getElem?_toList]
 exact hu
theorem zero_range : zeroH.length = 4 ∧ ∀ q : Nat, 0 ≤ heldAt zeroH q ∧ heldAt zeroH q ≤ 12 := by
 refine ⟨rfl, fun q => ?_⟩
 match q with
 | 0 => decide
 | 1 => decide
 | 2 => decide
 | 3 => decide
 | q + 4 =>
  have : heldAt zeroH ((q + 4 : Nat) : Int) = 0 := by
   unfold heldAt
   rw [List.getElem?_eq_none (by simp [zeroH]; omega)]
   rfl
  rw [this]
  decide
theorem tb_own {w W : World} {Av Aa At : Option Addr} {nv cv na ca nt ct : Nat} {m : Mix} (h : Lay w W [(w.heap.size, 26, #[.int .i64 m.fountains, .slice Av nv cv, .slice Aa na ca, .slice At nt ct]), (w.heap.size + 1, 97, #[.int .i64 0, .int .i64 0, .int .i64 0, .int .i64 0]), (w.heap.size + 1 + 1, 123, #[.int .i64 m.fountains, .slice Av nv cv, .slice Aa na ca, .slice At nt ct, .slice (some ⟨w.heap.size + 1, 0, none⟩) 1 1])]) (hm : MixAt w w.heap.size Av nv Aa na At nt m) (hn : nv ≤ 4 ∧ na ≤ 12 ∧ nt ≤ 8) :
  TbOwn W w.heap.size ⟨w.heap.size + 1 + 1, Av, nv, cv, Aa, na, ca, At, nt, ct, some ⟨w.heap.size + 1, 0, none⟩, 1, 1, m, [zeroH]⟩ := by
 refine ⟨h.blk 2 rfl, hm.below h.1, ⟨rfl, .inr ⟨w.heap.size + 1, 1, _, rfl, by omega, h.blk 1 rfl, Nat.le_refl _, by unfold maxLen; omega, rfl, rfl⟩⟩, ?_, ⟨h.1.size, by dsimp only; omega⟩, hn.1, hn.2.1, hn.2.2, (by show 1 ≤ 13; decide)⟩
 intro a ha
 cases ha
 dsimp only
 omega
theorem tast_no {m : Mix} {k : Nat} {x : Tast} (hx : m.tastes[k]? = some x) (h : tastB m x = false) : m.tastes.all (tastB m) = false := by
 cases h0 : m.tastes.all (tastB m) with
 | false => rfl
 | true => exact absurd ((List.all_eq_true.1 h0 x (List.mem_of_getElem? hx)).symm.trans h) (by decide)

set_option maxRecDepth 100000 in
set_option maxHeartbeats 16000000 in
theorem laid_any (Av : Option Addr) (nv cv : Nat) (Aa : Option Addr) (na ca : Nat) (At : Option Addr) (nt ct : Nat) (m : Mix) (w : World) (h : MixAt w w.heap.size Av nv Aa na At nt m) (hnv : nv ≤ 1000) (hna : na ≤ 1000) (hnt : nt ≤ 1000) :
  Calls Try.prog 39 #[.agg #[.int .i64 m.fountains, .slice Av nv cv, .slice Aa na ca, .slice At nt ct]] w (LaidOut w Av nv cv Aa na ca At nt ct m) := by
 have HM := Lib.hid h
 have HLV := Lib.hid h.lenV
 have HLA := Lib.hid h.lenA
 have HLT := Lib.hid h.lenT
 clear h
 go_enter Try.func39, Try.ntmps39
 go_upto_region 2 with fail
 have HLay := Lib.hid (Lay.three w 26 #[.int .i64 m.fountains, .slice Av nv cv, .slice Aa na ca, .slice At nt ct] 97 #[.int .i64 0, .int .i64 0, .int .i64 0, .int .i64 0] 123 #[.int .i64 m.fountains, .slice Av nv cv, .slice Aa na ca, .slice At nt ct, .slice (some ⟨w.heap.size + 1, 0, none⟩) 1 1])
 generalize (((w.alloc (.cells #[.int .i64 m.fountains, .slice Av nv cv, .slice Aa na ca, .slice At nt ct] 26)).alloc (.cells #[.int .i64 0, .int .i64 0, .int .i64 0, .int .i64 0] 97)).alloc (.cells #[.int .i64 m.fountains, .slice Av nv cv, .slice Aa na ca, .slice At nt ct, .slice (some ⟨w.heap.size + 1, 0, none⟩) 1 1] 123)) = w0 at *
 have x0 := (HLay.out.blk 0 rfl).cell 0
 have x1 := (HLay.out.blk 0 rfl).cell 1
 have x2 := (HLay.out.blk 0 rfl).cell 2
 have x3 := (HLay.out.blk 0 rfl).cell 3
 have xl := HLay.out.lt 0 rfl
 go_wp2_with fail
 have Y := IntsAt.new w0 3 [m.fountains] (w0.heap.size + 1) (by omega)
 refine (in_any 1 4 (some ⟨w0.heap.size, 0, none⟩) 1 1 [m.fountains] _ (Y.more (by simp)) (by decide)).mono ?_
 rintro e W1 ⟨rfl, hb⟩
 have hb0 : Below w0.heap.size w0 W1 := ((Below.refl _ _).alloc (Nat.le_refl _) _).trans (hb.mono (by simp))
 replace HLay := Lib.hid (HLay.out.below hb0)
 clear hb hb0 x0 x1 x2 x3 xl Y
 have x0 := (HLay.out.blk 0 rfl).cell 0
 have x1 := (HLay.out.blk 0 rfl).cell 1
 have x2 := (HLay.out.blk 0 rfl).cell 2
 have x3 := (HLay.out.blk 0 rfl).cell 3
 have xl := HLay.out.lt 0 rfl
 by_cases hG : (1 ≤ m.fountains ∧ m.fountains ≤ 4) ∧ m.vessels.length ≤ 4 ∧ m.acts.length ≤ 12 ∧ m.tastes.length ≤ 8
 ·have HG := Lib.hid hG
  have hi : inB 1 4 [m.fountains] = true := by rw [inB_one]; exact decide_eq_true hG.1
  have hn4 : nv ≤ 4 := by have := HLV.out; omega
  have hn12 : na ≤ 12 := by have := HLA.out; omega
  have hn8 : nt ≤ 8 := by have := HLT.out; omega
  have d1 : (nv : Int) ≤ 4 := by omega
  have d2 : (na : Int) ≤ 12 := by omega
  have d3 : (nt : Int) ≤ 8 := by omega
  rw [hi]
  clear hi hG
  go_wp2_with fail
  clear d1 d2 d3 x0 x1 x2 x3 xl
  go_loopw [5, 43] (fun v5 i wr => ∃ (k : Nat) (A5 : Option Addr) (c5 : Nat), k ≤ nv ∧ i = .int .i64 k ∧ v5 = .slice A5 k c5 ∧ Hid (LdA w wr [(w.heap.size, 26, #[.int .i64 m.fountains, .slice Av nv cv, .slice Aa na ca, .slice At nt ct]), (w.heap.size + 1, 97, #[.int .i64 0, .int .i64 0, .int .i64 0, .int .i64 0]), (w.heap.size + 1 + 1, 123, #[.int .i64 m.fountains, .slice Av nv cv, .slice Aa na ca, .slice At nt ct, .slice (some ⟨w.heap.size + 1, 0, none⟩) 1 1])] A5 k c5 m))
   (fun _ i _ => nv - (intOf i).toNat)
  case atStart => exact ⟨0, none, 0, by omega, rfl, rfl, Lib.hid ⟨HLay.out, Own.none_ _ _ _ _, rfl⟩⟩
  case round =>
   clear HLay
   obtain ⟨k, A5, c5, hk, rfl, rfl, HS⟩ := hrel
   have hlay := HS.out.1
   have HLay := Lib.hid hlay
   have hW3 : w.heap.size + 3 ≤ wr.heap.size := by have := hlay.lt 2 rfl; omega
   have x0 := (HLay.out.blk 0 rfl).cell 0
   have x1 := (HLay.out.blk 0 rfl).cell 1
   have x2 := (HLay.out.blk 0 rfl).cell 2
   have x3 := (HLay.out.blk 0 rfl).cell 3
   have xl := HLay.out.lt 0 rfl
   clear hlay
   by_cases hlt : k < nv
   ·clear x0 x1 x2 x3 xl
    obtain ⟨b, off, x, rfl, hbB, hx, hc0, hc1⟩ := (HM.out.below HLay.out.1).vess hlt
    have HX := Lib.hid hx
    clear hx
    go_upto_region 8 with fail
    have hb1 : Below wr.heap.size wr (wr.alloc (.cells #[.int .i64 x.id, .int .i64 x.size] 80)) := (Below.refl _ _).alloc (Nat.le_refl _) _
    have HN := Lib.hid (Blk.new wr 80 #[.int .i64 x.id, .int .i64 x.size])
    obtain ⟨g8, hg8⟩ : ∃ g, wr.heap.size = g := ⟨_, rfl⟩
    generalize wr.alloc (.cells #[.int .i64 x.id, .int .i64 x.size] 80) = wa at *
    have HB1 := Lib.hid hb1
    rw [hg8] at HN ⊢
    have y1 := HN.out.cell 1
    have yl := HN.out.lt
    clear hb1 hc0 hc1
    go_wp2_with fail
    have Y := IntsAt.new wa 3 [x.size] (wa.heap.size + 1) (by omega)
    refine (in_any 1 12 (some ⟨wa.heap.size, 0, none⟩) 1 1 [x.size] _ (Y.more (by simp)) (by decide)).mono ?_
    rintro e W ⟨rfl, hb⟩
    have hb0 : Below wa.heap.size wa W := ((Below.refl _ _).alloc (Nat.le_refl _) _).trans (hb.mono (by simp))
    have HB := Lib.hid (HB1.out.trans (hb0.mono HB1.out.size))
    have HN2 := Lib.hid (HN.out.below hb0 HN.out.lt)
    clear hb hb0 y1 yl Y HN HB1
    rw [vessB_in]
    have HAS := Lib.hid (all_step HX.out HS.out.2.2)
    cases hv : vessB x with
    | false =>
     rw [hv] at HAS
     clear hv
     go_wp2_with fail
     refine bodyPost_ret (v := .tuple #[.pointer none, .bool false]) (by simp [results, Try.results39, go_sem]) rfl (LaidOut.bad (bad_vess ?_) (HLay.out.1.trans (HB.out.mono HLay.out.1.size)))
     cases h0 : m.vessels.all vessB with
     | false => rfl
     | true => exact absurd ((all_pre (k := k + 1) h0).symm.trans HAS.out) (by decide)
    | true =>
     rw [hv] at HAS
     clear hv
     have z0 := HN2.out.cell 0
     have zl := HN2.out.lt
     have HO := Lib.hid (HS.out.2.1.below HB.out (Nat.le_refl _))
     go_wp2_with (at_builtin; refine wpList_append_any _ rfl _ _ rfl elem_int rfl (HO.out.alloc _) rfl (one_int (x := x.id) (Nat.lt_succ_self _) (by simp [go_sem])) (ints_one _) (by unfold maxLen; omega) (by omega) (by have := HB.out.size; simp; omega) ?_)
     rintro A2 cap2 w2 hown hg hA
     have hrow := own_row HO.out
     have hla := lay3_row ((HLay.out.below HB.out).below ((Below.refl _ _).alloc (Nat.le_refl _) _)) hg (fun r e => (hrow r e).1)
     have HLA2 := Lib.hid hla
     have HOW := Lib.hid hown
     clear hown hg hA hrow hla z0 zl
     go_wp2_with fail
     go_roundw
     case rel =>
      refine ⟨k + 1, A2, cap2, by omega, by go_num, rfl, Lib.hid ⟨HLA2.out, ?_, HAS.out⟩⟩
      obtain ⟨h1, h2⟩ := List.getElem?_eq_some_iff.1 HX.out
      rw [List.take_succ_eq_append_getElem h1, h2]
      simpa using HOW.out
     case measure => simp [intOf]; omega
   ·obtain rfl : nv = k := by omega
    have hz : m.vessels.all vessB = true := by
     have := HS.out.2.2
     rwa [List.take_of_length_le (by have := HLV.out; omega)] at this
    have hO : Own wr (w.heap.size + 3) 3 1 A5 nv c5 ((m.vessels.map (·.id)).map (Value.int .i64)) := by
     have := HS.out.2.1
     rwa [List.take_of_length_le (by have := HLV.out; omega)] at this
    have HZ := Lib.hid hz
    have HO := Lib.hid hO
    clear hz hO
    go_wp2_with fail
    clear x0 x1 x2 x3 xl
    obtain ⟨wo, rfl⟩ : ∃ wo, wo = wr := ⟨_, rfl⟩
    go_loopw [6, 61] (fun v6 i wr => ∃ (k : Nat) (A6 : Option Addr) (c6 : Nat), k ≤ nt ∧ i = .int .i64 k ∧ v6 = .slice A6 k c6 ∧ Hid (LdB w wr [(w.heap.size, 26, #[.int .i64 m.fountains, .slice Av nv cv, .slice Aa na ca, .slice At nt ct]), (w.heap.size + 1, 97, #[.int .i64 0, .int .i64 0, .int .i64 0, .int .i64 0]), (w.heap.size + 1 + 1, 123, #[.int .i64 m.fountains, .slice Av nv cv, .slice Aa na ca, .slice At nt ct, .slice (some ⟨w.heap.size + 1, 0, none⟩) 1 1])] A5 nv c5 A6 k c6 m))
     (fun _ i _ => nt - (intOf i).toNat)
    case atStart => exact ⟨0, none, 0, by omega, rfl, rfl, Lib.hid ⟨HLay.out, HO.out, Own.none_ _ _ _ _, fun a b _ h => (by cases h), rfl⟩⟩
    case round =>
     clear HLay HO HS
     obtain ⟨k, A6, c6, hk2, rfl, rfl, HS⟩ := hrel
     have hlay := HS.out.1
     have HLay := Lib.hid hlay
     have hW3 : w.heap.size + 3 ≤ wr.heap.size := by have := hlay.lt 2 rfl; omega
     have x0 := (HLay.out.blk 0 rfl).cell 0
     have x1 := (HLay.out.blk 0 rfl).cell 1
     have x2 := (HLay.out.blk 0 rfl).cell 2
     have x3 := (HLay.out.blk 0 rfl).cell 3
     have xl := HLay.out.lt 0 rfl
     clear hlay
     by_cases hlt : k < nt
     ·clear x0 x1 x2 x3 xl
      obtain ⟨b, off, x, rfl, hbB, hx, hc0, hc1, hc2, hc3, hc4, hc5⟩ := (HM.out.below HLay.out.1).tast hlt
      have HX := Lib.hid hx
      clear hx
      go_upto_region 15 with fail
      have hb1 : Below wr.heap.size wr (wr.alloc (.cells #[.int .i64 x.num, .int .i64 x.vessel, .int .i64 x.after, .int .i64 x.fountain, .int .i64 x.lo, .int .i64 x.hi] 65)) := (Below.refl _ _).alloc (Nat.le_refl _) _
      have HN := Lib.hid (Blk.new wr 65 #[.int .i64 x.num, .int .i64 x.vessel, .int .i64 x.after, .int .i64 x.fountain, .int .i64 x.lo, .int .i64 x.hi])
      obtain ⟨g8, hg8⟩ : ∃ g, wr.heap.size = g := ⟨_, rfl⟩
      generalize wr.alloc (.cells #[.int .i64 x.num, .int .i64 x.vessel, .int .i64 x.after, .int .i64 x.fountain, .int .i64 x.lo, .int .i64 x.hi] 65) = wa at *
      have HB1 := Lib.hid hb1
      rw [hg8] at HN ⊢
      have y1 := HN.out.cell 1
      have yl := HN.out.lt
      clear hb1 hc0 hc1 hc2 hc3 hc4 hc5
      go_wp2_with fail
      refine (vessel_any ⟨w.heap.size + 1 + 1, Av, nv, cv, Aa, na, ca, some ⟨b, off, none⟩, nt, ct, some ⟨w.heap.size + 1, 0, none⟩, 1, 1, m, [zeroH]⟩ x.vessel wa (tb_first (HLay.out.below HB1.out) HM.out ⟨hn4, hn12, hn8⟩)).mono ?_
      rintro e W ⟨rfl, hb⟩
      have HB := Lib.hid (HB1.out.trans (hb.mono HB1.out.size))
      have HN2 := Lib.hid (HN.out.below hb HN.out.lt)
      clear hb y1 yl HN HB1
      dsimp only
      by_cases hj : idxV m.vessels x.vessel < 0
      ·have HTB : Hid (tastB m x = false) := Lib.hid (by unfold tastB; exact decide_eq_false (by omega))
       go_wp2_with fail
       refine bodyPost_ret (v := .tuple #[.pointer none, .bool false]) (by simp [results, Try.results39, go_sem]) rfl (LaidOut.bad (bad_tast (tast_no HX.out HTB.out)) (HLay.out.1.trans (HB.out.mono HLay.out.1.size)))
      ·have hj2 : 0 ≤ idxV m.vessels x.vessel := by omega
       have q2 := ((HLay.out.below HB.out).blk 0 rfl).cell 2
       have ql := (HLay.out.below HB.out).lt 0 rfl
       have y2 := HN2.out.cell 2
       have yl := HN2.out.lt
       go_wp2_with fail
       have Y := IntsAt.new W 3 [x.after] (W.heap.size + 1) (by omega)
       refine (in_any 0 na (some ⟨W.heap.size, 0, none⟩) 1 1 [x.after] _ (Y.more (by simp)) (by decide)).mono ?_
       rintro e W2 ⟨rfl, hb⟩
       have hb0 : Below W.heap.size W W2 := ((Below.refl _ _).alloc (Nat.le_refl _) _).trans (hb.mono (by simp))
       replace HB := Lib.hid (HB.out.trans (hb0.mono HB.out.size))
       replace HN2 := Lib.hid (HN2.out.below hb0 HN2.out.lt)
       clear hb hb0 yl Y y2 q2 ql
       obtain ⟨W, rfl⟩ : ∃ W, W = W2 := ⟨_, rfl⟩
       rw [inB_one]
       by_cases ha : 0 ≤ x.after ∧ x.after ≤ (na : Int)
       ·rw [decide_eq_true ha]
        have q0 := ((HLay.out.below HB.out).blk 0 rfl).cell 0
        have ql := (HLay.out.below HB.out).lt 0 rfl
        have y3 := HN2.out.cell 3
        have yl := HN2.out.lt
        have HAF := Lib.hid ha
        clear ha
        go_wp2_with fail
        have Y := IntsAt.new W 3 [x.fountain] (W.heap.size + 1) (by omega)
        refine (in_any 1 m.fountains (some ⟨W.heap.size, 0, none⟩) 1 1 [x.fountain] _ (Y.more (by simp)) (by decide)).mono ?_
        rintro e W2 ⟨rfl, hb⟩
        have hb0 : Below W.heap.size W W2 := ((Below.refl _ _).alloc (Nat.le_refl _) _).trans (hb.mono (by simp))
        replace HB := Lib.hid (HB.out.trans (hb0.mono HB.out.size))
        replace HN2 := Lib.hid (HN2.out.below hb0 HN2.out.lt)
        clear hb hb0 yl Y y3 q0 ql
        obtain ⟨W, rfl⟩ : ∃ W, W = W2 := ⟨_, rfl⟩
        rw [inB_one]
        by_cases hf : 1 ≤ x.fountain ∧ x.fountain ≤ m.fountains
        ·rw [decide_eq_true hf]
         have y4 := HN2.out.cell 4
         have y5 := HN2.out.cell 5
         have yl := HN2.out.lt
         have HFF := Lib.hid hf
         clear hf
         by_cases hlo : x.lo < 0
         ·have HTB : Hid (tastB m x = false) := Lib.hid (by unfold tastB; exact decide_eq_false (by omega))
          go_wp2_with fail
          refine bodyPost_ret (v := .tuple #[.pointer none, .bool false]) (by simp [results, Try.results39, go_sem]) rfl (LaidOut.bad (bad_tast (tast_no HX.out HTB.out)) (HLay.out.1.trans (HB.out.mono HLay.out.1.size)))
         ·by_cases hhi : x.hi < x.lo
          ·have HTB : Hid (tastB m x = false) := Lib.hid (by unfold tastB; exact decide_eq_false (by omega))
           go_wp2_with fail
           refine bodyPost_ret (v := .tuple #[.pointer none, .bool false]) (by simp [results, Try.results39, go_sem]) rfl (LaidOut.bad (bad_tast (tast_no HX.out HTB.out)) (HLay.out.1.trans (HB.out.mono HLay.out.1.size)))
          ·have HTB : Hid (tastB m x = true) := Lib.hid (by unfold tastB; have := HAF.out; have := HFF.out; have := HLA.out; exact decide_eq_true (by omega))
           have y0 := HN2.out.cell 0
           have HO5 := Lib.hid (HS.out.2.1.below HB.out (Nat.le_refl _))
           have HO6 := Lib.hid (HS.out.2.2.1.below HB.out (Nat.le_refl _))
           have HNE := Lib.hid HS.out.2.2.2.1
           have HAS : Hid ((m.tastes.take (k + 1)).all (tastB m) = true) := Lib.hid ((all_step HX.out HS.out.2.2.2.2).trans HTB.out)
           go_wp2_with (at_builtin; refine wpList_append_any _ rfl _ _ rfl elem_int rfl (HO6.out.alloc _) rfl (one_int (x := x.num) (Nat.lt_succ_self _) (by simp [go_sem])) (ints_one _) (by unfold maxLen; omega) (by omega) (by have := HB.out.size; simp; omega) ?_)
           rintro A2 cap2 w2 hown hg hA
           have hrow := own_row HO6.out
           have hla := lay3_row ((HLay.out.below HB.out).below ((Below.refl _ _).alloc (Nat.le_refl _) _)) hg (fun r e => (hrow r e).1)
           have HLA2 := Lib.hid hla
           have HOW := Lib.hid hown
           have HO52 := Lib.hid ((HO5.out.alloc (.cells #[.int .i64 x.num] 3)).grown hg (fun a ha e => by
            cases h6 : A6 with
            | none => rw [h6] at e; cases e
            | some b => rw [h6] at e; exact HNE.out a b ha h6 (Option.some.inj e)))
           have HNE2 : Hid (∀ a b, A5 = some a → A2 = some b → a.block ≠ b.block) := Lib.hid (fun a b ha hb => by
            rcases hA with e | e
            ·exact HNE.out a b ha (e ▸ hb)
            ·rw [e] at hb
             cases hb
             have := (HO5.out.lt ha).2
             simp
             omega)
           clear hown hg hA hrow hla y0 y4 y5 yl
           go_wp2_with fail
           go_roundw
           case rel =>
            refine ⟨k + 1, A2, cap2, by omega, by go_num, rfl, Lib.hid ⟨HLA2.out, HO52.out, ?_, HNE2.out, HAS.out⟩⟩
            obtain ⟨h1, h2⟩ := List.getElem?_eq_some_iff.1 HX.out
            rw [List.take_succ_eq_append_getElem h1, h2]
            simpa using HOW.out
           case measure => simp [intOf]; omega
        ·rw [decide_eq_false hf]
         have HTB : Hid (tastB m x = false) := Lib.hid (by unfold tastB; exact decide_eq_false (by omega))
         clear hf
         have y4 := HN2.out.cell 4
         go_wp2_with fail
         refine bodyPost_ret (v := .tuple #[.pointer none, .bool false]) (by simp [results, Try.results39, go_sem]) rfl (LaidOut.bad (bad_tast (tast_no HX.out HTB.out)) (HLay.out.1.trans (HB.out.mono HLay.out.1.size)))
       ·rw [decide_eq_false ha]
        have HTB : Hid (tastB m x = false) := Lib.hid (by unfold tastB; have := HLA.out; exact decide_eq_false (by omega))
        clear ha
        go_wp2_with fail
        refine bodyPost_ret (v := .tuple #[.pointer none, .bool false]) (by simp [results, Try.results39, go_sem]) rfl (LaidOut.bad (bad_tast (tast_no HX.out HTB.out)) (HLay.out.1.trans (HB.out.mono HLay.out.1.size)))
     ·obtain rfl : nt = k := by omega
      have hz : m.tastes.all (tastB m) = true := by
       have := HS.out.2.2.2.2
       rwa [List.take_of_length_le (by have := HLT.out; omega)] at this
      have hO6 : Own wr (w.heap.size + 3) 3 1 A6 nt c6 ((m.tastes.map (·.num)).map (Value.int .i64)) := by
       have := HS.out.2.2.1
       rwa [List.take_of_length_le (by have := HLT.out; omega)] at this
      have HZT := Lib.hid hz
      have HO6 := Lib.hid hO6
      have HO5 := Lib.hid HS.out.2.1
      have HNE := Lib.hid HS.out.2.2.2.1
      clear hz hO6
      go_wp2_with fail
      clear x0 x1 x2 x3 xl HS
      obtain ⟨wp, rfl⟩ : ∃ wp, wp = wr := ⟨_, rfl⟩
      have hst : LdC w wp ⟨w.heap.size + 1 + 1, Av, nv, cv, Aa, na, ca, At, nt, ct, some ⟨w.heap.size + 1, 0, none⟩, 1, 1, m, [zeroH]⟩ A5 c5 A6 c6 0 := by
       refine ⟨tb_own HLay.out HM.out ⟨hn4, hn12, hn8⟩, HLay.out.1, rfl, ?_, ⟨HO5.out, HO6.out⟩, ?_⟩
       ·intro j u hu
        match j, hu with
        | 0, hu =>
         have e : zeroH = u := by simpa using hu
         rw [← e]
         exact zero_range
       ·intro a ha
        have hlt : w.heap.size + 3 ≤ a.block ∧ a.block < wp.heap.size := by
         rcases ha with ha | ha
         ·exact HO5.out.lt ha
         ·exact HO6.out.lt ha
        refine ⟨hlt.2, by dsimp only; omega, ?_⟩
        simp
        omega
      have HST := Lib.hid hst
      clear hst HLay HO5 HO6 HNE hW3
      go_loopw [113] (fun i wr => ∃ (k : Nat) (AA : Option Addr) (cl : Nat) (L : List Held), k ≤ na ∧ i = .int .i64 k ∧ Hid (LdC w wr ⟨w.heap.size + 1 + 1, Av, nv, cv, Aa, na, ca, At, nt, ct, AA, k + 1, cl, m, L⟩ A5 c5 A6 c6 k))
       (fun i _ => na - (intOf i).toNat)
      case atStart => exact ⟨0, _, _, _, by omega, rfl, HST⟩
      case round =>
       clear HST
       obtain ⟨k, AA, cl, L, hk3, rfl, HS⟩ := hrel
       by_cases hlt : k < na
       ·have hx : m.acts[k]? = some (m.acts[k]'(by have := HLA.out; omega)) := List.getElem?_eq_getElem (by have := HLA.out; omega)
        obtain ⟨x, hx'⟩ : ∃ x, m.acts[k]'(by have := HLA.out; omega) = x := ⟨_, rfl⟩
        rw [hx'] at hx
        have hlen : L.length = k + 1 := by
         have : L.length = (m.acts.take k).length + 1 := allM_len m _ L HS.out.2.2.1
         rw [List.length_take, Nat.min_eq_left (by have := HLA.out; omega)] at this
         exact this
        have hs : L[k]? = some (L[k]'(by omega)) := List.getElem?_eq_getElem (by omega)
        obtain ⟨s, hs'⟩ : ∃ s, L[k]'(by omega) = s := ⟨_, rfl⟩
        rw [hs'] at hs
        have HX := Lib.hid hx
        have HSS := Lib.hid hs
        have hr := HS.out.2.2.2.1 k s hs
        have HR := Lib.hid (And.intro hr.1 (fun q : Nat => show 0 ≤ heldAt s q ∧ heldAt s q ≤ 1000 from ⟨(hr.2 q).1, by have := (hr.2 q).2; omega⟩))
        have HVZ := Lib.hid (vesOk_of HZ.out)
        have HC := Lib.hid (callsIn_wide.1 (act_in w.heap.size ⟨w.heap.size + 1 + 1, Av, nv, cv, Aa, na, ca, At, nt, ct, AA, k + 1, cl, m, L⟩ k x s wr HS.out.1 hx hs (by show k + 1 ≤ 12; omega) HVZ.out HR.out))
        clear hx hx' hs hs' hr hlen
        go_wp2_with fail
        refine HC.out.mono ?_
        rintro e W (⟨hn, rfl, hb⟩ | ⟨A9, c9, hsm, rfl, hT, hb, hkk, hA⟩)
        ·have HN := Lib.hid hn
         have HB := Lib.hid (HS.out.2.1.trans (hb.mono HS.out.2.1.size))
         clear hn hb HC
         go_wp2_with fail
         refine bodyPost_ret (v := .tuple #[.pointer none, .bool false]) (by simp [results, Try.results39, go_sem]) rfl (LaidOut.bad (bad_acts (allM_fail (k := k + 1) ?_)) HB.out)
         rw [allM_take HX.out HS.out.2.2.1 HSS.out]
         cases hd : doneM m s x with
         | none => rfl
         | some s' => have := HN.out; rw [hd] at this; cases this
        ·obtain ⟨s', hd⟩ := Option.isSome_iff_exists.1 hsm
         have he := (done_ok hd HR.out.1 (by have := HLV.out; omega)).2
         rw [← he] at hT
         have HN := Lib.hid (ldc_step HS.out HX.out HSS.out hd HVZ.out hT hb hkk hA)
         clear hsm hd he hT hb hkk hA HC
         go_wp2_with fail
         go_roundw
         case rel => exact ⟨k + 1, A9, c9, L ++ [s'], by omega, by go_num, HN⟩
         case measure => simp [intOf]; omega
       ·obtain rfl : na = k := by omega
        have hL : allM m m.acts = some L := by
         have : allM m (m.acts.take na) = some L := HS.out.2.2.1
         rwa [List.take_of_length_le (by have := HLA.out; omega)] at this
        have HL := Lib.hid hL
        clear hL
        go_wp2_with fail
        refine (rising_any A5 nv c5 (m.vessels.map (·.id)) wr (ints_of_own HS.out.2.2.2.2.1.1 (Nat.le_refl _)) hnv).mono ?_
        rintro e W ⟨rfl, hb⟩
        have HB := Lib.hid hb
        have HO6 := Lib.hid (HS.out.2.2.2.2.1.2.below hb (Nat.le_refl _))
        clear hb
        cases hr : risB 0 (m.vessels.map (·.id)) with
        | false =>
         have HRB := Lib.hid hr
         clear hr
         go_wp2_with fail
         refine bodyPost_ret (v := .tuple #[.pointer (some ⟨w.heap.size + 1 + 1, 0, none⟩), .bool false]) (by simp [results, Try.results39, go_sem]) rfl ?_
         have hno : okMix m = false := by rw [ok_rest HG.out HZ.out HZT.out HL.out, HRB.out]; rfl
         exact ⟨_, by rw [hno], HS.out.2.1.trans (HB.out.mono HS.out.2.1.size), fun h' => by rw [hno] at h'; cases h'⟩
        | true =>
         have HRB := Lib.hid hr
         clear hr
         go_wp2_with fail
         refine (rising_any A6 nt c6 (m.tastes.map (·.num)) W (ints_of_own HO6.out (Nat.le_refl _)) hnt).mono ?_
         rintro e W2 ⟨rfl, hb⟩
         have HB2 := Lib.hid (HB.out.trans (hb.mono HB.out.size))
         clear hb
         have HOK : Hid (okMix m = risB 0 (m.tastes.map (·.num))) := Lib.hid (by rw [ok_rest HG.out HZ.out HZT.out HL.out, HRB.out, Bool.true_and])
         go_wp2_with fail
         refine bodyPost_ret (v := .tuple #[.pointer (some ⟨w.heap.size + 1 + 1, 0, none⟩), .bool (risB 0 (m.tastes.map (·.num)))]) (by simp [results, Try.results39, go_sem]) rfl ?_
         refine ⟨_, by rw [HOK.out], HS.out.2.1.trans (HB2.out.mono HS.out.2.1.size), fun _ => ⟨_, AA, na + 1, cl, L, rfl, by omega, HL.out, ?_⟩⟩
         exact HS.out.1.below HB2.out
 ·have HB := Lib.hid (bad_limits hG)
  cases hi : inB 1 4 [m.fountains] with
  | false =>
   clear hi
   go_wp2_with fail
   exact bodyPost_ret (v := .tuple #[.pointer none, .bool false]) (by simp [results, Try.results39, go_sem]) rfl (LaidOut.bad HB.out HLay.out.1)
  | true =>
   have h2 : ¬ (nv ≤ 4 ∧ na ≤ 12 ∧ nt ≤ 8) := by
    rw [inB_one] at hi
    have := of_decide_eq_true hi
    rw [← HLV.out, ← HLA.out, ← HLT.out]
    exact fun h2 => hG ⟨this, h2⟩
   clear hi hG
   by_cases q1 : nv ≤ 4
   ·have d1 : (nv : Int) ≤ 4 := by omega
    by_cases q2 : na ≤ 12
    ·have d2 : (na : Int) ≤ 12 := by omega
     have d3 : ¬ (nt : Int) ≤ 8 := by omega
     clear h2
     go_wp2_with fail
     exact bodyPost_ret (v := .tuple #[.pointer none, .bool false]) (by simp [results, Try.results39, go_sem]) rfl (LaidOut.bad HB.out HLay.out.1)
    ·have d2 : ¬ (na : Int) ≤ 12 := by omega
     clear h2
     go_wp2_with fail
     exact bodyPost_ret (v := .tuple #[.pointer none, .bool false]) (by simp [results, Try.results39, go_sem]) rfl (LaidOut.bad HB.out HLay.out.1)
   ·have d1 : ¬ (nv : Int) ≤ 4 := by omega
    clear h2
    go_wp2_with fail
    exact bodyPost_ret (v := .tuple #[.pointer none, .bool false]) (by simp [results, Try.results39, go_sem]) rfl (LaidOut.bad HB.out HLay.out.1)
end Go.Proofs.Ythofngceiecniaa
/- What is told of mixed water, as predicates that one answer alone meets (plain). -/
namespace Go.Proofs.Ythofngceiecniaa

/-- The error of mixed water, a vessel, a time, and fountains. -/
def askM (m : Mix) (vessel after : Int) (fs : List Int) : Int :=
 if okMix m = true then (if idxV m.vessels vessel < 0 then 6 else if (0 ≤ after ∧ after ≤ m.acts.length) ∧ ∀ f ∈ fs, 1 ≤ f ∧ f ≤ m.fountains then 0 else 2) else 40
def HoldsIs (m : Mix) (vessel after : Int) (n e : Int) : Prop :=
 (askM m vessel after [] ≠ 0 ∧ n = 0 ∧ e = askM m vessel after []) ∨ (askM m vessel after [] = 0 ∧ e = 0 ∧ ∃ A a, allM m m.acts = some A ∧ A[after.toNat]? = some a ∧ n = heldAt a (idxV m.vessels vessel))
/-- The spans: no truth, or the least and the greatest of some numbers. -/
def TellIs (m : Mix) (f : Int) (P : List Held → Int → Prop) (s : Int × Int) (e : Int) : Prop :=
 ∃ A, allM m m.acts = some A ∧ ((¬ Truth m f A 0 zeroH ∧ s = (0, 0) ∧ e = 8) ∨ (Truth m f A 0 zeroH ∧ e = 0 ∧ IsSpan (P A) s))
def GuardIs (g : Int) (T : Int × Int → Int → Prop) (s : Int × Int) (e : Int) : Prop := (g ≠ 0 ∧ s = (0, 0) ∧ e = g) ∨ (g = 0 ∧ T s e)
def OfP (m : Mix) (vessel after f : Int) (A : List Held) (n : Int) : Prop := ∃ x, Truth m f A after.toNat x ∧ heldAt x (idxV m.vessels vessel) = n
def OfIs (m : Mix) (vessel after f : Int) : Int × Int → Int → Prop := GuardIs (askM m vessel after [f]) (TellIs m f (OfP m vessel after f))
def actM (m : Mix) (act f : Int) : Int := if okMix m = true then (if (1 ≤ act ∧ act ≤ m.acts.length) ∧ 1 ≤ f ∧ f ≤ m.fountains then 0 else 2) else 40
def MovedP (m : Mix) (act f : Int) (A : List Held) (n : Int) : Prop :=
 ∃ x all s, m.acts[act.toNat - 1]? = some x ∧ A[act.toNat - 1]? = some all ∧ Truth m f A (act.toNat - 1) s ∧ (spanP m x f all s).1 ≤ n ∧ n ≤ (spanP m x f all s).2 ∧ Truth m f A act.toNat (shiftH s (fromI m x) (toI m x) n)
def MovedIs (m : Mix) (act f : Int) : Int × Int → Int → Prop := GuardIs (actM m act f) (TellIs m f (MovedP m act f))
def goneM (m : Mix) (f : Int) : Int := if okMix m = true then (if 1 ≤ f ∧ f ≤ m.fountains then 0 else 2) else 40
def filledM (m : Mix) (f : Int) : Int := m.acts.foldl (fun n x => if x.kind = 1 ∧ x.fr = f then n + x.drops else n) 0
def sumH (s : Held) : Int := heldAt s 0 + heldAt s 1 + heldAt s 2 + heldAt s 3
def GoneP (m : Mix) (f : Int) (A : List Held) (n : Int) : Prop := ∃ s, Truth m f A m.acts.length s ∧ n = filledM m f - sumH s
def GoneIs (m : Mix) (f : Int) : Int × Int → Int → Prop := GuardIs (goneM m f) (TellIs m f (GoneP m f))
section
variable {m : Mix} {f g e e' : Int} {s s' : Int × Int} {P : List Held → Int → Prop} {T : Int × Int → Int → Prop}
theorem HoldsIs.same {v a n n' : Int} (h : HoldsIs m v a n e) (h' : HoldsIs m v a n' e') : n = n' ∧ e = e' := by
 rcases h with ⟨h0, rfl, rfl⟩ | ⟨h0, rfl, A, x, hA, hx, rfl⟩ <;> rcases h' with ⟨k0, rfl, rfl⟩ | ⟨k0, rfl, B, y, hB, hy, rfl⟩
 ·exact ⟨rfl, rfl⟩
 ·exact absurd k0 h0
 ·exact absurd h0 k0
 ·rw [hA] at hB
  cases hB
  rw [hx] at hy
  cases hy
  exact ⟨rfl, rfl⟩
theorem TellIs.same (h : TellIs m f P s e) (h' : TellIs m f P s' e') : s = s' ∧ e = e' := by
 obtain ⟨A, hA, h⟩ := h
 obtain ⟨B, hB, h'⟩ := h'
 rw [hA] at hB
 cases hB
 rcases h with ⟨h0, rfl, rfl⟩ | ⟨h0, rfl, h1⟩ <;> rcases h' with ⟨k0, rfl, rfl⟩ | ⟨k0, rfl, k1⟩
 ·exact ⟨rfl, rfl⟩
 ·exact absurd k0 h0
 ·exact absurd h0 k0
 ·exact ⟨h1.same k1, rfl⟩
theorem GuardIs.same (hT : ∀ {s s' e e'}, T s e → T s' e' → s = s' ∧ e = e') (h : GuardIs g T s e) (h' : GuardIs g T s' e') : s = s' ∧ e = e' := by
 rcases h with ⟨h0, rfl, rfl⟩ | ⟨h0, h1⟩ <;> rcases h' with ⟨k0, rfl, rfl⟩ | ⟨k0, k1⟩
 ·exact ⟨rfl, rfl⟩
 ·exact absurd k0 h0
 ·exact absurd h0 k0
 ·exact hT h1 k1
theorem OfIs.same {v a : Int} (h : OfIs m v a f s e) (h' : OfIs m v a f s' e') : s = s' ∧ e = e' := GuardIs.same TellIs.same h h'
theorem MovedIs.same {a : Int} (h : MovedIs m a f s e) (h' : MovedIs m a f s' e') : s = s' ∧ e = e' := GuardIs.same TellIs.same h h'
theorem GoneIs.same (h : GoneIs m f s e) (h' : GoneIs m f s' e') : s = s' ∧ e = e' := GuardIs.same TellIs.same h h'
theorem okMix_vess (h : okMix m = true) : m.vessels.length ≤ 4 ∧ m.acts.length ≤ 12 ∧ m.tastes.length ≤ 8 ∧ 1 ≤ m.fountains ∧ m.fountains ≤ 4 := by
 unfold okMix at h
 simp only [Bool.and_eq_true, decide_eq_true_eq] at h
 omega
end
end Go.Proofs.Ythofngceiecniaa
/- mix.Check, mix.placed, mix.Holds. -/
namespace Go.Proofs.Ythofngceiecniaa
open Go.RowKit

/-- Mixed water as a value. -/
structure MixS (w : World) (Av : Option Addr) (nv : Nat) (Aa : Option Addr) (na : Nat) (At : Option Addr) (nt : Nat) (m : Mix) : Prop where
 at_ : MixAt w w.heap.size Av nv Aa na At nt m
 hv : nv ≤ 1000
 ha : na ≤ 1000
 ht : nt ≤ 1000
theorem MixS.up {w w' : World} {Av Aa At : Option Addr} {nv na nt : Nat} {m : Mix} (h : MixS w Av nv Aa na At nt m) (hb : Below w.heap.size w w') : MixS w' Av nv Aa na At nt m := ⟨h.at_.up hb, h.hv, h.ha, h.ht⟩
theorem MixS.laid {w : World} {Av Aa At : Option Addr} {nv cv na ca nt ct : Nat} {m : Mix} (h : MixS w Av nv Aa na At nt m) :
  Calls Try.prog 39 #[.agg #[.int .i64 m.fountains, .slice Av nv cv, .slice Aa na ca, .slice At nt ct]] w (LaidOut w Av nv cv Aa na ca At nt ct m) := laid_any Av nv cv Aa na ca At nt ct m w h.at_ h.hv h.ha h.ht
def checkE (m : Mix) : Int := if okMix m = true then 0 else 40
set_option maxRecDepth 100000 in
set_option maxHeartbeats 4000000 in
theorem check_any (Av : Option Addr) (nv cv : Nat) (Aa : Option Addr) (na ca : Nat) (At : Option Addr) (nt ct : Nat) (m : Mix) (w : World) (h : MixS w Av nv Aa na At nt m) :
  Calls Try.prog 18 #[.agg #[.int .i64 m.fountains, .slice Av nv cv, .slice Aa na ca, .slice At nt ct]] w fun e w' => e = .returned (.int .i64 (checkE m)) ∧ Below w.heap.size w w' := by
 have HM := Lib.hid h
 clear h
 go_enter Try.func18, Try.ntmps18
 go_wp2_with fail
 have hb : Below w.heap.size w (w.alloc (.cells #[.int .i64 m.fountains, .slice Av nv cv, .slice Aa na ca, .slice At nt ct] 26)) := (Below.refl _ _).alloc (Nat.le_refl _) _
 have HB := Lib.hid hb
 clear hb
 refine ((HM.out.up HB.out).laid).mono ?_
 rintro e w' ⟨p, rfl, hb, _⟩
 have HB2 := Lib.hid (HB.out.trans (hb.mono HB.out.size))
 clear hb
 cases hk : okMix m with
 | true =>
  have HK : Hid (checkE m = 0) := Lib.hid (by unfold checkE; rw [hk]; rfl)
  clear hk
  go_wp2_with fail
  go_ret
  exact ⟨ret_int HK.out.symm, HB2.out⟩
 | false =>
  have HK : Hid (checkE m = 40) := Lib.hid (by unfold checkE; rw [hk]; rfl)
  clear hk
  go_wp2_with fail
  go_ret
  exact ⟨ret_int HK.out.symm, HB2.out⟩
end Go.Proofs.Ythofngceiecniaa
/- slices.Clone at vessels, acts, tastes. -/
namespace Go.Proofs.Ythofngceiecniaa
open Go.RowKit

theorem info_vess : (Try.prog.info? 80).map (fun i => (i.zero, i.size, i.bytes)) = some (some (.agg #[.int .i64 0, .int .i64 0]), 2, 16) := by kernel_rfl
theorem elem_vess : ElemAt Try.prog 22 80 (.agg #[.int .i64 0, .int .i64 0]) 2 16 := by
 obtain ⟨i0, hi, hz0, hz1, hz2⟩ := info_parts info_vess
 exact ⟨i0, Try.underlying22, hi, hz0, hz1, hz2, rfl, by decide⟩
theorem eql_nil_vess (w : World) (a : Option Addr) (n c n' c' : Nat) : (binOp .eql 22 (.slice a n c) (.slice none n' c')).run Try.prog w = .ok (.bool a.isNone) w := Lib.run_eql_slice_nil w _ _ a n c n' c' Try.underlying22
theorem vess_one1 (x : Vess) : ∀ u ∈ x.vals, u.oneCell' = true := by
 intro u hu
 simp only [Vess.vals, List.mem_cons, List.not_mem_nil, or_false] at hu
 obtain rfl | rfl := hu <;> rfl
theorem vess_one (l : List Vess) : ∀ u ∈ l.flatMap Vess.vals, u.oneCell' = true := by
 intro u hu
 obtain ⟨x, _, hx⟩ := List.mem_flatMap.1 hu
 exact vess_one1 x u hx
set_option maxRecDepth 100000 in
set_option maxHeartbeats 2000000 in
theorem clone_vess (A : Option Addr) (n c : Nat) (l : List Vess) (w : World) (hr : Reads w w.heap.size 2 A n (l.flatMap Vess.vals)) (hn : n ≤ 1000) :
  Calls Try.prog 104 #[.slice A n c] w fun e w' => ∃ A' c', e = .returned (.slice A' n c') ∧ Own w' w.heap.size 80 2 A' n c' (l.flatMap Vess.vals) ∧ (A = none ↔ A' = none) ∧ Below w.heap.size w w' := by
 have HR := Lib.hid hr
 have hq := eql_nil_vess
 cases A with
 | none =>
  have h0 : n = 0 := by
   rcases Nat.eq_zero_or_pos n with h | h
   ·exact h
   ·obtain ⟨_, h', _⟩ := hr.2 h; cases h'
  have hl : l = [] := List.eq_nil_of_length_eq_zero (by rw [recs_n vess_k (by omega) hr]; exact h0)
  subst h0 hl
  go_enter Try.func104, Try.ntmps104
  go_wp2_with fail
  go_ret
  exact ⟨none, 0, rfl, Own.none_ _ _ _ _, by simp, Below.refl _ _⟩
 | some ad =>
  clear hr
  go_enter Try.func104, Try.ntmps104
  go_wp2_with (at_builtin; refine wpList_append_any _ rfl _ _ rfl elem_vess rfl (World.ownsRow_made w #[] 0 (Nat.le_refl _) (Nat.zero_le _) (by simp)) rfl (Reads.alloc HR.out (Nat.le_refl _) _) (vess_one l) (by unfold maxLen; omega) (by omega) (by simp) ?_)
  rintro A' cap' w' hown hg hA
  go_wp2
  go_ret
  have hB : Below w.heap.size w w' := ((Below.refl _ _).alloc (Nat.le_refl _) _).grown hg (by simp) (by intro k hk; simp at hk; omega)
  refine ⟨A', cap', by simp, by simpa using hown, ?_, hB⟩
  constructor
  ·intro h; cases h
  ·intro h
   rcases hA with hA | hA <;> rw [hA] at h <;> cases h

theorem info_act : (Try.prog.info? 67).map (fun i => (i.zero, i.size, i.bytes)) = some (some (.agg #[.int .i64 0, .int .i64 0, .int .i64 0, .int .i64 0]), 4, 32) := by kernel_rfl
theorem elem_act : ElemAt Try.prog 23 67 (.agg #[.int .i64 0, .int .i64 0, .int .i64 0, .int .i64 0]) 4 32 := by
 obtain ⟨i0, hi, hz0, hz1, hz2⟩ := info_parts info_act
 exact ⟨i0, Try.underlying23, hi, hz0, hz1, hz2, rfl, by decide⟩
theorem eql_nil_act (w : World) (a : Option Addr) (n c n' c' : Nat) : (binOp .eql 23 (.slice a n c) (.slice none n' c')).run Try.prog w = .ok (.bool a.isNone) w := Lib.run_eql_slice_nil w _ _ a n c n' c' Try.underlying23
theorem act_one1 (x : MAct) : ∀ u ∈ x.vals, u.oneCell' = true := by
 intro u hu
 simp only [MAct.vals, List.mem_cons, List.not_mem_nil, or_false] at hu
 obtain rfl | rfl | rfl | rfl := hu <;> rfl
theorem act_one (l : List MAct) : ∀ u ∈ l.flatMap MAct.vals, u.oneCell' = true := by
 intro u hu
 obtain ⟨x, _, hx⟩ := List.mem_flatMap.1 hu
 exact act_one1 x u hx
set_option maxRecDepth 100000 in
set_option maxHeartbeats 2000000 in
theorem clone_act (A : Option Addr) (n c : Nat) (l : List MAct) (w : World) (hr : Reads w w.heap.size 4 A n (l.flatMap MAct.vals)) (hn : n ≤ 1000) :
  Calls Try.prog 105 #[.slice A n c] w fun e w' => ∃ A' c', e = .returned (.slice A' n c') ∧ Own w' w.heap.size 67 4 A' n c' (l.flatMap MAct.vals) ∧ (A = none ↔ A' = none) ∧ Below w.heap.size w w' := by
 have HR := Lib.hid hr
 have hq := eql_nil_act
 cases A with
 | none =>
  have h0 : n = 0 := by
   rcases Nat.eq_zero_or_pos n with h | h
   ·exact h
   ·obtain ⟨_, h', _⟩ := hr.2 h; cases h'
  have hl : l = [] := List.eq_nil_of_length_eq_zero (by rw [recs_n act_k (by omega) hr]; exact h0)
  subst h0 hl
  go_enter Try.func105, Try.ntmps105
  go_wp2_with fail
  go_ret
  exact ⟨none, 0, rfl, Own.none_ _ _ _ _, by simp, Below.refl _ _⟩
 | some ad =>
  clear hr
  go_enter Try.func105, Try.ntmps105
  go_wp2_with (at_builtin; refine wpList_append_any _ rfl _ _ rfl elem_act rfl (World.ownsRow_made w #[] 0 (Nat.le_refl _) (Nat.zero_le _) (by simp)) rfl (Reads.alloc HR.out (Nat.le_refl _) _) (act_one l) (by unfold maxLen; omega) (by omega) (by simp) ?_)
  rintro A' cap' w' hown hg hA
  go_wp2
  go_ret
  have hB : Below w.heap.size w w' := ((Below.refl _ _).alloc (Nat.le_refl _) _).grown hg (by simp) (by intro k hk; simp at hk; omega)
  refine ⟨A', cap', by simp, by simpa using hown, ?_, hB⟩
  constructor
  ·intro h; cases h
  ·intro h
   rcases hA with hA | hA <;> rw [hA] at h <;> cases h

theorem info_tast : (Try.prog.info? 65).map (fun i => (i.zero, i.size, i.bytes)) = some (some (.agg #[.int .i64 0, .int .i64 0, .int .i64 0, .int .i64 0, .int .i64 0, .int .i64 0]), 6, 48) := by kernel_rfl
theorem elem_tast : ElemAt Try.prog 24 65 (.agg #[.int .i64 0, .int .i64 0, .int .i64 0, .int .i64 0, .int .i64 0, .int .i64 0]) 6 48 := by
 obtain ⟨i0, hi, hz0, hz1, hz2⟩ := info_parts info_tast
 exact ⟨i0, Try.underlying24, hi, hz0, hz1, hz2, rfl, by decide⟩
theorem eql_nil_tast (w : World) (a : Option Addr) (n c n' c' : Nat) : (binOp .eql 24 (.slice a n c) (.slice none n' c')).run Try.prog w = .ok (.bool a.isNone) w := Lib.run_eql_slice_nil w _ _ a n c n' c' Try.underlying24
theorem tast_one1 (x : Tast) : ∀ u ∈ x.vals, u.oneCell' = true := by
 intro u hu
 simp only [Tast.vals, List.mem_cons, List.not_mem_nil, or_false] at hu
 obtain rfl | rfl | rfl | rfl | rfl | rfl := hu <;> rfl
theorem tast_one (l : List Tast) : ∀ u ∈ l.flatMap Tast.vals, u.oneCell' = true := by
 intro u hu
 obtain ⟨x, _, hx⟩ := List.mem_flatMap.1 hu
 exact tast_one1 x u hx
set_option maxRecDepth 100000 in
set_option maxHeartbeats 2000000 in
theorem clone_tast (A : Option Addr) (n c : Nat) (l : List Tast) (w : World) (hr : Reads w w.heap.size 6 A n (l.flatMap Tast.vals)) (hn : n ≤ 1000) :
  Calls Try.prog 106 #[.slice A n c] w fun e w' => ∃ A' c', e = .returned (.slice A' n c') ∧ Own w' w.heap.size 65 6 A' n c' (l.flatMap Tast.vals) ∧ (A = none ↔ A' = none) ∧ Below w.heap.size w w' := by
 have HR := Lib.hid hr
 have hq := eql_nil_tast
 cases A with
 | none =>
  have h0 : n = 0 := by
   rcases Nat.eq_zero_or_pos n with h | h
   ·exact h
   ·obtain ⟨_, h', _⟩ := hr.2 h; cases h'
  have hl : l = [] := List.eq_nil_of_length_eq_zero (by rw [recs_n tast_k (by omega) hr]; exact h0)
  subst h0 hl
  go_enter Try.func106, Try.ntmps106
  go_wp2_with fail
  go_ret
  exact ⟨none, 0, rfl, Own.none_ _ _ _ _, by simp, Below.refl _ _⟩
 | some ad =>
  clear hr
  go_enter Try.func106, Try.ntmps106
  go_wp2_with (at_builtin; refine wpList_append_any _ rfl _ _ rfl elem_tast rfl (World.ownsRow_made w #[] 0 (Nat.le_refl _) (Nat.zero_le _) (by simp)) rfl (Reads.alloc HR.out (Nat.le_refl _) _) (tast_one l) (by unfold maxLen; omega) (by omega) (by simp) ?_)
  rintro A' cap' w' hown hg hA
  go_wp2
  go_ret
  have hB : Below w.heap.size w w' := ((Below.refl _ _).alloc (Nat.le_refl _) _).grown hg (by simp) (by intro k hk; simp at hk; omega)
  refine ⟨A', cap', by simp, by simpa using hown, ?_, hB⟩
  constructor
  ·intro h; cases h
  ·intro h
   rcases hA with hA | hA <;> rw [hA] at h <;> cases h

end Go.Proofs.Ythofngceiecniaa
/- mix.copied. -/
namespace Go.Proofs.Ythofngceiecniaa
open Go.RowKit

def Apart (A B : Option Addr) : Prop := ∀ a b, A = some a → B = some b → a.block ≠ b.block
theorem apart_new {w w' : World} {base base' n cap size n' cap' size' : Nat} {e e' : TypeId} {A B : Option Addr} {xs ys : List Value} (h : Own w base e size A n cap xs) (h' : Own w' base' e' size' B n' cap' ys) (hb : w.heap.size ≤ base') : Apart A B := by
 intro a b ha hb2
 have h1 := (h.lt ha).2
 have h2 := (h'.lt hb2).1
 omega
structure CpGh where
 A1 : Option Addr
 c1 : Nat
 A2 : Option Addr
 c2 : Nat
 A3 : Option Addr
 c3 : Nat
/-- Mixed water whose three slices the call owns, apart from each other. -/
structure MixOwn (w : World) (base : Nat) (A1 : Option Addr) (nv c1 : Nat) (A2 : Option Addr) (na c2 : Nat) (A3 : Option Addr) (nt c3 : Nat) (m : Mix) : Prop where
 v : Own w base 80 2 A1 nv c1 (m.vessels.flatMap Vess.vals)
 a : Own w base 67 4 A2 na c2 (m.acts.flatMap MAct.vals)
 t : Own w base 65 6 A3 nt c3 (m.tastes.flatMap Tast.vals)
 va : Apart A1 A2
 vt : Apart A1 A3
 at_ : Apart A2 A3
def CopiedOut (w : World) (nv na nt : Nat) (m : Mix) (e : Ending) (w' : World) : Prop :=
 ∃ A1 c1 A2 c2 A3 c3, e = .returned (.agg #[.int .i64 m.fountains, .slice A1 nv c1, .slice A2 na c2, .slice A3 nt c3]) ∧ MixOwn w' w.heap.size A1 nv c1 A2 na c2 A3 nt c3 m ∧ Below w.heap.size w w'
set_option maxRecDepth 100000 in
set_option maxHeartbeats 16000000 in
theorem copied_in (Av : Option Addr) (nv cv : Nat) (Aa : Option Addr) (na ca : Nat) (At : Option Addr) (nt ct : Nat) (m : Mix) (w : World) (h : MixS w Av nv Aa na At nt m) :
  CallsIn Fence.wide 9 Try.prog 76 #[.agg #[.int .i64 m.fountains, .slice Av nv cv, .slice Aa na ca, .slice At nt ct]] w (CopiedOut w nv na nt m) := by
 have HM := Lib.hid h
 clear h
 refine callsIn_of_wp Try.func76 rfl trivial ?_ rfl
 simp only [Try.ntmps76, List.size_toArray, List.length_cons, List.length_nil, Nat.reduceAdd, Nat.reduceSub, Array.replicate_succ, Array.replicate_zero, List.push_toArray, List.append_toArray, List.nil_append, List.cons_append]
 gi_wp2
 have HLay := Lib.hid (Lay.two w 26 #[.int .i64 m.fountains, .slice Av nv cv, .slice Aa na ca, .slice At nt ct] 26 #[.int .i64 0, .slice none 0 0, .slice none 0 0, .slice none 0 0])
 generalize ((w.alloc (.cells #[.int .i64 m.fountains, .slice Av nv cv, .slice Aa na ca, .slice At nt ct] 26)).alloc (.cells #[.int .i64 0, .slice none 0 0, .slice none 0 0, .slice none 0 0] 26)) = w0 at *
 have HB0 := Lib.hid HLay.out.1
 have HX0 := Lib.hid (HLay.out.blk 0 rfl)
 have HZ0 := Lib.hid (HLay.out.blk 1 rfl)
 clear HLay
 refine wpIn_region_stepsD (by kernel_rfl) (by kernel_rfl) (fun σ : CpGh × (Nat → Value) => { tmps := #[.agg #[.int .i64 m.fountains, .slice Av nv cv, .slice Aa na ca, .slice At nt ct], .pointer (some ⟨w.heap.size, 0, none⟩), .pointer (some ⟨w.heap.size + 1, 0, none⟩), σ.2 3, σ.2 4, σ.2 5, σ.2 6, σ.2 7, σ.2 8, σ.2 9, σ.2 10, σ.2 11, σ.2 12, σ.2 13, σ.2 14, undef], defers := [] })
  (fun L σ W => (Below w.heap.size w W) ∧ (L 10 = false → Blk W w.heap.size 26 #[.int .i64 m.fountains, .slice Av nv cv, .slice Aa na ca, .slice At nt ct]) ∧ (L 10 = true → L 12 = false → Blk W w.heap.size 26 #[.int .i64 m.fountains, .slice σ.1.A1 nv σ.1.c1, .slice Aa na ca, .slice At nt ct]) ∧ (L 12 = true → L 14 = false → Blk W w.heap.size 26 #[.int .i64 m.fountains, .slice σ.1.A1 nv σ.1.c1, .slice σ.1.A2 na σ.1.c2, .slice At nt ct]) ∧ (L 14 = true → Blk W w.heap.size 26 #[.int .i64 m.fountains, .slice σ.1.A1 nv σ.1.c1, .slice σ.1.A2 na σ.1.c2, .slice σ.1.A3 nt σ.1.c3]) ∧ (Blk W (w.heap.size + 1) 26 #[.int .i64 0, .slice none 0 0, .slice none 0 0, .slice none 0 0]) ∧ (L 2 = true → Own W (w.heap.size + 2) 80 2 σ.1.A1 nv σ.1.c1 (m.vessels.flatMap Vess.vals)) ∧ (L 5 = true → Own W (w.heap.size + 2) 67 4 σ.1.A2 na σ.1.c2 (m.acts.flatMap MAct.vals)) ∧ (L 8 = true → Own W (w.heap.size + 2) 65 6 σ.1.A3 nt σ.1.c3 (m.tastes.flatMap Tast.vals)) ∧ (L 2 = true → L 5 = true → Apart σ.1.A1 σ.1.A2) ∧ (L 2 = true → L 8 = true → Apart σ.1.A1 σ.1.A3) ∧ (L 5 = true → L 8 = true → Apart σ.1.A2 σ.1.A3) ∧ (L 0 = true → σ.2 3 = .pointer (some ⟨w.heap.size, 1, none⟩)) ∧ (L 1 = true → σ.2 4 = .slice Av nv cv) ∧ (L 2 = true → σ.2 5 = .slice σ.1.A1 nv σ.1.c1) ∧ (L 3 = true → σ.2 6 = .pointer (some ⟨w.heap.size, 2, none⟩)) ∧ (L 4 = true → σ.2 7 = .slice Aa na ca) ∧ (L 5 = true → σ.2 8 = .slice σ.1.A2 na σ.1.c2) ∧ (L 6 = true → σ.2 9 = .pointer (some ⟨w.heap.size, 3, none⟩)) ∧ (L 7 = true → σ.2 10 = .slice At nt ct) ∧ (L 8 = true → σ.2 11 = .slice σ.1.A3 nt σ.1.c3) ∧ (L 9 = true → σ.2 12 = .pointer (some ⟨w.heap.size, 1, none⟩)) ∧ (L 11 = true → σ.2 13 = .pointer (some ⟨w.heap.size, 2, none⟩)) ∧ (L 13 = true → σ.2 14 = .pointer (some ⟨w.heap.size, 3, none⟩)))
  (⟨none, 0, none, 0, none, 0⟩, fun k => undef) rfl ?_ ?_ ?_
 ·exact ⟨below_drewN HB0.out 1, (fun _ => HX0.out.drewN 1), (fun h => by cases h), (fun h => by cases h), (fun h => by cases h), HZ0.out.drewN 1, (fun h => by cases h), (fun h => by cases h), (fun h => by cases h), (fun h => by cases h), (fun h => by cases h), (fun h => by cases h), (fun h => by cases h), (fun h => by cases h), (fun h => by cases h), (fun h => by cases h), (fun h => by cases h), (fun h => by cases h), (fun h => by cases h), (fun h => by cases h), (fun h => by cases h), (fun h => by cases h), (fun h => by cases h), (fun h => by cases h)⟩
 ·refine ⟨?_, ?_, ?_, ?_, ?_, ?_, ?_, ?_, ?_, ?_, ?_, ?_, ?_, ?_, ?_, trivial⟩
  ·rintro L ⟨gh, s⟩ W hu hd hdn ⟨g1, m0, m1, m2, m3, gz, o1, o2, o3, d12, d13, d23, f0, f1, f2, f3, f4, f5, f6, f7, f8, f9, f11, f13⟩ K Q hK
   try dsimp only at g1 m0 m1 m2 m3 gz o1 o2 o3 d12 d13 d23 f0 f1 f2 f3 f4 f5 f6 f7 f8 f9 f11 f13 ⊢
   have hxl := HX0.out.lt
   have HF := Lib.hid (show (Below w.heap.size w W) ∧ (L 10 = false → Blk W w.heap.size 26 #[.int .i64 m.fountains, .slice Av nv cv, .slice Aa na ca, .slice At nt ct]) ∧ (L 10 = true → L 12 = false → Blk W w.heap.size 26 #[.int .i64 m.fountains, .slice gh.A1 nv gh.c1, .slice Aa na ca, .slice At nt ct]) ∧ (L 12 = true → L 14 = false → Blk W w.heap.size 26 #[.int .i64 m.fountains, .slice gh.A1 nv gh.c1, .slice gh.A2 na gh.c2, .slice At nt ct]) ∧ (L 14 = true → Blk W w.heap.size 26 #[.int .i64 m.fountains, .slice gh.A1 nv gh.c1, .slice gh.A2 na gh.c2, .slice gh.A3 nt gh.c3]) ∧ (Blk W (w.heap.size + 1) 26 #[.int .i64 0, .slice none 0 0, .slice none 0 0, .slice none 0 0]) ∧ (L 2 = true → Own W (w.heap.size + 2) 80 2 gh.A1 nv gh.c1 (m.vessels.flatMap Vess.vals)) ∧ (L 5 = true → Own W (w.heap.size + 2) 67 4 gh.A2 na gh.c2 (m.acts.flatMap MAct.vals)) ∧ (L 8 = true → Own W (w.heap.size + 2) 65 6 gh.A3 nt gh.c3 (m.tastes.flatMap Tast.vals)) ∧ (L 2 = true → L 5 = true → Apart gh.A1 gh.A2) ∧ (L 2 = true → L 8 = true → Apart gh.A1 gh.A3) ∧ (L 5 = true → L 8 = true → Apart gh.A2 gh.A3) ∧ (L 0 = true → s 3 = .pointer (some ⟨w.heap.size, 1, none⟩)) ∧ (L 1 = true → s 4 = .slice Av nv cv) ∧ (L 2 = true → s 5 = .slice gh.A1 nv gh.c1) ∧ (L 3 = true → s 6 = .pointer (some ⟨w.heap.size, 2, none⟩)) ∧ (L 4 = true → s 7 = .slice Aa na ca) ∧ (L 5 = true → s 8 = .slice gh.A2 na gh.c2) ∧ (L 6 = true → s 9 = .pointer (some ⟨w.heap.size, 3, none⟩)) ∧ (L 7 = true → s 10 = .slice At nt ct) ∧ (L 8 = true → s 11 = .slice gh.A3 nt gh.c3) ∧ (L 9 = true → s 12 = .pointer (some ⟨w.heap.size, 1, none⟩)) ∧ (L 11 = true → s 13 = .pointer (some ⟨w.heap.size, 2, none⟩)) ∧ (L 13 = true → s 14 = .pointer (some ⟨w.heap.size, 3, none⟩)) from ⟨g1, m0, m1, m2, m3, gz, o1, o2, o3, d12, d13, d23, f0, f1, f2, f3, f4, f5, f6, f7, f8, f9, f11, f13⟩)
   clear f13 f11 f9 f8 f7 f6 f5 f4 f3 f2 f1 f0 d23 d13 d12 o3 o2 o1 gz m3 m2 m1 m0 g1 hd
   try simp only
   gi_wp2
   obtain ⟨g1, m0, m1, m2, m3, gz, o1, o2, o3, d12, d13, d23, f0, f1, f2, f3, f4, f5, f6, f7, f8, f9, f11, f13⟩ := HF.out
   exact hK (gh, (upd s 3 (.pointer (some ⟨w.heap.size, 1, none⟩)))) _ ⟨g1, m0, m1, m2, m3, gz, o1, o2, o3, d12, d13, d23, (fun _ => rfl), f1, f2, f3, f4, f5, f6, f7, f8, f9, f11, f13⟩
  ·rintro L ⟨gh, s⟩ W hu hd hdn ⟨g1, m0, m1, m2, m3, gz, o1, o2, o3, d12, d13, d23, f0, f1, f2, f3, f4, f5, f6, f7, f8, f9, f11, f13⟩ K Q hK
   try dsimp only at g1 m0 m1 m2 m3 gz o1 o2 o3 d12 d13 d23 f0 f1 f2 f3 f4 f5 f6 f7 f8 f9 f11 f13 ⊢
   have e0 := f0 (hd.at_ 0 rfl)
   have h10 : L 10 = false := by
    cases hc : L 10 with
    | false => rfl
    | true => exact hdn.no 10 1 hc rfl hu
   have c0 : W.cell? ⟨w.heap.size, 1, none⟩ = some (.slice Av nv cv) := (m0 h10).cell 1
   have HF := Lib.hid (show (Below w.heap.size w W) ∧ (L 10 = false → Blk W w.heap.size 26 #[.int .i64 m.fountains, .slice Av nv cv, .slice Aa na ca, .slice At nt ct]) ∧ (L 10 = true → L 12 = false → Blk W w.heap.size 26 #[.int .i64 m.fountains, .slice gh.A1 nv gh.c1, .slice Aa na ca, .slice At nt ct]) ∧ (L 12 = true → L 14 = false → Blk W w.heap.size 26 #[.int .i64 m.fountains, .slice gh.A1 nv gh.c1, .slice gh.A2 na gh.c2, .slice At nt ct]) ∧ (L 14 = true → Blk W w.heap.size 26 #[.int .i64 m.fountains, .slice gh.A1 nv gh.c1, .slice gh.A2 na gh.c2, .slice gh.A3 nt gh.c3]) ∧ (Blk W (w.heap.size + 1) 26 #[.int .i64 0, .slice none 0 0, .slice none 0 0, .slice none 0 0]) ∧ (L 2 = true → Own W (w.heap.size + 2) 80 2 gh.A1 nv gh.c1 (m.vessels.flatMap Vess.vals)) ∧ (L 5 = true → Own W (w.heap.size + 2) 67 4 gh.A2 na gh.c2 (m.acts.flatMap MAct.vals)) ∧ (L 8 = true → Own W (w.heap.size + 2) 65 6 gh.A3 nt gh.c3 (m.tastes.flatMap Tast.vals)) ∧ (L 2 = true → L 5 = true → Apart gh.A1 gh.A2) ∧ (L 2 = true → L 8 = true → Apart gh.A1 gh.A3) ∧ (L 5 = true → L 8 = true → Apart gh.A2 gh.A3) ∧ (L 0 = true → s 3 = .pointer (some ⟨w.heap.size, 1, none⟩)) ∧ (L 1 = true → s 4 = .slice Av nv cv) ∧ (L 2 = true → s 5 = .slice gh.A1 nv gh.c1) ∧ (L 3 = true → s 6 = .pointer (some ⟨w.heap.size, 2, none⟩)) ∧ (L 4 = true → s 7 = .slice Aa na ca) ∧ (L 5 = true → s 8 = .slice gh.A2 na gh.c2) ∧ (L 6 = true → s 9 = .pointer (some ⟨w.heap.size, 3, none⟩)) ∧ (L 7 = true → s 10 = .slice At nt ct) ∧ (L 8 = true → s 11 = .slice gh.A3 nt gh.c3) ∧ (L 9 = true → s 12 = .pointer (some ⟨w.heap.size, 1, none⟩)) ∧ (L 11 = true → s 13 = .pointer (some ⟨w.heap.size, 2, none⟩)) ∧ (L 13 = true → s 14 = .pointer (some ⟨w.heap.size, 3, none⟩)) from ⟨g1, m0, m1, m2, m3, gz, o1, o2, o3, d12, d13, d23, f0, f1, f2, f3, f4, f5, f6, f7, f8, f9, f11, f13⟩)
   clear f13 f11 f9 f8 f7 f6 f5 f4 f3 f2 f1 f0 d23 d13 d12 o3 o2 o1 gz m3 m2 m1 m0 g1 hd
   try simp only at e0 ⊢
   gi_wp2
   obtain ⟨g1, m0, m1, m2, m3, gz, o1, o2, o3, d12, d13, d23, f0, f1, f2, f3, f4, f5, f6, f7, f8, f9, f11, f13⟩ := HF.out
   exact hK (gh, (upd (upd s 3 (.pointer (some ⟨w.heap.size, 1, none⟩))) 4 (.slice Av nv cv))) _ ⟨g1, m0, m1, m2, m3, gz, o1, o2, o3, d12, d13, d23, (fun _ => rfl), (fun _ => rfl), f2, f3, f4, f5, f6, f7, f8, f9, f11, f13⟩
  ·rintro L ⟨gh, s⟩ W hu hd hdn ⟨g1, m0, m1, m2, m3, gz, o1, o2, o3, d12, d13, d23, f0, f1, f2, f3, f4, f5, f6, f7, f8, f9, f11, f13⟩ K Q hK
   try dsimp only at g1 m0 m1 m2 m3 gz o1 o2 o3 d12 d13 d23 f0 f1 f2 f3 f4 f5 f6 f7 f8 f9 f11 f13 ⊢
   have e1 := f1 (hd.at_ 1 rfl)
   have h10 : L 10 = false := by
    cases hc : L 10 with
    | false => rfl
    | true => exact hdn.no 10 2 hc rfl hu
   have h12 : L 12 = false := by
    cases hc : L 12 with
    | false => rfl
    | true => exact hdn.no 12 2 hc rfl hu
   have h14 : L 14 = false := by
    cases hc : L 14 with
    | false => rfl
    | true => exact hdn.no 14 2 hc rfl hu
   have HG1 := Lib.hid g1
   have hW := gz.lt
   have HF := Lib.hid (show (Below w.heap.size w W) ∧ (L 10 = false → Blk W w.heap.size 26 #[.int .i64 m.fountains, .slice Av nv cv, .slice Aa na ca, .slice At nt ct]) ∧ (L 10 = true → L 12 = false → Blk W w.heap.size 26 #[.int .i64 m.fountains, .slice gh.A1 nv gh.c1, .slice Aa na ca, .slice At nt ct]) ∧ (L 12 = true → L 14 = false → Blk W w.heap.size 26 #[.int .i64 m.fountains, .slice gh.A1 nv gh.c1, .slice gh.A2 na gh.c2, .slice At nt ct]) ∧ (L 14 = true → Blk W w.heap.size 26 #[.int .i64 m.fountains, .slice gh.A1 nv gh.c1, .slice gh.A2 na gh.c2, .slice gh.A3 nt gh.c3]) ∧ (Blk W (w.heap.size + 1) 26 #[.int .i64 0, .slice none 0 0, .slice none 0 0, .slice none 0 0]) ∧ (L 2 = true → Own W (w.heap.size + 2) 80 2 gh.A1 nv gh.c1 (m.vessels.flatMap Vess.vals)) ∧ (L 5 = true → Own W (w.heap.size + 2) 67 4 gh.A2 na gh.c2 (m.acts.flatMap MAct.vals)) ∧ (L 8 = true → Own W (w.heap.size + 2) 65 6 gh.A3 nt gh.c3 (m.tastes.flatMap Tast.vals)) ∧ (L 2 = true → L 5 = true → Apart gh.A1 gh.A2) ∧ (L 2 = true → L 8 = true → Apart gh.A1 gh.A3) ∧ (L 5 = true → L 8 = true → Apart gh.A2 gh.A3) ∧ (L 0 = true → s 3 = .pointer (some ⟨w.heap.size, 1, none⟩)) ∧ (L 1 = true → s 4 = .slice Av nv cv) ∧ (L 2 = true → s 5 = .slice gh.A1 nv gh.c1) ∧ (L 3 = true → s 6 = .pointer (some ⟨w.heap.size, 2, none⟩)) ∧ (L 4 = true → s 7 = .slice Aa na ca) ∧ (L 5 = true → s 8 = .slice gh.A2 na gh.c2) ∧ (L 6 = true → s 9 = .pointer (some ⟨w.heap.size, 3, none⟩)) ∧ (L 7 = true → s 10 = .slice At nt ct) ∧ (L 8 = true → s 11 = .slice gh.A3 nt gh.c3) ∧ (L 9 = true → s 12 = .pointer (some ⟨w.heap.size, 1, none⟩)) ∧ (L 11 = true → s 13 = .pointer (some ⟨w.heap.size, 2, none⟩)) ∧ (L 13 = true → s 14 = .pointer (some ⟨w.heap.size, 3, none⟩)) from ⟨g1, m0, m1, m2, m3, gz, o1, o2, o3, d12, d13, d23, f0, f1, f2, f3, f4, f5, f6, f7, f8, f9, f11, f13⟩)
   clear f13 f11 f9 f8 f7 f6 f5 f4 f3 f2 f1 f0 d23 d13 d12 o3 o2 o1 gz m3 m2 m1 m0 g1 hd
   try simp only at e1 ⊢
   gi_wp2
   refine ⟨trivial, (callsIn_wide.2 (clone_vess Av nv cv m.vessels W ((HM.out.at_.up HG1.out).vessels) HM.out.hv)).mono ?_⟩
   rintro e W1 ⟨AN, cN, rfl, hP, -, hb⟩
   gi_wp2
   obtain ⟨g1, m0, m1, m2, m3, gz, o1, o2, o3, d12, d13, d23, f0, f1, f2, f3, f4, f5, f6, f7, f8, f9, f11, f13⟩ := HF.out
   have hO := hP.mono (show w.heap.size + 2 ≤ W.heap.size by omega)
   exact hK ({ gh with A1 := AN, c1 := cN }, (upd (upd s 4 (.slice Av nv cv)) 5 (.slice AN nv cN))) _ ⟨(g1.trans (hb.mono g1.size)), (fun h => (m0 h).below hb (m0 h).lt), (fun h => absurd (h10.symm.trans h) (by decide)), (fun h => absurd (h12.symm.trans h) (by decide)), (fun h => absurd (h14.symm.trans h) (by decide)), (gz.below hb gz.lt), (fun _ => hO), (fun h5 => hdn.no 5 2 h5 rfl hu), (fun h8 => hdn.no 5 2 (hdn.at_ 8 5 h8 rfl) rfl hu), (fun _ h5 => hdn.no 5 2 h5 rfl hu), (fun _ h8 => hdn.no 5 2 (hdn.at_ 8 5 h8 rfl) rfl hu), d23, f0, (fun _ => rfl), (fun _ => rfl), f3, f4, f5, f6, f7, f8, f9, f11, f13⟩
  ·rintro L ⟨gh, s⟩ W hu hd hdn ⟨g1, m0, m1, m2, m3, gz, o1, o2, o3, d12, d13, d23, f0, f1, f2, f3, f4, f5, f6, f7, f8, f9, f11, f13⟩ K Q hK
   try dsimp only at g1 m0 m1 m2 m3 gz o1 o2 o3 d12 d13 d23 f0 f1 f2 f3 f4 f5 f6 f7 f8 f9 f11 f13 ⊢
   have HF := Lib.hid (show (Below w.heap.size w W) ∧ (L 10 = false → Blk W w.heap.size 26 #[.int .i64 m.fountains, .slice Av nv cv, .slice Aa na ca, .slice At nt ct]) ∧ (L 10 = true → L 12 = false → Blk W w.heap.size 26 #[.int .i64 m.fountains, .slice gh.A1 nv gh.c1, .slice Aa na ca, .slice At nt ct]) ∧ (L 12 = true → L 14 = false → Blk W w.heap.size 26 #[.int .i64 m.fountains, .slice gh.A1 nv gh.c1, .slice gh.A2 na gh.c2, .slice At nt ct]) ∧ (L 14 = true → Blk W w.heap.size 26 #[.int .i64 m.fountains, .slice gh.A1 nv gh.c1, .slice gh.A2 na gh.c2, .slice gh.A3 nt gh.c3]) ∧ (Blk W (w.heap.size + 1) 26 #[.int .i64 0, .slice none 0 0, .slice none 0 0, .slice none 0 0]) ∧ (L 2 = true → Own W (w.heap.size + 2) 80 2 gh.A1 nv gh.c1 (m.vessels.flatMap Vess.vals)) ∧ (L 5 = true → Own W (w.heap.size + 2) 67 4 gh.A2 na gh.c2 (m.acts.flatMap MAct.vals)) ∧ (L 8 = true → Own W (w.heap.size + 2) 65 6 gh.A3 nt gh.c3 (m.tastes.flatMap Tast.vals)) ∧ (L 2 = true → L 5 = true → Apart gh.A1 gh.A2) ∧ (L 2 = true → L 8 = true → Apart gh.A1 gh.A3) ∧ (L 5 = true → L 8 = true → Apart gh.A2 gh.A3) ∧ (L 0 = true → s 3 = .pointer (some ⟨w.heap.size, 1, none⟩)) ∧ (L 1 = true → s 4 = .slice Av nv cv) ∧ (L 2 = true → s 5 = .slice gh.A1 nv gh.c1) ∧ (L 3 = true → s 6 = .pointer (some ⟨w.heap.size, 2, none⟩)) ∧ (L 4 = true → s 7 = .slice Aa na ca) ∧ (L 5 = true → s 8 = .slice gh.A2 na gh.c2) ∧ (L 6 = true → s 9 = .pointer (some ⟨w.heap.size, 3, none⟩)) ∧ (L 7 = true → s 10 = .slice At nt ct) ∧ (L 8 = true → s 11 = .slice gh.A3 nt gh.c3) ∧ (L 9 = true → s 12 = .pointer (some ⟨w.heap.size, 1, none⟩)) ∧ (L 11 = true → s 13 = .pointer (some ⟨w.heap.size, 2, none⟩)) ∧ (L 13 = true → s 14 = .pointer (some ⟨w.heap.size, 3, none⟩)) from ⟨g1, m0, m1, m2, m3, gz, o1, o2, o3, d12, d13, d23, f0, f1, f2, f3, f4, f5, f6, f7, f8, f9, f11, f13⟩)
   clear f13 f11 f9 f8 f7 f6 f5 f4 f3 f2 f1 f0 d23 d13 d12 o3 o2 o1 gz m3 m2 m1 m0 g1 hd
   try simp only
   gi_wp2
   obtain ⟨g1, m0, m1, m2, m3, gz, o1, o2, o3, d12, d13, d23, f0, f1, f2, f3, f4, f5, f6, f7, f8, f9, f11, f13⟩ := HF.out
   exact hK (gh, (upd s 6 (.pointer (some ⟨w.heap.size, 2, none⟩)))) _ ⟨g1, m0, m1, m2, m3, gz, o1, o2, o3, d12, d13, d23, f0, f1, f2, (fun _ => rfl), f4, f5, f6, f7, f8, f9, f11, f13⟩
  ·rintro L ⟨gh, s⟩ W hu hd hdn ⟨g1, m0, m1, m2, m3, gz, o1, o2, o3, d12, d13, d23, f0, f1, f2, f3, f4, f5, f6, f7, f8, f9, f11, f13⟩ K Q hK
   try dsimp only at g1 m0 m1 m2 m3 gz o1 o2 o3 d12 d13 d23 f0 f1 f2 f3 f4 f5 f6 f7 f8 f9 f11 f13 ⊢
   have e3 := f3 (hd.at_ 3 rfl)
   have h10 : L 10 = false := by
    cases hc : L 10 with
    | false => rfl
    | true => exact hdn.no 10 4 hc rfl hu
   have c0 : W.cell? ⟨w.heap.size, 2, none⟩ = some (.slice Aa na ca) := (m0 h10).cell 2
   have HF := Lib.hid (show (Below w.heap.size w W) ∧ (L 10 = false → Blk W w.heap.size 26 #[.int .i64 m.fountains, .slice Av nv cv, .slice Aa na ca, .slice At nt ct]) ∧ (L 10 = true → L 12 = false → Blk W w.heap.size 26 #[.int .i64 m.fountains, .slice gh.A1 nv gh.c1, .slice Aa na ca, .slice At nt ct]) ∧ (L 12 = true → L 14 = false → Blk W w.heap.size 26 #[.int .i64 m.fountains, .slice gh.A1 nv gh.c1, .slice gh.A2 na gh.c2, .slice At nt ct]) ∧ (L 14 = true → Blk W w.heap.size 26 #[.int .i64 m.fountains, .slice gh.A1 nv gh.c1, .slice gh.A2 na gh.c2, .slice gh.A3 nt gh.c3]) ∧ (Blk W (w.heap.size + 1) 26 #[.int .i64 0, .slice none 0 0, .slice none 0 0, .slice none 0 0]) ∧ (L 2 = true → Own W (w.heap.size + 2) 80 2 gh.A1 nv gh.c1 (m.vessels.flatMap Vess.vals)) ∧ (L 5 = true → Own W (w.heap.size + 2) 67 4 gh.A2 na gh.c2 (m.acts.flatMap MAct.vals)) ∧ (L 8 = true → Own W (w.heap.size + 2) 65 6 gh.A3 nt gh.c3 (m.tastes.flatMap Tast.vals)) ∧ (L 2 = true → L 5 = true → Apart gh.A1 gh.A2) ∧ (L 2 = true → L 8 = true → Apart gh.A1 gh.A3) ∧ (L 5 = true → L 8 = true → Apart gh.A2 gh.A3) ∧ (L 0 = true → s 3 = .pointer (some ⟨w.heap.size, 1, none⟩)) ∧ (L 1 = true → s 4 = .slice Av nv cv) ∧ (L 2 = true → s 5 = .slice gh.A1 nv gh.c1) ∧ (L 3 = true → s 6 = .pointer (some ⟨w.heap.size, 2, none⟩)) ∧ (L 4 = true → s 7 = .slice Aa na ca) ∧ (L 5 = true → s 8 = .slice gh.A2 na gh.c2) ∧ (L 6 = true → s 9 = .pointer (some ⟨w.heap.size, 3, none⟩)) ∧ (L 7 = true → s 10 = .slice At nt ct) ∧ (L 8 = true → s 11 = .slice gh.A3 nt gh.c3) ∧ (L 9 = true → s 12 = .pointer (some ⟨w.heap.size, 1, none⟩)) ∧ (L 11 = true → s 13 = .pointer (some ⟨w.heap.size, 2, none⟩)) ∧ (L 13 = true → s 14 = .pointer (some ⟨w.heap.size, 3, none⟩)) from ⟨g1, m0, m1, m2, m3, gz, o1, o2, o3, d12, d13, d23, f0, f1, f2, f3, f4, f5, f6, f7, f8, f9, f11, f13⟩)
   clear f13 f11 f9 f8 f7 f6 f5 f4 f3 f2 f1 f0 d23 d13 d12 o3 o2 o1 gz m3 m2 m1 m0 g1 hd
   try simp only at e3 ⊢
   gi_wp2
   obtain ⟨g1, m0, m1, m2, m3, gz, o1, o2, o3, d12, d13, d23, f0, f1, f2, f3, f4, f5, f6, f7, f8, f9, f11, f13⟩ := HF.out
   exact hK (gh, (upd (upd s 6 (.pointer (some ⟨w.heap.size, 2, none⟩))) 7 (.slice Aa na ca))) _ ⟨g1, m0, m1, m2, m3, gz, o1, o2, o3, d12, d13, d23, f0, f1, f2, (fun _ => rfl), (fun _ => rfl), f5, f6, f7, f8, f9, f11, f13⟩
  ·rintro L ⟨gh, s⟩ W hu hd hdn ⟨g1, m0, m1, m2, m3, gz, o1, o2, o3, d12, d13, d23, f0, f1, f2, f3, f4, f5, f6, f7, f8, f9, f11, f13⟩ K Q hK
   try dsimp only at g1 m0 m1 m2 m3 gz o1 o2 o3 d12 d13 d23 f0 f1 f2 f3 f4 f5 f6 f7 f8 f9 f11 f13 ⊢
   have e4 := f4 (hd.at_ 4 rfl)
   have d2 := hd.at_ 2 rfl
   have h10 : L 10 = false := by
    cases hc : L 10 with
    | false => rfl
    | true => exact hdn.no 8 5 (hdn.at_ 10 8 hc rfl) rfl hu
   have h12 : L 12 = false := by
    cases hc : L 12 with
    | false => rfl
    | true => exact hdn.no 12 5 hc rfl hu
   have h14 : L 14 = false := by
    cases hc : L 14 with
    | false => rfl
    | true => exact hdn.no 14 5 hc rfl hu
   have HG1 := Lib.hid g1
   have hW := gz.lt
   have HF := Lib.hid (show (Below w.heap.size w W) ∧ (L 10 = false → Blk W w.heap.size 26 #[.int .i64 m.fountains, .slice Av nv cv, .slice Aa na ca, .slice At nt ct]) ∧ (L 10 = true → L 12 = false → Blk W w.heap.size 26 #[.int .i64 m.fountains, .slice gh.A1 nv gh.c1, .slice Aa na ca, .slice At nt ct]) ∧ (L 12 = true → L 14 = false → Blk W w.heap.size 26 #[.int .i64 m.fountains, .slice gh.A1 nv gh.c1, .slice gh.A2 na gh.c2, .slice At nt ct]) ∧ (L 14 = true → Blk W w.heap.size 26 #[.int .i64 m.fountains, .slice gh.A1 nv gh.c1, .slice gh.A2 na gh.c2, .slice gh.A3 nt gh.c3]) ∧ (Blk W (w.heap.size + 1) 26 #[.int .i64 0, .slice none 0 0, .slice none 0 0, .slice none 0 0]) ∧ (L 2 = true → Own W (w.heap.size + 2) 80 2 gh.A1 nv gh.c1 (m.vessels.flatMap Vess.vals)) ∧ (L 5 = true → Own W (w.heap.size + 2) 67 4 gh.A2 na gh.c2 (m.acts.flatMap MAct.vals)) ∧ (L 8 = true → Own W (w.heap.size + 2) 65 6 gh.A3 nt gh.c3 (m.tastes.flatMap Tast.vals)) ∧ (L 2 = true → L 5 = true → Apart gh.A1 gh.A2) ∧ (L 2 = true → L 8 = true → Apart gh.A1 gh.A3) ∧ (L 5 = true → L 8 = true → Apart gh.A2 gh.A3) ∧ (L 0 = true → s 3 = .pointer (some ⟨w.heap.size, 1, none⟩)) ∧ (L 1 = true → s 4 = .slice Av nv cv) ∧ (L 2 = true → s 5 = .slice gh.A1 nv gh.c1) ∧ (L 3 = true → s 6 = .pointer (some ⟨w.heap.size, 2, none⟩)) ∧ (L 4 = true → s 7 = .slice Aa na ca) ∧ (L 5 = true → s 8 = .slice gh.A2 na gh.c2) ∧ (L 6 = true → s 9 = .pointer (some ⟨w.heap.size, 3, none⟩)) ∧ (L 7 = true → s 10 = .slice At nt ct) ∧ (L 8 = true → s 11 = .slice gh.A3 nt gh.c3) ∧ (L 9 = true → s 12 = .pointer (some ⟨w.heap.size, 1, none⟩)) ∧ (L 11 = true → s 13 = .pointer (some ⟨w.heap.size, 2, none⟩)) ∧ (L 13 = true → s 14 = .pointer (some ⟨w.heap.size, 3, none⟩)) from ⟨g1, m0, m1, m2, m3, gz, o1, o2, o3, d12, d13, d23, f0, f1, f2, f3, f4, f5, f6, f7, f8, f9, f11, f13⟩)
   clear f13 f11 f9 f8 f7 f6 f5 f4 f3 f2 f1 f0 d23 d13 d12 o3 o2 o1 gz m3 m2 m1 m0 g1 hd
   try simp only at e4 ⊢
   gi_wp2
   refine ⟨trivial, (callsIn_wide.2 (clone_act Aa na ca m.acts W ((HM.out.at_.up HG1.out).acts) HM.out.ha)).mono ?_⟩
   rintro e W1 ⟨AN, cN, rfl, hP, -, hb⟩
   gi_wp2
   obtain ⟨g1, m0, m1, m2, m3, gz, o1, o2, o3, d12, d13, d23, f0, f1, f2, f3, f4, f5, f6, f7, f8, f9, f11, f13⟩ := HF.out
   have hO := hP.mono (show w.heap.size + 2 ≤ W.heap.size by omega)
   exact hK ({ gh with A2 := AN, c2 := cN }, (upd (upd s 7 (.slice Aa na ca)) 8 (.slice AN na cN))) _ ⟨(g1.trans (hb.mono g1.size)), (fun h => (m0 h).below hb (m0 h).lt), (fun h => absurd (h10.symm.trans h) (by decide)), (fun h => absurd (h12.symm.trans h) (by decide)), (fun h => absurd (h14.symm.trans h) (by decide)), (gz.below hb gz.lt), (fun h => (o1 h).below hb (Nat.le_refl _)), (fun _ => hO), (fun h8 => hdn.no 8 5 h8 rfl hu), (fun h2 _ => apart_new (o1 h2) hP (Nat.le_refl _)), d13, (fun _ h8 => hdn.no 8 5 h8 rfl hu), f0, f1, f2, f3, (fun _ => rfl), (fun _ => rfl), f6, f7, f8, f9, f11, f13⟩
  ·rintro L ⟨gh, s⟩ W hu hd hdn ⟨g1, m0, m1, m2, m3, gz, o1, o2, o3, d12, d13, d23, f0, f1, f2, f3, f4, f5, f6, f7, f8, f9, f11, f13⟩ K Q hK
   try dsimp only at g1 m0 m1 m2 m3 gz o1 o2 o3 d12 d13 d23 f0 f1 f2 f3 f4 f5 f6 f7 f8 f9 f11 f13 ⊢
   have HF := Lib.hid (show (Below w.heap.size w W) ∧ (L 10 = false → Blk W w.heap.size 26 #[.int .i64 m.fountains, .slice Av nv cv, .slice Aa na ca, .slice At nt ct]) ∧ (L 10 = true → L 12 = false → Blk W w.heap.size 26 #[.int .i64 m.fountains, .slice gh.A1 nv gh.c1, .slice Aa na ca, .slice At nt ct]) ∧ (L 12 = true → L 14 = false → Blk W w.heap.size 26 #[.int .i64 m.fountains, .slice gh.A1 nv gh.c1, .slice gh.A2 na gh.c2, .slice At nt ct]) ∧ (L 14 = true → Blk W w.heap.size 26 #[.int .i64 m.fountains, .slice gh.A1 nv gh.c1, .slice gh.A2 na gh.c2, .slice gh.A3 nt gh.c3]) ∧ (Blk W (w.heap.size + 1) 26 #[.int .i64 0, .slice none 0 0, .slice none 0 0, .slice none 0 0]) ∧ (L 2 = true → Own W (w.heap.size + 2) 80 2 gh.A1 nv gh.c1 (m.vessels.flatMap Vess.vals)) ∧ (L 5 = true → Own W (w.heap.size + 2) 67 4 gh.A2 na gh.c2 (m.acts.flatMap MAct.vals)) ∧ (L 8 = true → Own W (w.heap.size + 2) 65 6 gh.A3 nt gh.c3 (m.tastes.flatMap Tast.vals)) ∧ (L 2 = true → L 5 = true → Apart gh.A1 gh.A2) ∧ (L 2 = true → L 8 = true → Apart gh.A1 gh.A3) ∧ (L 5 = true → L 8 = true → Apart gh.A2 gh.A3) ∧ (L 0 = true → s 3 = .pointer (some ⟨w.heap.size, 1, none⟩)) ∧ (L 1 = true → s 4 = .slice Av nv cv) ∧ (L 2 = true → s 5 = .slice gh.A1 nv gh.c1) ∧ (L 3 = true → s 6 = .pointer (some ⟨w.heap.size, 2, none⟩)) ∧ (L 4 = true → s 7 = .slice Aa na ca) ∧ (L 5 = true → s 8 = .slice gh.A2 na gh.c2) ∧ (L 6 = true → s 9 = .pointer (some ⟨w.heap.size, 3, none⟩)) ∧ (L 7 = true → s 10 = .slice At nt ct) ∧ (L 8 = true → s 11 = .slice gh.A3 nt gh.c3) ∧ (L 9 = true → s 12 = .pointer (some ⟨w.heap.size, 1, none⟩)) ∧ (L 11 = true → s 13 = .pointer (some ⟨w.heap.size, 2, none⟩)) ∧ (L 13 = true → s 14 = .pointer (some ⟨w.heap.size, 3, none⟩)) from ⟨g1, m0, m1, m2, m3, gz, o1, o2, o3, d12, d13, d23, f0, f1, f2, f3, f4, f5, f6, f7, f8, f9, f11, f13⟩)
   clear f13 f11 f9 f8 f7 f6 f5 f4 f3 f2 f1 f0 d23 d13 d12 o3 o2 o1 gz m3 m2 m1 m0 g1 hd
   try simp only
   gi_wp2
   obtain ⟨g1, m0, m1, m2, m3, gz, o1, o2, o3, d12, d13, d23, f0, f1, f2, f3, f4, f5, f6, f7, f8, f9, f11, f13⟩ := HF.out
   exact hK (gh, (upd s 9 (.pointer (some ⟨w.heap.size, 3, none⟩)))) _ ⟨g1, m0, m1, m2, m3, gz, o1, o2, o3, d12, d13, d23, f0, f1, f2, f3, f4, f5, (fun _ => rfl), f7, f8, f9, f11, f13⟩
  ·rintro L ⟨gh, s⟩ W hu hd hdn ⟨g1, m0, m1, m2, m3, gz, o1, o2, o3, d12, d13, d23, f0, f1, f2, f3, f4, f5, f6, f7, f8, f9, f11, f13⟩ K Q hK
   try dsimp only at g1 m0 m1 m2 m3 gz o1 o2 o3 d12 d13 d23 f0 f1 f2 f3 f4 f5 f6 f7 f8 f9 f11 f13 ⊢
   have e6 := f6 (hd.at_ 6 rfl)
   have h10 : L 10 = false := by
    cases hc : L 10 with
    | false => rfl
    | true => exact hdn.no 10 7 hc rfl hu
   have c0 : W.cell? ⟨w.heap.size, 3, none⟩ = some (.slice At nt ct) := (m0 h10).cell 3
   have HF := Lib.hid (show (Below w.heap.size w W) ∧ (L 10 = false → Blk W w.heap.size 26 #[.int .i64 m.fountains, .slice Av nv cv, .slice Aa na ca, .slice At nt ct]) ∧ (L 10 = true → L 12 = false → Blk W w.heap.size 26 #[.int .i64 m.fountains, .slice gh.A1 nv gh.c1, .slice Aa na ca, .slice At nt ct]) ∧ (L 12 = true → L 14 = false → Blk W w.heap.size 26 #[.int .i64 m.fountains, .slice gh.A1 nv gh.c1, .slice gh.A2 na gh.c2, .slice At nt ct]) ∧ (L 14 = true → Blk W w.heap.size 26 #[.int .i64 m.fountains, .slice gh.A1 nv gh.c1, .slice gh.A2 na gh.c2, .slice gh.A3 nt gh.c3]) ∧ (Blk W (w.heap.size + 1) 26 #[.int .i64 0, .slice none 0 0, .slice none 0 0, .slice none 0 0]) ∧ (L 2 = true → Own W (w.heap.size + 2) 80 2 gh.A1 nv gh.c1 (m.vessels.flatMap Vess.vals)) ∧ (L 5 = true → Own W (w.heap.size + 2) 67 4 gh.A2 na gh.c2 (m.acts.flatMap MAct.vals)) ∧ (L 8 = true → Own W (w.heap.size + 2) 65 6 gh.A3 nt gh.c3 (m.tastes.flatMap Tast.vals)) ∧ (L 2 = true → L 5 = true → Apart gh.A1 gh.A2) ∧ (L 2 = true → L 8 = true → Apart gh.A1 gh.A3) ∧ (L 5 = true → L 8 = true → Apart gh.A2 gh.A3) ∧ (L 0 = true → s 3 = .pointer (some ⟨w.heap.size, 1, none⟩)) ∧ (L 1 = true → s 4 = .slice Av nv cv) ∧ (L 2 = true → s 5 = .slice gh.A1 nv gh.c1) ∧ (L 3 = true → s 6 = .pointer (some ⟨w.heap.size, 2, none⟩)) ∧ (L 4 = true → s 7 = .slice Aa na ca) ∧ (L 5 = true → s 8 = .slice gh.A2 na gh.c2) ∧ (L 6 = true → s 9 = .pointer (some ⟨w.heap.size, 3, none⟩)) ∧ (L 7 = true → s 10 = .slice At nt ct) ∧ (L 8 = true → s 11 = .slice gh.A3 nt gh.c3) ∧ (L 9 = true → s 12 = .pointer (some ⟨w.heap.size, 1, none⟩)) ∧ (L 11 = true → s 13 = .pointer (some ⟨w.heap.size, 2, none⟩)) ∧ (L 13 = true → s 14 = .pointer (some ⟨w.heap.size, 3, none⟩)) from ⟨g1, m0, m1, m2, m3, gz, o1, o2, o3, d12, d13, d23, f0, f1, f2, f3, f4, f5, f6, f7, f8, f9, f11, f13⟩)
   clear f13 f11 f9 f8 f7 f6 f5 f4 f3 f2 f1 f0 d23 d13 d12 o3 o2 o1 gz m3 m2 m1 m0 g1 hd
   try simp only at e6 ⊢
   gi_wp2
   obtain ⟨g1, m0, m1, m2, m3, gz, o1, o2, o3, d12, d13, d23, f0, f1, f2, f3, f4, f5, f6, f7, f8, f9, f11, f13⟩ := HF.out
   exact hK (gh, (upd (upd s 9 (.pointer (some ⟨w.heap.size, 3, none⟩))) 10 (.slice At nt ct))) _ ⟨g1, m0, m1, m2, m3, gz, o1, o2, o3, d12, d13, d23, f0, f1, f2, f3, f4, f5, (fun _ => rfl), (fun _ => rfl), f8, f9, f11, f13⟩
  ·rintro L ⟨gh, s⟩ W hu hd hdn ⟨g1, m0, m1, m2, m3, gz, o1, o2, o3, d12, d13, d23, f0, f1, f2, f3, f4, f5, f6, f7, f8, f9, f11, f13⟩ K Q hK
   try dsimp only at g1 m0 m1 m2 m3 gz o1 o2 o3 d12 d13 d23 f0 f1 f2 f3 f4 f5 f6 f7 f8 f9 f11 f13 ⊢
   have e7 := f7 (hd.at_ 7 rfl)
   have d5 := hd.at_ 5 rfl
   have h10 : L 10 = false := by
    cases hc : L 10 with
    | false => rfl
    | true => exact hdn.no 10 8 hc rfl hu
   have h12 : L 12 = false := by
    cases hc : L 12 with
    | false => rfl
    | true => exact hdn.no 10 8 (hdn.at_ 12 10 hc rfl) rfl hu
   have h14 : L 14 = false := by
    cases hc : L 14 with
    | false => rfl
    | true => exact hdn.no 14 8 hc rfl hu
   have HG1 := Lib.hid g1
   have hW := gz.lt
   have HF := Lib.hid (show (Below w.heap.size w W) ∧ (L 10 = false → Blk W w.heap.size 26 #[.int .i64 m.fountains, .slice Av nv cv, .slice Aa na ca, .slice At nt ct]) ∧ (L 10 = true → L 12 = false → Blk W w.heap.size 26 #[.int .i64 m.fountains, .slice gh.A1 nv gh.c1, .slice Aa na ca, .slice At nt ct]) ∧ (L 12 = true → L 14 = false → Blk W w.heap.size 26 #[.int .i64 m.fountains, .slice gh.A1 nv gh.c1, .slice gh.A2 na gh.c2, .slice At nt ct]) ∧ (L 14 = true → Blk W w.heap.size 26 #[.int .i64 m.fountains, .slice gh.A1 nv gh.c1, .slice gh.A2 na gh.c2, .slice gh.A3 nt gh.c3]) ∧ (Blk W (w.heap.size + 1) 26 #[.int .i64 0, .slice none 0 0, .slice none 0 0, .slice none 0 0]) ∧ (L 2 = true → Own W (w.heap.size + 2) 80 2 gh.A1 nv gh.c1 (m.vessels.flatMap Vess.vals)) ∧ (L 5 = true → Own W (w.heap.size + 2) 67 4 gh.A2 na gh.c2 (m.acts.flatMap MAct.vals)) ∧ (L 8 = true → Own W (w.heap.size + 2) 65 6 gh.A3 nt gh.c3 (m.tastes.flatMap Tast.vals)) ∧ (L 2 = true → L 5 = true → Apart gh.A1 gh.A2) ∧ (L 2 = true → L 8 = true → Apart gh.A1 gh.A3) ∧ (L 5 = true → L 8 = true → Apart gh.A2 gh.A3) ∧ (L 0 = true → s 3 = .pointer (some ⟨w.heap.size, 1, none⟩)) ∧ (L 1 = true → s 4 = .slice Av nv cv) ∧ (L 2 = true → s 5 = .slice gh.A1 nv gh.c1) ∧ (L 3 = true → s 6 = .pointer (some ⟨w.heap.size, 2, none⟩)) ∧ (L 4 = true → s 7 = .slice Aa na ca) ∧ (L 5 = true → s 8 = .slice gh.A2 na gh.c2) ∧ (L 6 = true → s 9 = .pointer (some ⟨w.heap.size, 3, none⟩)) ∧ (L 7 = true → s 10 = .slice At nt ct) ∧ (L 8 = true → s 11 = .slice gh.A3 nt gh.c3) ∧ (L 9 = true → s 12 = .pointer (some ⟨w.heap.size, 1, none⟩)) ∧ (L 11 = true → s 13 = .pointer (some ⟨w.heap.size, 2, none⟩)) ∧ (L 13 = true → s 14 = .pointer (some ⟨w.heap.size, 3, none⟩)) from ⟨g1, m0, m1, m2, m3, gz, o1, o2, o3, d12, d13, d23, f0, f1, f2, f3, f4, f5, f6, f7, f8, f9, f11, f13⟩)
   clear f13 f11 f9 f8 f7 f6 f5 f4 f3 f2 f1 f0 d23 d13 d12 o3 o2 o1 gz m3 m2 m1 m0 g1 hd
   try simp only at e7 ⊢
   gi_wp2
   refine ⟨trivial, (callsIn_wide.2 (clone_tast At nt ct m.tastes W ((HM.out.at_.up HG1.out).tastes) HM.out.ht)).mono ?_⟩
   rintro e W1 ⟨AN, cN, rfl, hP, -, hb⟩
   gi_wp2
   obtain ⟨g1, m0, m1, m2, m3, gz, o1, o2, o3, d12, d13, d23, f0, f1, f2, f3, f4, f5, f6, f7, f8, f9, f11, f13⟩ := HF.out
   have hO := hP.mono (show w.heap.size + 2 ≤ W.heap.size by omega)
   exact hK ({ gh with A3 := AN, c3 := cN }, (upd (upd s 10 (.slice At nt ct)) 11 (.slice AN nt cN))) _ ⟨(g1.trans (hb.mono g1.size)), (fun h => (m0 h).below hb (m0 h).lt), (fun h => absurd (h10.symm.trans h) (by decide)), (fun h => absurd (h12.symm.trans h) (by decide)), (fun h => absurd (h14.symm.trans h) (by decide)), (gz.below hb gz.lt), (fun h => (o1 h).below hb (Nat.le_refl _)), (fun h => (o2 h).below hb (Nat.le_refl _)), (fun _ => hO), d12, (fun h2 _ => apart_new (o1 h2) hP (Nat.le_refl _)), (fun h5 _ => apart_new (o2 h5) hP (Nat.le_refl _)), f0, f1, f2, f3, f4, f5, f6, (fun _ => rfl), (fun _ => rfl), f9, f11, f13⟩
  ·rintro L ⟨gh, s⟩ W hu hd hdn ⟨g1, m0, m1, m2, m3, gz, o1, o2, o3, d12, d13, d23, f0, f1, f2, f3, f4, f5, f6, f7, f8, f9, f11, f13⟩ K Q hK
   try dsimp only at g1 m0 m1 m2 m3 gz o1 o2 o3 d12 d13 d23 f0 f1 f2 f3 f4 f5 f6 f7 f8 f9 f11 f13 ⊢
   have HF := Lib.hid (show (Below w.heap.size w W) ∧ (L 10 = false → Blk W w.heap.size 26 #[.int .i64 m.fountains, .slice Av nv cv, .slice Aa na ca, .slice At nt ct]) ∧ (L 10 = true → L 12 = false → Blk W w.heap.size 26 #[.int .i64 m.fountains, .slice gh.A1 nv gh.c1, .slice Aa na ca, .slice At nt ct]) ∧ (L 12 = true → L 14 = false → Blk W w.heap.size 26 #[.int .i64 m.fountains, .slice gh.A1 nv gh.c1, .slice gh.A2 na gh.c2, .slice At nt ct]) ∧ (L 14 = true → Blk W w.heap.size 26 #[.int .i64 m.fountains, .slice gh.A1 nv gh.c1, .slice gh.A2 na gh.c2, .slice gh.A3 nt gh.c3]) ∧ (Blk W (w.heap.size + 1) 26 #[.int .i64 0, .slice none 0 0, .slice none 0 0, .slice none 0 0]) ∧ (L 2 = true → Own W (w.heap.size + 2) 80 2 gh.A1 nv gh.c1 (m.vessels.flatMap Vess.vals)) ∧ (L 5 = true → Own W (w.heap.size + 2) 67 4 gh.A2 na gh.c2 (m.acts.flatMap MAct.vals)) ∧ (L 8 = true → Own W (w.heap.size + 2) 65 6 gh.A3 nt gh.c3 (m.tastes.flatMap Tast.vals)) ∧ (L 2 = true → L 5 = true → Apart gh.A1 gh.A2) ∧ (L 2 = true → L 8 = true → Apart gh.A1 gh.A3) ∧ (L 5 = true → L 8 = true → Apart gh.A2 gh.A3) ∧ (L 0 = true → s 3 = .pointer (some ⟨w.heap.size, 1, none⟩)) ∧ (L 1 = true → s 4 = .slice Av nv cv) ∧ (L 2 = true → s 5 = .slice gh.A1 nv gh.c1) ∧ (L 3 = true → s 6 = .pointer (some ⟨w.heap.size, 2, none⟩)) ∧ (L 4 = true → s 7 = .slice Aa na ca) ∧ (L 5 = true → s 8 = .slice gh.A2 na gh.c2) ∧ (L 6 = true → s 9 = .pointer (some ⟨w.heap.size, 3, none⟩)) ∧ (L 7 = true → s 10 = .slice At nt ct) ∧ (L 8 = true → s 11 = .slice gh.A3 nt gh.c3) ∧ (L 9 = true → s 12 = .pointer (some ⟨w.heap.size, 1, none⟩)) ∧ (L 11 = true → s 13 = .pointer (some ⟨w.heap.size, 2, none⟩)) ∧ (L 13 = true → s 14 = .pointer (some ⟨w.heap.size, 3, none⟩)) from ⟨g1, m0, m1, m2, m3, gz, o1, o2, o3, d12, d13, d23, f0, f1, f2, f3, f4, f5, f6, f7, f8, f9, f11, f13⟩)
   clear f13 f11 f9 f8 f7 f6 f5 f4 f3 f2 f1 f0 d23 d13 d12 o3 o2 o1 gz m3 m2 m1 m0 g1 hd
   try simp only
   gi_wp2
   obtain ⟨g1, m0, m1, m2, m3, gz, o1, o2, o3, d12, d13, d23, f0, f1, f2, f3, f4, f5, f6, f7, f8, f9, f11, f13⟩ := HF.out
   exact hK (gh, (upd s 12 (.pointer (some ⟨w.heap.size, 1, none⟩)))) _ ⟨g1, m0, m1, m2, m3, gz, o1, o2, o3, d12, d13, d23, f0, f1, f2, f3, f4, f5, f6, f7, f8, (fun _ => rfl), f11, f13⟩
  ·rintro L ⟨gh, s⟩ W hu hd hdn ⟨g1, m0, m1, m2, m3, gz, o1, o2, o3, d12, d13, d23, f0, f1, f2, f3, f4, f5, f6, f7, f8, f9, f11, f13⟩ K Q hK
   try dsimp only at g1 m0 m1 m2 m3 gz o1 o2 o3 d12 d13 d23 f0 f1 f2 f3 f4 f5 f6 f7 f8 f9 f11 f13 ⊢
   have e9 := f9 (hd.at_ 9 rfl)
   have e2 := f2 (hd.at_ 2 rfl)
   have d2 := hd.at_ 2 rfl
   have MB := m0 hu
   have y0 := MB.cell 0
   have z0 := MB.frozen 0
   have y1 := MB.cell 1
   have z1 := MB.frozen 1
   have y2 := MB.cell 2
   have z2 := MB.frozen 2
   have y3 := MB.cell 3
   have z3 := MB.frozen 3
   have rl := MB.lt
   have HMB := Lib.hid MB
   clear MB
   have HW2 := Lib.hid d2
   clear d2
   have HF := Lib.hid (show (Below w.heap.size w W) ∧ (L 10 = false → Blk W w.heap.size 26 #[.int .i64 m.fountains, .slice Av nv cv, .slice Aa na ca, .slice At nt ct]) ∧ (L 10 = true → L 12 = false → Blk W w.heap.size 26 #[.int .i64 m.fountains, .slice gh.A1 nv gh.c1, .slice Aa na ca, .slice At nt ct]) ∧ (L 12 = true → L 14 = false → Blk W w.heap.size 26 #[.int .i64 m.fountains, .slice gh.A1 nv gh.c1, .slice gh.A2 na gh.c2, .slice At nt ct]) ∧ (L 14 = true → Blk W w.heap.size 26 #[.int .i64 m.fountains, .slice gh.A1 nv gh.c1, .slice gh.A2 na gh.c2, .slice gh.A3 nt gh.c3]) ∧ (Blk W (w.heap.size + 1) 26 #[.int .i64 0, .slice none 0 0, .slice none 0 0, .slice none 0 0]) ∧ (L 2 = true → Own W (w.heap.size + 2) 80 2 gh.A1 nv gh.c1 (m.vessels.flatMap Vess.vals)) ∧ (L 5 = true → Own W (w.heap.size + 2) 67 4 gh.A2 na gh.c2 (m.acts.flatMap MAct.vals)) ∧ (L 8 = true → Own W (w.heap.size + 2) 65 6 gh.A3 nt gh.c3 (m.tastes.flatMap Tast.vals)) ∧ (L 2 = true → L 5 = true → Apart gh.A1 gh.A2) ∧ (L 2 = true → L 8 = true → Apart gh.A1 gh.A3) ∧ (L 5 = true → L 8 = true → Apart gh.A2 gh.A3) ∧ (L 0 = true → s 3 = .pointer (some ⟨w.heap.size, 1, none⟩)) ∧ (L 1 = true → s 4 = .slice Av nv cv) ∧ (L 2 = true → s 5 = .slice gh.A1 nv gh.c1) ∧ (L 3 = true → s 6 = .pointer (some ⟨w.heap.size, 2, none⟩)) ∧ (L 4 = true → s 7 = .slice Aa na ca) ∧ (L 5 = true → s 8 = .slice gh.A2 na gh.c2) ∧ (L 6 = true → s 9 = .pointer (some ⟨w.heap.size, 3, none⟩)) ∧ (L 7 = true → s 10 = .slice At nt ct) ∧ (L 8 = true → s 11 = .slice gh.A3 nt gh.c3) ∧ (L 9 = true → s 12 = .pointer (some ⟨w.heap.size, 1, none⟩)) ∧ (L 11 = true → s 13 = .pointer (some ⟨w.heap.size, 2, none⟩)) ∧ (L 13 = true → s 14 = .pointer (some ⟨w.heap.size, 3, none⟩)) from ⟨g1, m0, m1, m2, m3, gz, o1, o2, o3, d12, d13, d23, f0, f1, f2, f3, f4, f5, f6, f7, f8, f9, f11, f13⟩)
   clear f13 f11 f9 f8 f7 f6 f5 f4 f3 f2 f1 f0 d23 d13 d12 o3 o2 o1 gz m3 m2 m1 m0 g1 hd
   try simp only at e9 e2 ⊢
   gi_wp2
   obtain ⟨g1, m0, m1, m2, m3, gz, o1, o2, o3, d12, d13, d23, f0, f1, f2, f3, f4, f5, f6, f7, f8, f9, f11, f13⟩ := HF.out
   have hg : W.grownBy (W.setCell ⟨w.heap.size, 1, none⟩ (.slice gh.A1 nv gh.c1)) (some w.heap.size) := grown_setCell (grown_refl _ _) (p := ⟨w.heap.size, 1, none⟩) (.inl rfl) _
   exact hK (gh, (upd (upd s 12 (.pointer (some ⟨w.heap.size, 1, none⟩))) 5 (.slice gh.A1 nv gh.c1))) _ ⟨(g1.setCell (p := ⟨w.heap.size, 1, none⟩) (Nat.le_refl _) _), (fun h => by cases h), (fun _ _ => HMB.out.set_ 1 (.slice gh.A1 nv gh.c1)), (fun h => hdn.no 12 10 h rfl hu), (fun h => hdn.no 12 10 (hdn.at_ 14 12 h rfl) rfl hu), (gz.grown hg (by simp)), (fun h => (o1 h).grown hg (fun a ha e => by have := ((o1 h).lt ha).1; have := Option.some.inj e; omega)), (fun h => (o2 h).grown hg (fun a ha e => by have := ((o2 h).lt ha).1; have := Option.some.inj e; omega)), (fun h => (o3 h).grown hg (fun a ha e => by have := ((o3 h).lt ha).1; have := Option.some.inj e; omega)), d12, d13, d23, f0, f1, (fun _ => rfl), f3, f4, f5, f6, f7, f8, (fun _ => rfl), f11, f13⟩
  ·rintro L ⟨gh, s⟩ W hu hd hdn ⟨g1, m0, m1, m2, m3, gz, o1, o2, o3, d12, d13, d23, f0, f1, f2, f3, f4, f5, f6, f7, f8, f9, f11, f13⟩ K Q hK
   try dsimp only at g1 m0 m1 m2 m3 gz o1 o2 o3 d12 d13 d23 f0 f1 f2 f3 f4 f5 f6 f7 f8 f9 f11 f13 ⊢
   have HF := Lib.hid (show (Below w.heap.size w W) ∧ (L 10 = false → Blk W w.heap.size 26 #[.int .i64 m.fountains, .slice Av nv cv, .slice Aa na ca, .slice At nt ct]) ∧ (L 10 = true → L 12 = false → Blk W w.heap.size 26 #[.int .i64 m.fountains, .slice gh.A1 nv gh.c1, .slice Aa na ca, .slice At nt ct]) ∧ (L 12 = true → L 14 = false → Blk W w.heap.size 26 #[.int .i64 m.fountains, .slice gh.A1 nv gh.c1, .slice gh.A2 na gh.c2, .slice At nt ct]) ∧ (L 14 = true → Blk W w.heap.size 26 #[.int .i64 m.fountains, .slice gh.A1 nv gh.c1, .slice gh.A2 na gh.c2, .slice gh.A3 nt gh.c3]) ∧ (Blk W (w.heap.size + 1) 26 #[.int .i64 0, .slice none 0 0, .slice none 0 0, .slice none 0 0]) ∧ (L 2 = true → Own W (w.heap.size + 2) 80 2 gh.A1 nv gh.c1 (m.vessels.flatMap Vess.vals)) ∧ (L 5 = true → Own W (w.heap.size + 2) 67 4 gh.A2 na gh.c2 (m.acts.flatMap MAct.vals)) ∧ (L 8 = true → Own W (w.heap.size + 2) 65 6 gh.A3 nt gh.c3 (m.tastes.flatMap Tast.vals)) ∧ (L 2 = true → L 5 = true → Apart gh.A1 gh.A2) ∧ (L 2 = true → L 8 = true → Apart gh.A1 gh.A3) ∧ (L 5 = true → L 8 = true → Apart gh.A2 gh.A3) ∧ (L 0 = true → s 3 = .pointer (some ⟨w.heap.size, 1, none⟩)) ∧ (L 1 = true → s 4 = .slice Av nv cv) ∧ (L 2 = true → s 5 = .slice gh.A1 nv gh.c1) ∧ (L 3 = true → s 6 = .pointer (some ⟨w.heap.size, 2, none⟩)) ∧ (L 4 = true → s 7 = .slice Aa na ca) ∧ (L 5 = true → s 8 = .slice gh.A2 na gh.c2) ∧ (L 6 = true → s 9 = .pointer (some ⟨w.heap.size, 3, none⟩)) ∧ (L 7 = true → s 10 = .slice At nt ct) ∧ (L 8 = true → s 11 = .slice gh.A3 nt gh.c3) ∧ (L 9 = true → s 12 = .pointer (some ⟨w.heap.size, 1, none⟩)) ∧ (L 11 = true → s 13 = .pointer (some ⟨w.heap.size, 2, none⟩)) ∧ (L 13 = true → s 14 = .pointer (some ⟨w.heap.size, 3, none⟩)) from ⟨g1, m0, m1, m2, m3, gz, o1, o2, o3, d12, d13, d23, f0, f1, f2, f3, f4, f5, f6, f7, f8, f9, f11, f13⟩)
   clear f13 f11 f9 f8 f7 f6 f5 f4 f3 f2 f1 f0 d23 d13 d12 o3 o2 o1 gz m3 m2 m1 m0 g1 hd
   try simp only
   gi_wp2
   obtain ⟨g1, m0, m1, m2, m3, gz, o1, o2, o3, d12, d13, d23, f0, f1, f2, f3, f4, f5, f6, f7, f8, f9, f11, f13⟩ := HF.out
   exact hK (gh, (upd s 13 (.pointer (some ⟨w.heap.size, 2, none⟩)))) _ ⟨g1, m0, m1, m2, m3, gz, o1, o2, o3, d12, d13, d23, f0, f1, f2, f3, f4, f5, f6, f7, f8, f9, (fun _ => rfl), f13⟩
  ·rintro L ⟨gh, s⟩ W hu hd hdn ⟨g1, m0, m1, m2, m3, gz, o1, o2, o3, d12, d13, d23, f0, f1, f2, f3, f4, f5, f6, f7, f8, f9, f11, f13⟩ K Q hK
   try dsimp only at g1 m0 m1 m2 m3 gz o1 o2 o3 d12 d13 d23 f0 f1 f2 f3 f4 f5 f6 f7 f8 f9 f11 f13 ⊢
   have e11 := f11 (hd.at_ 11 rfl)
   have e5 := f5 (hd.at_ 5 rfl)
   have d2 := hd.at_ 2 rfl
   have d10 := hd.at_ 10 rfl
   have MB := m1 d10 hu
   have y0 := MB.cell 0
   have z0 := MB.frozen 0
   have y1 := MB.cell 1
   have z1 := MB.frozen 1
   have y2 := MB.cell 2
   have z2 := MB.frozen 2
   have y3 := MB.cell 3
   have z3 := MB.frozen 3
   have rl := MB.lt
   have HMB := Lib.hid MB
   clear MB
   have HW2 := Lib.hid d2
   clear d2
   have HW10 := Lib.hid d10
   clear d10
   have HF := Lib.hid (show (Below w.heap.size w W) ∧ (L 10 = false → Blk W w.heap.size 26 #[.int .i64 m.fountains, .slice Av nv cv, .slice Aa na ca, .slice At nt ct]) ∧ (L 10 = true → L 12 = false → Blk W w.heap.size 26 #[.int .i64 m.fountains, .slice gh.A1 nv gh.c1, .slice Aa na ca, .slice At nt ct]) ∧ (L 12 = true → L 14 = false → Blk W w.heap.size 26 #[.int .i64 m.fountains, .slice gh.A1 nv gh.c1, .slice gh.A2 na gh.c2, .slice At nt ct]) ∧ (L 14 = true → Blk W w.heap.size 26 #[.int .i64 m.fountains, .slice gh.A1 nv gh.c1, .slice gh.A2 na gh.c2, .slice gh.A3 nt gh.c3]) ∧ (Blk W (w.heap.size + 1) 26 #[.int .i64 0, .slice none 0 0, .slice none 0 0, .slice none 0 0]) ∧ (L 2 = true → Own W (w.heap.size + 2) 80 2 gh.A1 nv gh.c1 (m.vessels.flatMap Vess.vals)) ∧ (L 5 = true → Own W (w.heap.size + 2) 67 4 gh.A2 na gh.c2 (m.acts.flatMap MAct.vals)) ∧ (L 8 = true → Own W (w.heap.size + 2) 65 6 gh.A3 nt gh.c3 (m.tastes.flatMap Tast.vals)) ∧ (L 2 = true → L 5 = true → Apart gh.A1 gh.A2) ∧ (L 2 = true → L 8 = true → Apart gh.A1 gh.A3) ∧ (L 5 = true → L 8 = true → Apart gh.A2 gh.A3) ∧ (L 0 = true → s 3 = .pointer (some ⟨w.heap.size, 1, none⟩)) ∧ (L 1 = true → s 4 = .slice Av nv cv) ∧ (L 2 = true → s 5 = .slice gh.A1 nv gh.c1) ∧ (L 3 = true → s 6 = .pointer (some ⟨w.heap.size, 2, none⟩)) ∧ (L 4 = true → s 7 = .slice Aa na ca) ∧ (L 5 = true → s 8 = .slice gh.A2 na gh.c2) ∧ (L 6 = true → s 9 = .pointer (some ⟨w.heap.size, 3, none⟩)) ∧ (L 7 = true → s 10 = .slice At nt ct) ∧ (L 8 = true → s 11 = .slice gh.A3 nt gh.c3) ∧ (L 9 = true → s 12 = .pointer (some ⟨w.heap.size, 1, none⟩)) ∧ (L 11 = true → s 13 = .pointer (some ⟨w.heap.size, 2, none⟩)) ∧ (L 13 = true → s 14 = .pointer (some ⟨w.heap.size, 3, none⟩)) from ⟨g1, m0, m1, m2, m3, gz, o1, o2, o3, d12, d13, d23, f0, f1, f2, f3, f4, f5, f6, f7, f8, f9, f11, f13⟩)
   clear f13 f11 f9 f8 f7 f6 f5 f4 f3 f2 f1 f0 d23 d13 d12 o3 o2 o1 gz m3 m2 m1 m0 g1 hd
   try simp only at e11 e5 ⊢
   gi_wp2
   obtain ⟨g1, m0, m1, m2, m3, gz, o1, o2, o3, d12, d13, d23, f0, f1, f2, f3, f4, f5, f6, f7, f8, f9, f11, f13⟩ := HF.out
   have hg : W.grownBy (W.setCell ⟨w.heap.size, 2, none⟩ (.slice gh.A2 na gh.c2)) (some w.heap.size) := grown_setCell (grown_refl _ _) (p := ⟨w.heap.size, 2, none⟩) (.inl rfl) _
   exact hK (gh, (upd (upd s 13 (.pointer (some ⟨w.heap.size, 2, none⟩))) 8 (.slice gh.A2 na gh.c2))) _ ⟨(g1.setCell (p := ⟨w.heap.size, 2, none⟩) (Nat.le_refl _) _), (fun h => absurd (HW10.out.symm.trans h) (by decide)), (fun _ h => by cases h), (fun _ _ => HMB.out.set_ 2 (.slice gh.A2 na gh.c2)), (fun h => hdn.no 14 12 h rfl hu), (gz.grown hg (by simp)), (fun h => (o1 h).grown hg (fun a ha e => by have := ((o1 h).lt ha).1; have := Option.some.inj e; omega)), (fun h => (o2 h).grown hg (fun a ha e => by have := ((o2 h).lt ha).1; have := Option.some.inj e; omega)), (fun h => (o3 h).grown hg (fun a ha e => by have := ((o3 h).lt ha).1; have := Option.some.inj e; omega)), d12, d13, d23, f0, f1, f2, f3, f4, (fun _ => rfl), f6, f7, f8, f9, (fun _ => rfl), f13⟩
  ·rintro L ⟨gh, s⟩ W hu hd hdn ⟨g1, m0, m1, m2, m3, gz, o1, o2, o3, d12, d13, d23, f0, f1, f2, f3, f4, f5, f6, f7, f8, f9, f11, f13⟩ K Q hK
   try dsimp only at g1 m0 m1 m2 m3 gz o1 o2 o3 d12 d13 d23 f0 f1 f2 f3 f4 f5 f6 f7 f8 f9 f11 f13 ⊢
   have HF := Lib.hid (show (Below w.heap.size w W) ∧ (L 10 = false → Blk W w.heap.size 26 #[.int .i64 m.fountains, .slice Av nv cv, .slice Aa na ca, .slice At nt ct]) ∧ (L 10 = true → L 12 = false → Blk W w.heap.size 26 #[.int .i64 m.fountains, .slice gh.A1 nv gh.c1, .slice Aa na ca, .slice At nt ct]) ∧ (L 12 = true → L 14 = false → Blk W w.heap.size 26 #[.int .i64 m.fountains, .slice gh.A1 nv gh.c1, .slice gh.A2 na gh.c2, .slice At nt ct]) ∧ (L 14 = true → Blk W w.heap.size 26 #[.int .i64 m.fountains, .slice gh.A1 nv gh.c1, .slice gh.A2 na gh.c2, .slice gh.A3 nt gh.c3]) ∧ (Blk W (w.heap.size + 1) 26 #[.int .i64 0, .slice none 0 0, .slice none 0 0, .slice none 0 0]) ∧ (L 2 = true → Own W (w.heap.size + 2) 80 2 gh.A1 nv gh.c1 (m.vessels.flatMap Vess.vals)) ∧ (L 5 = true → Own W (w.heap.size + 2) 67 4 gh.A2 na gh.c2 (m.acts.flatMap MAct.vals)) ∧ (L 8 = true → Own W (w.heap.size + 2) 65 6 gh.A3 nt gh.c3 (m.tastes.flatMap Tast.vals)) ∧ (L 2 = true → L 5 = true → Apart gh.A1 gh.A2) ∧ (L 2 = true → L 8 = true → Apart gh.A1 gh.A3) ∧ (L 5 = true → L 8 = true → Apart gh.A2 gh.A3) ∧ (L 0 = true → s 3 = .pointer (some ⟨w.heap.size, 1, none⟩)) ∧ (L 1 = true → s 4 = .slice Av nv cv) ∧ (L 2 = true → s 5 = .slice gh.A1 nv gh.c1) ∧ (L 3 = true → s 6 = .pointer (some ⟨w.heap.size, 2, none⟩)) ∧ (L 4 = true → s 7 = .slice Aa na ca) ∧ (L 5 = true → s 8 = .slice gh.A2 na gh.c2) ∧ (L 6 = true → s 9 = .pointer (some ⟨w.heap.size, 3, none⟩)) ∧ (L 7 = true → s 10 = .slice At nt ct) ∧ (L 8 = true → s 11 = .slice gh.A3 nt gh.c3) ∧ (L 9 = true → s 12 = .pointer (some ⟨w.heap.size, 1, none⟩)) ∧ (L 11 = true → s 13 = .pointer (some ⟨w.heap.size, 2, none⟩)) ∧ (L 13 = true → s 14 = .pointer (some ⟨w.heap.size, 3, none⟩)) from ⟨g1, m0, m1, m2, m3, gz, o1, o2, o3, d12, d13, d23, f0, f1, f2, f3, f4, f5, f6, f7, f8, f9, f11, f13⟩)
   clear f13 f11 f9 f8 f7 f6 f5 f4 f3 f2 f1 f0 d23 d13 d12 o3 o2 o1 gz m3 m2 m1 m0 g1 hd
   try simp only
   gi_wp2
   obtain ⟨g1, m0, m1, m2, m3, gz, o1, o2, o3, d12, d13, d23, f0, f1, f2, f3, f4, f5, f6, f7, f8, f9, f11, f13⟩ := HF.out
   exact hK (gh, (upd s 14 (.pointer (some ⟨w.heap.size, 3, none⟩)))) _ ⟨g1, m0, m1, m2, m3, gz, o1, o2, o3, d12, d13, d23, f0, f1, f2, f3, f4, f5, f6, f7, f8, f9, f11, (fun _ => rfl)⟩
  ·rintro L ⟨gh, s⟩ W hu hd hdn ⟨g1, m0, m1, m2, m3, gz, o1, o2, o3, d12, d13, d23, f0, f1, f2, f3, f4, f5, f6, f7, f8, f9, f11, f13⟩ K Q hK
   try dsimp only at g1 m0 m1 m2 m3 gz o1 o2 o3 d12 d13 d23 f0 f1 f2 f3 f4 f5 f6 f7 f8 f9 f11 f13 ⊢
   have e13 := f13 (hd.at_ 13 rfl)
   have e8 := f8 (hd.at_ 8 rfl)
   have d2 := hd.at_ 2 rfl
   have h10t : L 10 = true := hdn.at_ 12 10 (hd.at_ 12 rfl) rfl
   have HT10 := Lib.hid h10t
   clear h10t
   have MB := m2 (hd.at_ 12 rfl) hu
   have y0 := MB.cell 0
   have z0 := MB.frozen 0
   have y1 := MB.cell 1
   have z1 := MB.frozen 1
   have y2 := MB.cell 2
   have z2 := MB.frozen 2
   have y3 := MB.cell 3
   have z3 := MB.frozen 3
   have rl := MB.lt
   have HMB := Lib.hid MB
   clear MB
   have HW2 := Lib.hid d2
   clear d2
   have HW12 := Lib.hid (hd.at_ 12 rfl)
   have HF := Lib.hid (show (Below w.heap.size w W) ∧ (L 10 = false → Blk W w.heap.size 26 #[.int .i64 m.fountains, .slice Av nv cv, .slice Aa na ca, .slice At nt ct]) ∧ (L 10 = true → L 12 = false → Blk W w.heap.size 26 #[.int .i64 m.fountains, .slice gh.A1 nv gh.c1, .slice Aa na ca, .slice At nt ct]) ∧ (L 12 = true → L 14 = false → Blk W w.heap.size 26 #[.int .i64 m.fountains, .slice gh.A1 nv gh.c1, .slice gh.A2 na gh.c2, .slice At nt ct]) ∧ (L 14 = true → Blk W w.heap.size 26 #[.int .i64 m.fountains, .slice gh.A1 nv gh.c1, .slice gh.A2 na gh.c2, .slice gh.A3 nt gh.c3]) ∧ (Blk W (w.heap.size + 1) 26 #[.int .i64 0, .slice none 0 0, .slice none 0 0, .slice none 0 0]) ∧ (L 2 = true → Own W (w.heap.size + 2) 80 2 gh.A1 nv gh.c1 (m.vessels.flatMap Vess.vals)) ∧ (L 5 = true → Own W (w.heap.size + 2) 67 4 gh.A2 na gh.c2 (m.acts.flatMap MAct.vals)) ∧ (L 8 = true → Own W (w.heap.size + 2) 65 6 gh.A3 nt gh.c3 (m.tastes.flatMap Tast.vals)) ∧ (L 2 = true → L 5 = true → Apart gh.A1 gh.A2) ∧ (L 2 = true → L 8 = true → Apart gh.A1 gh.A3) ∧ (L 5 = true → L 8 = true → Apart gh.A2 gh.A3) ∧ (L 0 = true → s 3 = .pointer (some ⟨w.heap.size, 1, none⟩)) ∧ (L 1 = true → s 4 = .slice Av nv cv) ∧ (L 2 = true → s 5 = .slice gh.A1 nv gh.c1) ∧ (L 3 = true → s 6 = .pointer (some ⟨w.heap.size, 2, none⟩)) ∧ (L 4 = true → s 7 = .slice Aa na ca) ∧ (L 5 = true → s 8 = .slice gh.A2 na gh.c2) ∧ (L 6 = true → s 9 = .pointer (some ⟨w.heap.size, 3, none⟩)) ∧ (L 7 = true → s 10 = .slice At nt ct) ∧ (L 8 = true → s 11 = .slice gh.A3 nt gh.c3) ∧ (L 9 = true → s 12 = .pointer (some ⟨w.heap.size, 1, none⟩)) ∧ (L 11 = true → s 13 = .pointer (some ⟨w.heap.size, 2, none⟩)) ∧ (L 13 = true → s 14 = .pointer (some ⟨w.heap.size, 3, none⟩)) from ⟨g1, m0, m1, m2, m3, gz, o1, o2, o3, d12, d13, d23, f0, f1, f2, f3, f4, f5, f6, f7, f8, f9, f11, f13⟩)
   clear f13 f11 f9 f8 f7 f6 f5 f4 f3 f2 f1 f0 d23 d13 d12 o3 o2 o1 gz m3 m2 m1 m0 g1 hd
   try simp only at e13 e8 ⊢
   gi_wp2
   obtain ⟨g1, m0, m1, m2, m3, gz, o1, o2, o3, d12, d13, d23, f0, f1, f2, f3, f4, f5, f6, f7, f8, f9, f11, f13⟩ := HF.out
   have h10t := HT10.out
   have hg : W.grownBy (W.setCell ⟨w.heap.size, 3, none⟩ (.slice gh.A3 nt gh.c3)) (some w.heap.size) := grown_setCell (grown_refl _ _) (p := ⟨w.heap.size, 3, none⟩) (.inl rfl) _
   exact hK (gh, (upd (upd s 14 (.pointer (some ⟨w.heap.size, 3, none⟩))) 11 (.slice gh.A3 nt gh.c3))) _ ⟨(g1.setCell (p := ⟨w.heap.size, 3, none⟩) (Nat.le_refl _) _), (fun h => absurd (h10t.symm.trans h) (by decide)), (fun _ h => absurd (HW12.out.symm.trans h) (by decide)), (fun _ h => by cases h), (fun _ => HMB.out.set_ 3 (.slice gh.A3 nt gh.c3)), (gz.grown hg (by simp)), (fun h => (o1 h).grown hg (fun a ha e => by have := ((o1 h).lt ha).1; have := Option.some.inj e; omega)), (fun h => (o2 h).grown hg (fun a ha e => by have := ((o2 h).lt ha).1; have := Option.some.inj e; omega)), (fun h => (o3 h).grown hg (fun a ha e => by have := ((o3 h).lt ha).1; have := Option.some.inj e; omega)), d12, d13, d23, f0, f1, f2, f3, f4, f5, f6, f7, (fun _ => rfl), f9, f11, (fun _ => rfl)⟩
 ·rintro L ⟨gh, s⟩ W hall ⟨g1, m0, m1, m2, m3, gz, o1, o2, o3, d12, d13, d23, f0, f1, f2, f3, f4, f5, f6, f7, f8, f9, f11, f13⟩
  have GO1 := Lib.hid (o1 (hall 2 (by decide)))
  have GO2 := Lib.hid (o2 (hall 5 (by decide)))
  have GO3 := Lib.hid (o3 (hall 8 (by decide)))
  have GD := Lib.hid (And.intro (d12 (hall 2 (by decide)) (hall 5 (by decide))) (And.intro (d13 (hall 2 (by decide)) (hall 8 (by decide))) (d23 (hall 5 (by decide)) (hall 8 (by decide)))))
  have GM := Lib.hid (m3 (hall 14 (by decide)))
  have GZ := Lib.hid gz
  have G1 := Lib.hid g1
  clear f13 f11 f9 f8 f7 f6 f5 f4 f3 f2 f1 f0 d23 d13 d12 o3 o2 o1 gz m3 m2 m1 m0 g1 hall
  simp only
  have y0 := GM.out.cell 0
  have y1 := GM.out.cell 1
  have y2 := GM.out.cell 2
  have y3 := GM.out.cell 3
  have zl := GZ.out.lt
  have q0 := GZ.out.cell 0
  have q1 := GZ.out.cell 1
  have q2 := GZ.out.cell 2
  have q3 := GZ.out.cell 3
  have z0 := GZ.out.frozen 0
  have z1 := GZ.out.frozen 1
  have z2 := GZ.out.frozen 2
  have z3 := GZ.out.frozen 3
  gi_wp2
  have R4 := ret4' GZ.out (Below.refl (w.heap.size + 1) W) (Nat.le_refl _) (.int .i64 m.fountains) (.slice gh.A1 nv gh.c1) (.slice gh.A2 na gh.c2) (.slice gh.A3 nt gh.c3)
  have v0 := R4.1.cell 0
  have v1 := R4.1.cell 1
  have v2 := R4.1.cell 2
  have v3 := R4.1.cell 3
  have hne : ∀ {e : TypeId} {size n cap : Nat} {A : Option Addr} {xs : List Value}, Own W (w.heap.size + 2) e size A n cap xs → ∀ a, A = some a → some a.block ≠ some (w.heap.size + 1) := fun ho a ha e => by have := (ho.lt ha).1; have := Option.some.inj e; omega
  refine bodyPost_ret (v := .agg #[.int .i64 m.fountains, .slice gh.A1 nv gh.c1, .slice gh.A2 na gh.c2, .slice gh.A3 nt gh.c3]) (by simp [results, Try.results76, go_sem, v0, v1, v2, v3]) rfl ?_
  exact ⟨gh.A1, gh.c1, gh.A2, gh.c2, gh.A3, gh.c3, rfl, ⟨(GO1.out.grown R4.2.2 (hne GO1.out)).mono (by omega), (GO2.out.grown R4.2.2 (hne GO2.out)).mono (by omega), (GO3.out.grown R4.2.2 (hne GO3.out)).mono (by omega), GD.out.1, GD.out.2.1, GD.out.2.2⟩, G1.out.trans (R4.2.1.mono (by omega))⟩

end Go.Proofs.Ythofngceiecniaa
/- Words for mixed water that is changed. -/
namespace Go.Proofs.Ythofngceiecniaa
open Go.RowKit

section
variable {w W W' : World} {base : Nat} {A1 A2 A3 : Option Addr} {nv c1 na c2 nt c3 : Nat} {m : Mix}
theorem MixOwn.s (h : MixOwn W base A1 nv c1 A2 na c2 A3 nt c3 m) (hv : nv ≤ 1000) (ha : na ≤ 1000) (ht : nt ≤ 1000) : MixS W A1 nv A2 na A3 nt m := ⟨⟨h.v.reads (Nat.le_refl _), h.a.reads (Nat.le_refl _), h.t.reads (Nat.le_refl _)⟩, hv, ha, ht⟩
theorem MixOwn.below (h : MixOwn W base A1 nv c1 A2 na c2 A3 nt c3 m) (hb : Below W.heap.size W W') : MixOwn W' base A1 nv c1 A2 na c2 A3 nt c3 m := ⟨h.v.below hb (Nat.le_refl _), h.a.below hb (Nat.le_refl _), h.t.below hb (Nat.le_refl _), h.va, h.vt, h.at_⟩
theorem MixOwn.mono (h : MixOwn W base A1 nv c1 A2 na c2 A3 nt c3 m) {b' : Nat} (hb : b' ≤ base) : MixOwn W b' A1 nv c1 A2 na c2 A3 nt c3 m := ⟨h.v.mono hb, h.a.mono hb, h.t.mono hb, h.va, h.vt, h.at_⟩
theorem own_off {e : TypeId} {size n cap g : Nat} {A : Option Addr} {xs : List Value} (h : Own W base e size A n cap xs) (hg : W.grownBy W' (some g)) (hlt : g < base) : Own W' base e size A n cap xs := h.grown hg (fun a ha e => by have := (h.lt ha).1; have := Option.some.inj e; omega)
theorem MixOwn.off {g : Nat} (h : MixOwn W base A1 nv c1 A2 na c2 A3 nt c3 m) (hg : W.grownBy W' (some g)) (hlt : g < base) : MixOwn W' base A1 nv c1 A2 na c2 A3 nt c3 m := ⟨own_off h.v hg hlt, own_off h.a hg hlt, own_off h.t hg hlt, h.va, h.vt, h.at_⟩
theorem MixOwn.nothing (W : World) (base : Nat) : MixOwn W base none 0 0 none 0 0 none 0 0 zeroMix := ⟨Own.none_ _ _ _ _, Own.none_ _ _ _ _, Own.none_ _ _ _ _, fun a b h => (by cases h), fun a b h => (by cases h), fun a b h => (by cases h)⟩
theorem apart_row {A B : Option Addr} (h : Apart A B) : ∀ a, A = some a → some a.block ≠ B.map (·.block) := by
 intro a ha e
 cases hB : B with
 | none => rw [hB] at e; cases e
 | some b => rw [hB] at e; exact h a b ha hB (Option.some.inj e)
theorem apart_grow {B A9 : Option Addr} {A : Option Addr} {e : TypeId} {size n cap : Nat} {xs : List Value} (h : Apart A B) (ho : Own W base e size A n cap xs) (hA : A9 = B ∨ A9 = some ⟨W.heap.size, 0, none⟩) : Apart A A9 := by
 intro a b ha hb
 rcases hA with e1 | e1
 ·exact h a b ha (e1 ▸ hb)
 ·rw [e1] at hb
  cases hb
  have := (ho.lt ha).2
  dsimp only
  omega
theorem Apart.symm {A B : Option Addr} (h : Apart A B) : Apart B A := fun a b ha hb e => h b a hb ha e.symm
/-- The acts grown. -/
theorem MixOwn.acts {A9 : Option Addr} {c9 : Nat} {x : MAct} (h : MixOwn W base A1 nv c1 A2 na c2 A3 nt c3 m) (hg : W.grownBy W' (A2.map (·.block))) (ho : Own W' base 67 4 A9 (na + 1) c9 (m.acts.flatMap MAct.vals ++ x.vals)) (hA : A9 = A2 ∨ A9 = some ⟨W.heap.size, 0, none⟩) :
  MixOwn W' base A1 nv c1 A9 (na + 1) c9 A3 nt c3 (withA m (m.acts ++ [x])) := by
 refine ⟨h.v.grown hg (apart_row h.va), ?_, h.t.grown hg (apart_row h.at_.symm), apart_grow h.va h.v hA, h.vt, (apart_grow h.at_.symm h.t hA).symm⟩
 show Own W' base _ 4 A9 (na + 1) c9 ((m.acts ++ [x]).flatMap MAct.vals)
 rw [List.flatMap_append]
 simpa using ho
theorem MixOwn.tasts {A9 : Option Addr} {n9 c9 : Nat} {l : List Tast} (h : MixOwn W base A1 nv c1 A2 na c2 A3 nt c3 m) (hg : W.grownBy W' (A3.map (·.block))) (ho : Own W' base 65 6 A9 n9 c9 (l.flatMap Tast.vals)) (hA : A9 = A3 ∨ A9 = some ⟨W.heap.size, 0, none⟩) :
  MixOwn W' base A1 nv c1 A2 na c2 A9 n9 c9 (withT m l) :=
 ⟨h.v.grown hg (apart_row h.vt), h.a.grown hg (apart_row h.at_), ho, h.va, apart_grow h.vt h.v hA, apart_grow h.at_ h.a hA⟩
end
/-- A box at the head of what lies, written anew. -/
theorem lay_head {w W W' : World} {g : Nat} {t : TypeId} {cs cs' : Array Value} {rest : List (Nat × TypeId × Array Value)} (h : Lay w W ((g, t, cs) :: rest)) (hne : ∀ b ∈ rest, b.1 ≠ g) (hg : W.grownBy W' (some g)) (hb : Blk W' g t cs') : Lay w W' ((g, t, cs') :: rest) := by
 have h0 := h.2 (g, t, cs) (by simp)
 refine ⟨h.1.grown hg h.1.size (fun k hk => by cases hk; exact h0.1), fun b k => ?_⟩
 rcases List.mem_cons.1 k with rfl | k
 ·exact ⟨h0.1, hb⟩
 ·have := h.2 b (by simp [k])
  exact ⟨this.1, this.2.grown hg (fun e => hne b k (Option.some.inj e))⟩
/-- What a change hands back: mixed water in new memory, and an error. -/
def ChgOut (w : World) (r : Mix × Int) (e : Ending) (w' : World) : Prop :=
 ∃ A1 n1 c1 A2 n2 c2 A3 n3 c3, e = .returned (.tuple #[.agg #[.int .i64 r.1.fountains, .slice A1 n1 c1, .slice A2 n2 c2, .slice A3 n3 c3], .int .i64 r.2]) ∧ MixOwn w' w.heap.size A1 n1 c1 A2 n2 c2 A3 n3 c3 r.1 ∧ (n1 ≤ 1001 ∧ n2 ≤ 1001 ∧ n3 ≤ 1001) ∧ Below w.heap.size w w'
end Go.Proofs.Ythofngceiecniaa
/- slices.IndexFunc at tastes. -/
namespace Go.Proofs.Ythofngceiecniaa
open Go.RowKit

/-- A slice of tastes. -/
def TastsAt (w : World) (B : Nat) (A : Option Addr) (n : Nat) (l : List Tast) : Prop := Reads w B 6 A n (l.flatMap Tast.vals)
section
variable {w w' : World} {B B' n : Nat} {A : Option Addr} {l : List Tast}
theorem TastsAt.len (h : TastsAt w B A n l) : l.length = n := recs_n tast_k (by omega) h
theorem TastsAt.below (h : TastsAt w B A n l) (hb : Below B w w') : TastsAt w' B A n l := Reads.below h hb
theorem TastsAt.more (h : TastsAt w B A n l) (hB : B ≤ B') : TastsAt w B' A n l := Reads.more h hB
theorem TastsAt.cell (h : TastsAt w B A n l) {k : Nat} (hk : k < n) : ∃ b off x, A = some ⟨b, off, none⟩ ∧ b < B ∧ l[k]? = some x ∧ w.cell? ⟨b, off + k * 6, none⟩ = some (.int .i64 x.num) ∧ w.cell? ⟨b, off + k * 6 + 1, none⟩ = some (.int .i64 x.vessel) ∧ w.cell? ⟨b, off + k * 6 + 2, none⟩ = some (.int .i64 x.after)
  ∧ w.cell? ⟨b, off + k * 6 + 3, none⟩ = some (.int .i64 x.fountain) ∧ w.cell? ⟨b, off + k * 6 + 4, none⟩ = some (.int .i64 x.lo) ∧ w.cell? ⟨b, off + k * 6 + 5, none⟩ = some (.int .i64 x.hi) := by
 obtain ⟨b, off, x, e, hb, hx, hc⟩ := recs_cell tast_k (by omega) h hk
 exact ⟨b, off, x, e, hb, hx, hc 0 _ rfl, hc 1 _ rfl, hc 2 _ rfl, hc 3 _ rfl, hc 4 _ rfl, hc 5 _ rfl⟩
end
@[reducible] def tastW (x : Tast) : Value := .agg #[.int .i64 x.num, .int .i64 x.vessel, .int .i64 x.after, .int .i64 x.fountain, .int .i64 x.lo, .int .i64 x.hi]

/-- The first place at which something is so; -1 if there is none. -/
def idxL {α : Type} (p : α → Bool) (l : List α) : Int := if l.any p then (l.findIdx p : Int) else -1
theorem idxL_none {α : Type} {p : α → Bool} {l : List α} (h : ∀ y ∈ l, p y = false) : idxL p l = -1 := by
 unfold idxL
 rw [if_neg]
 simp only [List.any_eq_true, not_exists, not_and, Bool.not_eq_true]
 exact h
theorem idxL_some {α : Type} {p : α → Bool} {l : List α} {k : Nat} {x : α} (hx : l[k]? = some x) (hp : p x = true) (h : ∀ y ∈ l.take k, p y = false) : idxL p l = k := by
 obtain ⟨hk, rfl⟩ := List.getElem?_eq_some_iff.1 hx
 have hf : l.findIdx p = k := by
  rw [List.findIdx_eq hk]
  refine ⟨hp, fun j hj => ?_⟩
  have := h (l[j]'(by omega)) (by
   rw [List.mem_take_iff_getElem]
   exact ⟨j, by omega, rfl⟩)
  simp [this]
 unfold idxL
 rw [if_pos (List.any_eq_true.2 ⟨_, List.getElem_mem hk, hp⟩), hf]

/-- A predicate on links, as a function value: in all worlds in which the blocks below K lie as in w. -/
structure PredT (w : World) (K : Nat) (F : FuncId) (C : Array Value) (p : Tast → Bool) : Prop where
 enters : ∀ args W, (callFunc F args).run Try.prog W = .ok (.enter F args) W
 calls : ∀ x W, Below K w W → Calls Try.prog F (#[.agg #[.int .i64 x.num, .int .i64 x.vessel, .int .i64 x.after, .int .i64 x.fountain, .int .i64 x.lo, .int .i64 x.hi]] ++ C) W fun e w' => e = .returned (.bool (p x)) ∧ Below W.heap.size W w'
theorem PredT.below {w w' : World} {K : Nat} {F : FuncId} {C : Array Value} {p : Tast → Bool} (h : PredT w K F C p) (hb : Below K w w') : PredT w' K F C p :=
 ⟨h.enters, fun x W hW => h.calls x W (hb.trans hW)⟩

set_option maxRecDepth 100000 in
set_option maxHeartbeats 2000000 in
theorem indexFunc_tast (K : Nat) (F : FuncId) (C : Array Value) (p : Tast → Bool) (A : Option Addr) (n c : Nat) (l : List Tast) (w : World) (hr : TastsAt w w.heap.size A n l) (hn : n ≤ maxLen) (hK : K ≤ w.heap.size) (hp : PredT w K F C p) :
  Calls Try.prog 127 #[.slice A n c, .func (.func F) #[] C] w fun e w' => e = .returned (.int .i64 (idxL p l)) ∧ Below w.heap.size w w' := by
 unfold maxLen at hn
 have hE := hp.enters
 have HF := Lib.hid hp
 clear hp
 go_enter Try.func127, Try.ntmps127
 go_wp2_with fail
 go_loopw [8, 5] (fun i j wr => ∃ k : Nat, k ≤ n ∧ i = .int .i64 k ∧ (∀ y ∈ l.take k, p y = false) ∧ Below w.heap.size w wr)
  (fun i _ _ => n - (intOf i).toNat)
 case atStart => exact ⟨0, by omega, rfl, by simp, Below.refl _ _⟩
 case round =>
  obtain ⟨k, hk, rfl, hno, hb⟩ := hrel
  have HN := Lib.hid hno
  clear hno
  by_cases hlt : k < n
  ·obtain ⟨b, off, x, rfl, hbB, hx, hc0, hc1, hc2, hc3, hc4, hc5⟩ := (hr.below hb).cell hlt
   have HX := Lib.hid hx
   clear hx
   go_wp2_with fail
   refine (HF.out.calls x _ (hb.mono hK)).mono ?_
   rintro e w' ⟨rfl, hb'⟩
   cases hp : p x with
   | true =>
    have HP := Lib.hid hp
    clear hp
    go_wp2_with fail
    go_ret
    exact ⟨ret_int (idxL_some HX.out HP.out HN.out).symm, hb.trans (hb'.mono hb.size)⟩
   | false =>
    have HP := Lib.hid hp
    clear hp
    go_wp2_with fail
    go_roundw
    case rel => exact ⟨k + 1, by omega, by go_num, take_snoc_all HX.out HP.out HN.out, hb.trans (hb'.mono hb.size)⟩
    case measure => simp [intOf]; omega
  ·go_wp2_with fail
   go_ret
   exact ⟨ret_int (idxL_none (by
    have := HN.out
    rwa [List.take_of_length_le (by have := hr.len; omega)] at this)).symm, hb⟩
end Go.Proofs.Ythofngceiecniaa
/- The insertion sort of tastes, all but the last of which rise: the last goes to its place (behind its equals). -/
namespace Go.Proofs.Ythofngceiecniaa
open Go.RowKit

instance : Inhabited Tast := ⟨⟨0, 0, 0, 0, 0, 0⟩⟩
def ltT (x y : Tast) : Bool := decide (x.num < y.num)
theorem get_mid (a b : List Tast) (x : Tast) : (a ++ x :: b).toArray[a.length]! = x := by simp
theorem swap_mid (a b : List Tast) (y x : Tast) : Sort.swp (a ++ y :: x :: b).toArray (a.length + 1) a.length = (a ++ x :: y :: b).toArray := by
 unfold Sort.swp
 apply Array.ext'
 simp
theorem ins_down {l : List Tast} {x : Tast} (hl : l.Pairwise (fun a b => a.num < b.num)) : ∀ (a b : List Tast), a ++ b = l → (∀ y ∈ b, x.num < y.num) →
  Sort.insInner ltT 0 a.length (a ++ x :: b).toArray = (insS l x).toArray := by
 intro a
 generalize hn : a.length = n
 induction n generalizing a with
 | zero =>
  intro b hab hb
  obtain rfl : a = [] := List.length_eq_zero_iff.1 hn
  obtain rfl : b = l := by simpa using hab
  rw [Sort.insInner]
  unfold insS
  cases b with
  | nil => rfl
  | cons y b =>
   have := hb y (by simp)
   have h0 : decide (y.num ≤ x.num) = false := by simp; omega
   rw [List.takeWhile_cons_of_neg (by rw [h0]; simp), List.dropWhile_cons_of_neg (by rw [h0]; simp)]
   rfl
 | succ n ih =>
  intro b hab hb
  rcases List.eq_nil_or_concat a with rfl | ⟨a', y, rfl⟩
  ·simp at hn
  simp only [List.concat_eq_append] at hn hab ⊢
  have ha : a'.length = n := by simpa using hn
  have e1 : (a' ++ [y] ++ x :: b).toArray[n + 1]! = x := by rw [show n + 1 = (a' ++ [y]).length from by simp [ha]]; exact get_mid _ _ _
  have e2 : (a' ++ [y] ++ x :: b).toArray[n]! = y := by rw [← ha, show a' ++ [y] ++ x :: b = a' ++ y :: (x :: b) from by simp]; exact get_mid _ _ _
  by_cases h : x.num < y.num
  ·rw [insInner_go ltT 0 (n + 1) _ (by omega) (by rw [Nat.add_sub_cancel, e1, e2]; unfold ltT; simp [h]), Nat.add_sub_cancel]
   have := swap_mid a' b y x
   rw [ha] at this
   rw [show a' ++ [y] ++ x :: b = a' ++ y :: x :: b from by simp, this]
   exact ih a' ha (y :: b) (by rw [← hab]; simp) (fun z hz => by
    rcases List.mem_cons.1 hz with rfl | hz
    ·exact h
    ·exact hb z hz)
  ·rw [insInner_stop ltT 0 (n + 1) _ (.inr (by rw [Nat.add_sub_cancel, e1, e2]; unfold ltT; simp [h]))]
   have hle : ∀ z ∈ a' ++ [y], decide (z.num ≤ x.num) = true := fun z hz => by
    rw [← hab, List.pairwise_append] at hl
    have h1 := hl.1
    rw [List.pairwise_append] at h1
    rcases List.mem_append.1 hz with hz | hz
    ·have := h1.2.2 z hz y (by simp)
     simp; omega
    ·obtain rfl := List.mem_singleton.1 hz
     simp; omega
   have htw : l.takeWhile (fun y => decide (y.num ≤ x.num)) = a' ++ [y] ∧ l.dropWhile (fun y => decide (y.num ≤ x.num)) = b := by
    rw [← hab, List.takeWhile_append_of_pos hle, List.dropWhile_append_of_pos hle]
    cases b with
    | nil => simp
    | cons z b =>
     have := hb z (by simp)
     have h0 : decide (z.num ≤ x.num) = false := by simp; omega
     rw [List.takeWhile_cons_of_neg (by rw [h0]; simp), List.dropWhile_cons_of_neg (by rw [h0]; simp)]
     simp
   unfold insS
   rw [htw.1, htw.2]
   simp
theorem get_left {l : List Tast} {x : Tast} {i : Nat} (hi : i < l.length) : (l ++ [x]).toArray[i]! = l[i] := by
 simp [List.getElem?_append_left hi, hi]
theorem ins_all {l : List Tast} {x : Tast} (hl : l.Pairwise (fun a b => a.num < b.num)) : Sort.insertionSort ltT (l ++ [x]).toArray 0 (l.length + 1) = (insS l x).toArray := by
 have hstep : ∀ k i, i + k = l.length → 0 < i → Sort.insOuter ltT 0 (l.length + 1) i (l ++ [x]).toArray = (insS l x).toArray := by
  intro k
  induction k with
  | zero =>
   intro i hi h0
   obtain rfl : i = l.length := by omega
   rw [insOuter_go _ _ _ _ _ (by omega), ins_down hl l [] (by simp) (fun y hy => by cases hy), insOuter_stop _ _ _ _ _ (by omega)]
  | succ k ih =>
   intro i hi h0
   have hlt : i < l.length := by omega
   have hp := List.pairwise_iff_getElem.1 hl (i - 1) i (by omega) hlt (by omega)
   rw [insOuter_go _ _ _ _ _ (by omega), insInner_stop ltT 0 i _ (.inr (by rw [get_left hlt, get_left (show i - 1 < l.length by omega)]; unfold ltT; simp; omega))]
   exact ih (i + 1) (by omega) (by omega)
 unfold Sort.insertionSort
 cases h : l with
 | nil =>
  rw [insOuter_stop _ _ _ _ _ (by simp)]
  rfl
 | cons y t =>
  rw [← h]
  exact hstep (l.length - 1) 1 (by rw [h]; simp; omega) (by omega)
end Go.Proofs.Ythofngceiecniaa
/- cmp.Compare and slices.Compare at ints. -/
namespace Go.Proofs.Ythofngceiecniaa
open Go.RowKit

theorem isNaN_int (x : Int) (w : World) : Calls Try.prog 108 #[.int .i64 x] w fun e w' => e = .returned (.bool false) ∧ w' = w := by
 go_enter Try.func108, Try.ntmps108
 go_wp2_with fail
 go_ret
 exact ⟨rfl, rfl⟩

def cmpI (x y : Int) : Int := if x < y then -1 else if y < x then 1 else 0

theorem cmp_int (x y : Int) (w : World) : Calls Try.prog 79 #[.int .i64 x, .int .i64 y] w fun e w' => e = .returned (.int .i64 (cmpI x y)) ∧ w' = w := by
 have h3 : x < y ∨ (¬ x < y ∧ y < x) ∨ (¬ x < y ∧ ¬ y < x) := by omega
 rcases h3 with h1 | ⟨h1, h2⟩ | ⟨h1, h2⟩
 all_goals
  go_enter Try.func79, Try.ntmps79
  go_wp2_with fail
  refine (isNaN_int x w).mono ?_
  rintro e w1 ⟨rfl, rfl⟩
  go_wp2_with fail
  refine (isNaN_int y w1).mono ?_
  rintro e w2 ⟨rfl, rfl⟩
  go_wp2_with fail
  go_ret
  exact ⟨ret_int (by unfold cmpI; split <;> first | rfl | omega | (split <;> first | rfl | omega)), rfl⟩

end Go.Proofs.Ythofngceiecniaa
/- slices.SortStableFunc at tastes, fewer than 20, by their numbers: the insertion sort alone runs (its walk is the kit's, laid at this program). -/
namespace Go.Proofs
open Go.Shelf
def Ythofngceiecniaa.insTast_ren : Go.Shelf.Ren := ⟨fun | 20 => 125 | n => n, fun | 24 => 65 | 22 => 24 | 3 => 3 | 25 => 151 | 4 => 4 | 0 => 0 | n => n, fun | n => n⟩
theorem Ythofngceiecniaa.insTast : Go.Proofs.SlLaysF0.n20 Try.prog Ythofngceiecniaa.insTast_ren := {
 mixed := by kernel_rfl
 f20 := ⟨Try.f125.name, by decide, Try.func125.trans (congrArg some (by kernel_rfl))⟩
 t0 := Try.underlying0
 a0 := Try.isAgg0
 z0 := Try.sizeOf0
 v0 := Try.zeroValue0
 t3 := Try.underlying3
 a3 := Try.isAgg3
 z3 := Try.sizeOf3
 v3 := Try.zeroValue3
 t4 := Try.underlying4
 a4 := Try.isAgg4
 z4 := Try.sizeOf4
 v4 := Try.zeroValue4
 t22 := Try.underlying24
 a22 := Try.isAgg24
 z22 := Try.sizeOf24
 v22 := Try.zeroValue24
 t25 := Try.underlying151
 a25 := Try.isAgg151
 z25 := Try.sizeOf151
 v25 := Try.zeroValue151 }
end Go.Proofs
namespace Go.Proofs.Ythofngceiecniaa
open Go.RowKit Go.Sort

set_option maxHeartbeats 1000000 in
/-- Put's order: by numbers. -/
theorem put1_any (x y : Tast) (W : World) : Calls Try.prog 78 #[.agg x.vals.toArray, .agg y.vals.toArray] W fun e w' => e = .returned (.int .i64 (cmpI x.num y.num)) ∧ ∃ q os', w' = grow (W.drewN q) os' := by
 have hcon := fun W' => cmp_int x.num y.num W'
 generalize cmpI x.num y.num = r at hcon ⊢
 simp only [Tast.vals]
 go_enter Try.func78, Try.ntmps78
 go_wp2_with (go_at_call 79; refine (hcon _).mono ?_; rintro e w' ⟨rfl, rfl⟩)
 go_ret
 exact ⟨rfl, 0, _, by rw [alloc_eq_grow, alloc_eq_grow, grow_grow]; rfl⟩
theorem put1_lays (blk off size : Nat) (w : World) : CmpLays Try.prog 78 #[] Tast.vals 6 (fun x y => cmpI x.num y.num) blk off size w :=
 fun _ _ _ _ x y => put1_any x y _
theorem lt_tast : ltOf (fun x y : Tast => cmpI x.num y.num) = ltT := by
 funext x y
 unfold ltOf ltT cmpI
 by_cases h : x.num < y.num
 ·simp [h]
 ·by_cases h2 : y.num < x.num <;> simp [h, h2]
theorem flat_at : ∀ (l : List Tast) (t : Nat), t < l.length * 6 → (l.flatMap Tast.vals)[t]? = some ((l.toArray[t / 6]!).vals[t % 6]!)
 | [], t, h => by simp at h
 | x :: l, t, h => by
  rw [List.flatMap_cons]
  by_cases ht : t < 6
  ·rw [List.getElem?_append_left (by rw [tast_k]; exact ht), Nat.div_eq_of_lt ht, Nat.mod_eq_of_lt ht]
   have : t < x.vals.length := by rw [tast_k]; exact ht
   simp [this]
  ·obtain ⟨u, rfl⟩ : ∃ u, t = u + 6 := ⟨t - 6, by omega⟩
   rw [List.getElem?_append_right (by rw [tast_k]; omega), tast_k, Nat.add_sub_cancel, flat_at l u (by simp at h; omega), Nat.add_div_right _ (by omega), Nat.add_mod_right]
   simp
theorem flat_cells (l : List Tast) (cur : Array Value) (hl : l.length * 6 ≤ cur.size) (t : Nat) (ht : t < l.length * 6) : (putCells id 0 (flatK Tast.vals 6 l.toArray) cur)[t]? = (l.flatMap Tast.vals)[t]? := by
 rw [flat_at l t ht]
 unfold putCells
 rw [Array.getElem?_mapIdx, Array.getElem?_eq_getElem (show t < cur.size by omega)]
 have hs : (flatK Tast.vals 6 l.toArray).size = l.length * 6 := by simp
 simp only [Option.map_some, Nat.zero_le, true_and, Nat.zero_add, Nat.sub_zero, hs, ht, if_true, id]
 rw [get_flatK _ _ _ _ (by simpa using ht)]
theorem insS_len (l : List Tast) (x : Tast) : (insS l x).length = l.length + 1 := by
 unfold insS
 have := congrArg List.length (List.takeWhile_append_dropWhile (p := fun y : Tast => decide (y.num ≤ x.num)) (l := l))
 rw [List.length_append] at this
 rw [List.length_append, List.length_append, List.length_singleton]
 omega

set_option maxRecDepth 100000 in
set_option maxHeartbeats 2000000 in
/-- At fewer than 20 the one block is the whole. -/
theorem stable_tast (R : Ending → World → Prop) (p : Option Addr) (n cap : Nat) (fv : Value) (w : World) (hn : n < 20) (h : Calls Try.prog 125 #[.slice p n cap, .int .i64 0, .int .i64 n, fv] w R) (hR : ∀ e w', R e w' → e = .returned (.tuple #[])) :
  Calls Try.prog 107 #[.slice p n cap, .int .i64 n, fv] w R := by
 have hn' : ¬ (20 : Int) ≤ (n : Int) := by omega
 have hn2 : ¬ (20 : Int) < (n : Int) := by omega
 go_enter Try.func107, Try.ntmps107
 go_wp2_with fail
 refine wp_loop_rounds 1 ?_
 rw [rounds_succ]
 go_wp2_with (go_at_call 125; refine h.mono ?_; rintro e w' hr; obtain rfl := hR _ _ hr)
 refine wp_loop_rounds 1 ?_
 rw [rounds_succ]
 go_wp2_with fail
 go_end0
 exact hr
set_option maxHeartbeats 2000000 in
theorem sorts_tast (R : Ending → World → Prop) (p : Option Addr) (n cap : Nat) (fv : Value) (w : World) (hn : n < 20) (h : Calls Try.prog 125 #[.slice p n cap, .int .i64 0, .int .i64 n, fv] w R) (hR : ∀ e w', R e w' → e = .returned (.tuple #[])) :
  Calls Try.prog 77 #[.slice p n cap, fv] w R := by
 go_enter Try.func77, Try.ntmps77
 go_wp2_with (go_at_call 107; refine (stable_tast R p n cap fv _ hn h hR).mono ?_; rintro e w' hr; obtain rfl := hR _ _ hr)
 go_end0
 exact hr

set_option maxRecDepth 100000 in
theorem sort_tast (base : Nat) (A : Option Addr) (n c : Nat) (l : List Tast) (x : Tast) (w : World) (hO : Own w base 65 6 A (n + 1) c ((l ++ [x]).flatMap Tast.vals)) (hn : n ≤ 18) (hl : l.Pairwise (fun a b => a.num < b.num)) :
  Calls Try.prog 77 #[.slice A (n + 1) c, .func (.func 78) #[] #[]] w fun e w' =>
   e = .returned (.tuple #[]) ∧ Own w' base 65 6 A (n + 1) c ((insS l x).flatMap Tast.vals) ∧ w.grownBy w' (A.map (·.block)) := by
 have hlen : l.length = n := by
  have := hO.len
  rw [flat_len' tast_k, List.length_append, List.length_singleton] at this
  omega
 rcases hO.form with ⟨rfl, h0, _, _⟩ | ⟨g, cur, rfl, hbg, hblk, hnc, hcm, hsz, htake, _⟩
 ·omega
 have hd : (l ++ [x]).toArray.size = n + 1 := by simp [hlen]
 have hat : ∀ t, t < (n + 1) * 6 → cur[t]? = ((l ++ [x]).flatMap Tast.vals)[t]? := fun t ht => by
  rw [← htake, List.getElem?_take_of_lt (by omega), Array.getElem?_toList]
 have hH : HoldsK Tast.vals 6 w g 0 (l ++ [x]).toArray := by
  intro t ht
  rw [size_flatK, hd] at ht
  refine ⟨?_, hblk.frozen _⟩
  rw [Nat.zero_add, hblk.cell, hat t ht, flat_at _ _ (by rw [List.length_append, List.length_singleton, hlen]; exact ht), get_flatK _ _ _ _ (by rw [hd]; exact ht)]
  rfl
 have eg : ∀ args w, (callFunc 78 args).run Try.prog w = .ok (.enter 78 args) w := enters_of Try.func78 (by kernel_rfl) rfl
 have hcon := AnyQ.insertionSortCmpFunc insTast 6 Try.isAgg65 Try.sizeOf65 Tast.vals tast_k (fun x v hv => by simp [Tast.vals] at hv; rcases hv with rfl | rfl | rfl | rfl | rfl | rfl <;> rfl) (fun x y => cmpI x.num y.num) 78 #[] g 0 c 0 (n + 1) (l ++ [x]).toArray w eg (put1_lays _ _ _ _) hH hblk.lt (Nat.zero_le _) (by rw [hd]; exact Nat.le_refl _) (by rw [hd]; omega)
 rw [lt_tast, hd] at hcon
 have hs := ins_all (x := x) hl
 rw [hlen] at hs
 rw [hs] at hcon
 refine (sorts_tast _ (some ⟨g, 0, none⟩) (n + 1) c _ w (by omega) hcon (fun e w' h => h.1)).mono ?_
 rintro e w' ⟨rfl, q, os, rfl⟩
 have hli : (insS l x).length = n + 1 := by rw [insS_len, hlen]
 have h0 : w.heap[g]? = some (.cells cur 65 (0, 0)) := hblk
 have hgs : g < (putRowK Tast.vals 6 (Sort.ahead w q) g 0 (insS l x).toArray).heap.size := by rw [size_putRowK]; exact hblk.lt
 have hb2 : Blk (sortWorldK Tast.vals 6 w g 0 q (insS l x).toArray os) g 65 (putCells id 0 (flatK Tast.vals 6 (insS l x).toArray) cur) := by
  unfold sortWorldK
  show (grow _ os).heap[g]? = _
  rw [heap_grow_old _ os hgs]
  simp [putRowK, putRow, mapBlock, Sort.ahead, Array.getElem?_modify, h0, onCells]
 refine ⟨rfl, Own.mk_ hbg hb2 hnc hcm (by simpa [putCells] using hsz) (by rw [flat_len' tast_k, hli]) (fun k hk => flat_cells (insS l x) cur (by rw [hli, hsz]; exact Nat.mul_le_mul_right 6 hnc) k (by rw [hli]; exact hk)), ⟨rfl, rfl, rfl, ?_, fun k hk hne => ?_⟩⟩
 ·unfold sortWorldK
  rw [size_grow, size_putRowK]
  exact Nat.le_add_right _ _
 ·have hgk : g ≠ k := fun e => hne (by rw [← e]; rfl)
  unfold sortWorldK
  rw [heap_grow_old _ os (by rw [size_putRowK]; exact hk)]
  simp [putRowK, putRow, mapBlock, Sort.ahead, Array.getElem?_modify, hgk]
end Go.Proofs.Ythofngceiecniaa
