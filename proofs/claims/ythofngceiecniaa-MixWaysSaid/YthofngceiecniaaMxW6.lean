/- Part 6 of the texts of this claim, joined. -/
import Derived.Maps.RangeWalk
import Derived.Maps.OwnIn
import Derived.RangeFuncKeeps
import Derived.WideKeyPair
import Derived.Test.YthofngceiecniaaMxW5
set_option linter.unusedVariables false
/- An act more, whatever its kind; rising. -/
namespace Go.Proofs.Ythofngceiecniaa
section
open Go.RowKit
theorem some_dec {α : Type} {P : Prop} [Decidable P] {a : α} : (if P then some a else none).isSome = decide P := by
 by_cases h : P
 ·rw [if_pos h, decide_eq_true h]; rfl
 ·rw [if_neg h, decide_eq_false h]; rfl
theorem done1 (m : Mix) (s : Held) (fr to dr : Int) : right1B m s ⟨1, fr, to, dr⟩ = (doneM m s ⟨1, fr, to, dr⟩).isSome := by
 unfold right1B roomB roomJ doneM
 dsimp only
 rw [if_pos rfl, some_dec, ← Bool.decide_and, decide_eq_decide]
theorem done2 (m : Mix) (s : Held) (fr to dr : Int) : right2B m s ⟨2, fr, to, dr⟩ = (doneM m s ⟨2, fr, to, dr⟩).isSome := by
 unfold right2B heldB heldJ roomB roomJ doneM
 dsimp only
 rw [if_neg (by decide), if_pos rfl]
 by_cases h : idxV m.vessels fr < 0
 ·rw [if_pos h]
  simp
  intro _ h0
  omega
 ·rw [if_neg h, some_dec, ← decide_not, ← Bool.decide_and, ← Bool.decide_and, decide_eq_decide]
  constructor
  ·rintro ⟨h1, ⟨h2, h3⟩, h4, h5, h6⟩; exact ⟨h1, h3, h4, h6⟩
  ·rintro ⟨h1, h2, h3, h4⟩; exact ⟨h1, ⟨by omega, h2⟩, h3, by omega, h4⟩
theorem done3 (m : Mix) (s : Held) (fr to dr : Int) : right3B m s ⟨3, fr, to, dr⟩ = (doneM m s ⟨3, fr, to, dr⟩).isSome := by
 unfold right3B heldB heldJ doneM
 dsimp only
 rw [if_neg (show ¬ (3 : Int) = 1 by decide), if_neg (show ¬ (3 : Int) = 2 by decide), if_pos (show (3 : Int) = 3 from rfl)]
 by_cases h : idxV m.vessels fr < 0
 ·rw [if_pos h]
  simp
  intro _ h0
  omega
 ·rw [if_neg h, some_dec, ← Bool.decide_and, decide_eq_decide]
  constructor
  ·rintro ⟨h1, h2, h3⟩; exact ⟨h1, h3⟩
  ·rintro ⟨h1, h2⟩; exact ⟨h1, by omega, h2⟩
theorem done4 (m : Mix) (s : Held) (fr to dr : Int) : right4B m s ⟨4, fr, to, dr⟩ = (doneM m s ⟨4, fr, to, dr⟩).isSome := by
 unfold right4B doneM
 dsimp only
 rw [if_neg (show ¬ (4 : Int) = 1 by decide), if_neg (show ¬ (4 : Int) = 2 by decide), if_neg (show ¬ (4 : Int) = 3 by decide), if_pos (show (4 : Int) = 4 from rfl)]
 by_cases h : idxV m.vessels fr < 0
 ·rw [if_pos h]
  simp
  intro _ _
  omega
 ·rw [if_neg h, some_dec, ← Bool.decide_and, decide_eq_decide]
  constructor
  ·rintro ⟨h1, h2⟩; exact h1
  ·intro h1; exact ⟨h1, by omega⟩
theorem done_bad {m : Mix} {s : Held} {x : MAct} (h : ¬ KindOk x) : (doneM m s x).isSome = false := by
 unfold KindOk at h
 unfold doneM
 rw [if_neg (by omega), if_neg (show ¬ x.kind = 2 by omega), if_neg (show ¬ x.kind = 3 by omega), if_neg (show ¬ x.kind = 4 by omega)]
 split <;> rfl
theorem size_small {m : Mix} {s : Held} {x : MAct} (hv : m.vessels.length ≤ 4) (hz : VesOk m) (hs : s.length = 4 ∧ ∀ q : Nat, 0 ≤ heldAt s q ∧ heldAt s q ≤ 1000) (h : (doneM m s x).isSome = true) :
  0 ≤ sizeA m s x ∧ sizeA m s x ≤ 2000 ∧ (x.kind = 4 → 0 ≤ fromI m x) ∧ (fromI m x ≠ toI m x ∨ fromI m x < 0) := by
 obtain ⟨s', hd⟩ := Option.isSome_iff_exists.1 h
 obtain ⟨hok, _⟩ := done_ok hd hs.1 hv
 have hap : fromI m x ≠ toI m x ∨ fromI m x < 0 := by
  unfold fromI toI
  by_cases e1 : x.kind = 1
  ·right; rw [if_pos e1]; decide
  ·by_cases e2 : x.kind = 2
   ·left
    have := hok.apart e2
    simp only [e2]
    simpa using this
   ·left
    have := hok.from_ e1
    rw [if_neg e1, if_neg (by omega)]
    omega
 have hh : ∀ j : Int, 0 ≤ heldAt s j ∧ heldAt s j ≤ 1000 := fun j => by rw [heldAt_nat]; exact hs.2 _
 refine ⟨?_, ?_, fun e4 => by unfold fromI; rw [if_neg (by omega)]; exact hok.from_ (by omega), hap⟩
 ·unfold sizeA
  split
  ·exact (hh _).1
  ·rename_i e4
   have := hok.size
   have := hok.kind
   omega
 ·unfold sizeA
  split
  ·have := (hh (fromI m x)).2; omega
  ·rename_i e4
   by_cases e1 : x.kind = 1
   ·unfold doneM at hd
    rw [if_pos e1] at hd
    split at hd
    ·rename_i hc
     obtain ⟨_, h0, _, h2⟩ := hc
     have h3 := (hh (idxV m.vessels x.to)).1
     have h4 : sizeV m.vessels (idxV m.vessels x.to) ≤ 12 := by
      unfold sizeV
      have hlt := idxV_lt h0
      rw [List.getElem?_eq_getElem (by omega)]
      exact (hz _ (List.getElem_mem _)).2
     omega
    ·cases hd
   ·have := hok.size.2 (by have := hok.kind; omega)
    have := (hh (idxV m.vessels x.fr)).2
    omega
theorem held_le {s : Held} (hs : s.length = 4 ∧ ∀ q : Nat, 0 ≤ heldAt s q ∧ heldAt s q ≤ 1000) : s.length = 4 ∧ Small s 2000 := ⟨hs.1, fun q => by have := hs.2 q; omega⟩
theorem act_in (B : Nat) (T : Tb) (k : Nat) (x : MAct) (s : Held) (w : World) (h : TbOwn w B T) (hx : T.m.acts[k]? = some x) (ha : T.L[k]? = some s) (hn : T.nl ≤ 12) (hz : VesOk T.m) (hs : s.length = 4 ∧ ∀ q : Nat, 0 ≤ heldAt s q ∧ heldAt s q ≤ 1000) :
  CallsIn Fence.wide 9 Try.prog 84 #[.pointer (some ⟨T.g, 0, none⟩), .int .i64 k] w (ActOut w B T (doneM T.m s x).isSome (shiftH s (fromI T.m x) (toI T.m x) (sizeA T.m s x))) := by
 have hv : T.m.vessels.length ≤ 4 := by have := h.mix.lenV; have := h.small; omega
 by_cases hk : KindOk x
 ·obtain ⟨kk, fr, to, dr⟩ := x
  have hk' := hk
  rcases hk' with e | e | e | e <;> dsimp only at e <;> subst e
  ·refine act_core B T k ⟨1, fr, to, dr⟩ s 116 (.func (.func 118) #[] #[]) (.func (.func 119) #[] #[]) _ w h hx ha hn hk (fun _ => by kernel_rfl) enters_kinds1 (fun _ => by kernel_rfl) (fun W hW => ?_) (held_le hs) (fun hr => size_small hv hz hs hr)
   rw [← done1]
   exact kind1_in T s _ W (h.at_.below hW) hs.2 hz
  ·refine act_core B T k ⟨2, fr, to, dr⟩ s 120 (.func (.func 122) #[] #[]) (.func (.func 119) #[] #[]) _ w h hx ha hn hk (fun _ => by kernel_rfl) enters_kinds2 (fun _ => by kernel_rfl) (fun W hW => ?_) (held_le hs) (fun hr => size_small hv hz hs hr)
   rw [← done2]
   exact kind2_in T s _ W (h.at_.below hW) hs.2 hz
  ·refine act_core B T k ⟨3, fr, to, dr⟩ s 123 (.func (.func 122) #[] #[]) (.func (.func 118) #[] #[]) _ w h hx ha hn hk (fun _ => by kernel_rfl) enters_kinds3 (fun _ => by kernel_rfl) (fun W hW => ?_) (held_le hs) (fun hr => size_small hv hz hs hr)
   rw [← done3]
   exact kind3_in T s _ W (h.at_.below hW) hs.2 hz
  ·refine act_core B T k ⟨4, fr, to, dr⟩ s 124 (.func (.func 122) #[] #[]) (.func (.func 118) #[] #[]) _ w h hx ha hn hk (fun _ => by kernel_rfl) enters_kinds4 (fun _ => by kernel_rfl) (fun W hW => ?_) (held_le hs) (fun hr => size_small hv hz hs hr)
   rw [← done4]
   exact kind4_in T s _ W (h.at_.below hW) hs.2 hz
 ·rw [done_bad hk]
  exact (act_bad B T k x s w h hx ha hk).mono fun e w' ⟨h1, h2⟩ => .inl ⟨rfl, h1, h2⟩
theorem ris_step {l : List Int} {k : Nat} {x : Int} (hx : l[k]? = some x) (h : risB 0 (l.take k) = true) : risB 0 (l.take (k + 1)) = inB ((l.take k).getLast?.getD 0 + 1) 9999 [x] := by
 obtain ⟨hk, rfl⟩ := List.getElem?_eq_some_iff.1 hx
 rw [List.take_succ_eq_append_getElem hk, risB_snoc, h, Bool.true_and, inB_one]
theorem ris_pre : ∀ {a : Int} {l : List Int} {k : Nat}, risB a l = true → risB a (l.take k) = true
 | _, [], _, _ => by simp [risB]
 | _, _ :: _, 0, _ => rfl
 | a, x :: l, k + 1, h => by
  unfold risB at h
  rw [Bool.and_eq_true] at h
  show risB a (x :: l.take k) = true
  unfold risB
  rw [Bool.and_eq_true]
  exact ⟨h.1, ris_pre h.2⟩
theorem ris_last {l : List Int} (h : risB 0 l = true) : 0 ≤ l.getLast?.getD 0 ∧ l.getLast?.getD 0 ≤ 9999 := by
 cases hl : l.getLast? with
 | none => simp
 | some x =>
  have := (risB_pair h).2 x (List.mem_of_getLast? hl)
  simp
  omega
set_option maxRecDepth 100000 in
set_option maxHeartbeats 4000000 in
theorem rising_any (A : Option Addr) (n c : Nat) (l : List Int) (w : World) (hr : IntsAt w w.heap.size A n l) (hn : n ≤ 1000) :
  Calls Try.prog 81 #[.slice A n c] w fun e w' => e = .returned (.bool (risB 0 l)) ∧ Below w.heap.size w w' := by
 have HR := lh hr
 go_enter Try.func81, Try.ntmps81
 go_wp2_with fail
 go_loopw [3, 5, 8] (fun p q i wr => ∃ k : Nat, k ≤ n ∧ i = .int .i64 k ∧ p = .int .i64 ((l.take k).getLast?.getD 0) ∧ Hid (risB 0 (l.take k) = true ∧ Below w.heap.size w wr))
  (fun _ _ i _ => n - (intOf i).toNat)
 case atStart => exact ⟨0, by omega, rfl, rfl, lh ⟨rfl, Below.refl _ _⟩⟩
 case round =>
  obtain ⟨k, hk, rfl, rfl, HS⟩ := hrel
  obtain ⟨hl0, hl1⟩ := ris_last HS.out.1
  obtain ⟨p, hp⟩ : ∃ p, (l.take k).getLast?.getD 0 = p := ⟨_, rfl⟩
  rw [hp] at hl0 hl1 ⊢
  by_cases hlt : k < n
  ·obtain ⟨b, off, x, rfl, hbB, hx, hc⟩ := (HR.out.below HS.out.2).cell hlt
   have HX := lh hx
   have HP := lh hp
   clear hx hp hr
   go_wp2_with fail
   have hb1 : Below wr.heap.size wr (wr.alloc (.cells #[.int .i64 x] 3)) := (Below.refl _ _).alloc (Nat.le_refl _) _
   refine (in_any (p + 1) 9999 (some ⟨wr.heap.size, 0, none⟩) 1 1 [x] _ (IntsAt.new wr 3 [x] _ (by simp)) (by decide)).mono ?_
   rintro e W ⟨rfl, hb2⟩
   have HB := lh (HS.out.2.trans ((hb1.trans (hb2.mono hb1.size)).mono HS.out.2.size))
   have HRS := lh (ris_step HX.out HS.out.1)
   rw [HP.out] at HRS
   clear hb1 hb2
   cases hi : inB (p + 1) 9999 [x] with
   | false =>
    rw [hi] at HRS
    clear hi
    go_wp2_with fail
    go_ret
    refine ⟨ret_bool ?_, HB.out⟩
    cases h0 : risB 0 l with
    | false => rfl
    | true => exact absurd ((ris_pre (k := k + 1) h0).symm.trans HRS.out) (by decide)
   | true =>
    rw [hi] at HRS
    clear hi
    go_wp2_with fail
    go_roundw
    case rel =>
     refine ⟨k + 1, by omega, by go_num, ?_, lh ⟨HRS.out, HB.out⟩⟩
     obtain ⟨hk2, rfl⟩ := List.getElem?_eq_some_iff.1 HX.out
     rw [List.take_succ_eq_append_getElem hk2, List.getLast?_concat]
     rfl
    case measure => simp [intOf]; omega
  ·go_wp2_with fail
   go_ret
   have hl := HR.out.len
   have h1 := HS.out.1
   rw [List.take_of_length_le (by omega)] at h1
   exact ⟨ret_bool h1.symm, HS.out.2⟩
end
section
open Go.RowKit
theorem Lay.row {w W W' : World} {bs : List (Nat × TypeId × Array Value)} (h : Lay w W bs) {row : Option Nat} (hg : W.grownBy W' row) (hr : ∀ r, row = some r → w.heap.size ≤ r ∧ ∀ b ∈ bs, b.1 ≠ r) : Lay w W' bs :=
 ⟨h.1.grown hg h.1.size (fun k hk => (hr k hk).1), fun b hb => ⟨(h.2 b hb).1, (h.2 b hb).2.grown hg (fun e => (hr _ e.symm).2 b hb rfl)⟩⟩
theorem own_row {w : World} {base n cap size : Nat} {e : TypeId} {A : Option Addr} {xs : List Value} (h : Own w base e size A n cap xs) : ∀ r, A.map (·.block) = some r → base ≤ r ∧ r < w.heap.size := by
 intro r hr
 cases hA : A with
 | none => rw [hA] at hr; cases hr
 | some a => rw [hA] at hr; cases hr; exact h.lt hA
theorem lay3_row {w W W' : World} {t0 t1 t2 : TypeId} {c0 c1 c2 : Array Value} (h : Lay w W [(w.heap.size, t0, c0), (w.heap.size + 1, t1, c1), (w.heap.size + 1 + 1, t2, c2)]) {row : Option Nat} (hg : W.grownBy W' row) (hr : ∀ r, row = some r → w.heap.size + 3 ≤ r) : Lay w W' [(w.heap.size, t0, c0), (w.heap.size + 1, t1, c1), (w.heap.size + 1 + 1, t2, c2)] :=
 h.row hg fun r e => ⟨by have := hr r e; omega, fun b hb => by
  have := hr r e
  simp only [List.mem_cons, List.not_mem_nil, or_false] at hb
  rcases hb with rfl | rfl | rfl <;> dsimp only <;> omega⟩
theorem one_int {W : World} {g : Nat} {x : Int} {B : Nat} (hB : g < B) (h : W.cell? ⟨g, 0, none⟩ = some (.int .i64 x)) : Reads W B 1 (some ⟨g, 0, none⟩) 1 ([x].map (Value.int .i64)) :=
 ⟨rfl, fun _ => ⟨_, rfl, hB, fun j u hu => by
  match j, hu with
  | 0, hu => simp at hu; rw [← hu]; simpa [Addr.add] using h⟩⟩
theorem ints_of_own {w : World} {base n cap B : Nat} {e : TypeId} {A : Option Addr} {l : List Int} (h : Own w base e 1 A n cap (l.map (Value.int .i64))) (hB : w.heap.size ≤ B) : IntsAt w B A n l := h.reads hB
theorem vessB_in (v : Vess) : inB 1 12 [v.size] = vessB v := by rw [inB_one]; rfl
theorem all_step {α : Type} {p : α → Bool} {l : List α} {k : Nat} {x : α} (hx : l[k]? = some x) (h : (l.take k).all p = true) : (l.take (k + 1)).all p = p x := by
 obtain ⟨hk, rfl⟩ := List.getElem?_eq_some_iff.1 hx
 rw [List.take_succ_eq_append_getElem hk, List.all_append, h]
 simp
theorem all_pre {α : Type} {p : α → Bool} {l : List α} {k : Nat} (h : l.all p = true) : (l.take k).all p = true := by
 rw [List.all_eq_true] at h ⊢
 exact fun x hx => h x (List.mem_of_mem_take hx)
theorem allM_take {m : Mix} {l : List MAct} {k : Nat} {x : MAct} {L : List Held} {s : Held} (hx : l[k]? = some x) (h : allM m (l.take k) = some L) (hs : L[k]? = some s) : allM m (l.take (k + 1)) = (doneM m s x).map fun s' => L ++ [s'] := by
 obtain ⟨hk, rfl⟩ := List.getElem?_eq_some_iff.1 hx
 rw [List.take_succ_eq_append_getElem hk, allM_snoc, h]
 unfold stepM
 simp only [Option.bind_some]
 have hl := allM_len m _ L h
 rw [List.length_take, Nat.min_eq_left (Nat.le_of_lt hk)] at hl
 have : L.getLast?.getD [] = s := by
  rw [List.getLast?_eq_getElem?, hl, Nat.add_sub_cancel, hs]
  rfl
 rw [this]
theorem allM_fail {m : Mix} : ∀ {l : List MAct} {k : Nat}, allM m (l.take k) = none → allM m l = none := by
 intro l k h
 have e : l = l.take k ++ l.drop k := (List.take_append_drop k l).symm
 unfold allM at h ⊢
 rw [e, List.foldl_append, h, fold_noneM]
theorem done_range {m : Mix} {s s' : Held} {x : MAct} (hv : m.vessels.length ≤ 4) (hz : VesOk m) (hs : s.length = 4) (hb : ∀ q : Nat, 0 ≤ heldAt s q ∧ heldAt s q ≤ 12) (h : doneM m s x = some s') : s'.length = 4 ∧ ∀ q : Nat, 0 ≤ heldAt s' q ∧ heldAt s' q ≤ 12 := by
 obtain ⟨hok, e⟩ := done_ok h hs hv
 have hl : s'.length = 4 := by rw [e, shift_len]; exact hs
 refine ⟨hl, fun q => ?_⟩
 by_cases hq : q < 4
 ·rw [e, shift_get hv x hs _ hq]
  have hbq := hb q
  have hap := (size_small hv hz ⟨hs, fun q => by have := hb q; omega⟩ (by rw [h]; rfl)).2.2.2
  have h0 := (size_small hv hz ⟨hs, fun q => by have := hb q; omega⟩ (by rw [h]; rfl)).1
  have hto : toI m x = (q : Int) → heldAt s q + sizeA m s x ≤ 12 := by
   intro ht
   have hsz : ∀ id : Int, 0 ≤ idxV m.vessels id → sizeV m.vessels (idxV m.vessels id) ≤ 12 := by
    intro id h0
    unfold sizeV
    have hlt := idxV_lt h0
    rw [List.getElem?_eq_getElem (by omega)]
    exact (hz _ (List.getElem_mem _)).2
   unfold toI at ht
   by_cases e1 : x.kind = 1
   ·rw [if_pos (.inl e1)] at ht
    unfold doneM at h
    rw [if_pos e1] at h
    split at h
    ·rename_i hc
     obtain ⟨_, c0, _, c2⟩ := hc
     have := hsz _ c0
     rw [ht] at c2 this
     unfold sizeA
     rw [if_neg (by omega)]
     omega
    ·cases h
   ·by_cases e2 : x.kind = 2
    ·rw [if_pos (.inr e2)] at ht
     unfold doneM at h
     rw [if_neg e1] at h
     rw [if_neg (show ¬ idxV m.vessels x.fr < 0 from fun hlt => by have := hok.from_ e1; omega), if_pos e2] at h
     ·split at h
      ·rename_i hc
       obtain ⟨_, _, c0, c2⟩ := hc
       have := hsz _ c0
       rw [ht] at c2 this
       unfold sizeA
       rw [if_neg (by omega)]
       omega
      ·cases h
    ·rw [if_neg (by omega)] at ht
     omega
  have hfr : fromI m x = (q : Int) → sizeA m s x ≤ heldAt s q := by
   intro hf
   unfold sizeA
   split
   ·rw [hf]; exact Int.le_refl _
   ·rename_i e4
    have e1 : x.kind ≠ 1 := fun e1 => by unfold fromI at hf; rw [if_pos e1] at hf; omega
    unfold fromI at hf
    rw [if_neg e1] at hf
    rw [← hf]
    exact (hok.size.2 (by have := hok.kind; omega)).2
  by_cases p1 : toI m x = (q : Int) <;> by_cases p2 : fromI m x = (q : Int)
  ·rw [if_pos p1, if_pos p2]; omega
  ·have := hto p1; rw [if_pos p1, if_neg p2]; omega
  ·have := hfr p2; rw [if_neg p1, if_pos p2]; omega
  ·rw [if_neg p1, if_neg p2]; omega
 ·unfold heldAt
  rw [List.getElem?_eq_none (by omega)]
  decide
theorem vesOk_of {m : Mix} (h : m.vessels.all vessB = true) : VesOk m := by
 intro v hv
 exact of_decide_eq_true (List.all_eq_true.1 h v hv)
def LaidOut (w : World) (Av : Option Addr) (nv cv : Nat) (Aa : Option Addr) (na ca : Nat) (At : Option Addr) (nt ct : Nat) (m : Mix) (e : Ending) (w' : World) : Prop :=
 ∃ p, e = .returned (.tuple #[.pointer p, .bool (okMix m)]) ∧ Below w.heap.size w w' ∧ (okMix m = true → ∃ g AA nl cl L, p = some ⟨g, 0, none⟩ ∧ w.heap.size ≤ g ∧ allM m m.acts = some L ∧ TbOwn w' w.heap.size ⟨g, Av, nv, cv, Aa, na, ca, At, nt, ct, AA, nl, cl, m, L⟩)
theorem LaidOut.bad {w w' : World} {Av Aa At : Option Addr} {nv cv na ca nt ct : Nat} {m : Mix} (h : okMix m = false) (hb : Below w.heap.size w w') : LaidOut w Av nv cv Aa na ca At nt ct m (.returned (.tuple #[.pointer none, .bool false])) w' :=
 ⟨none, by rw [h], hb, fun h' => by rw [h] at h'; cases h'⟩
theorem bad_limits {m : Mix} (h : ¬ ((1 ≤ m.fountains ∧ m.fountains ≤ 4) ∧ m.vessels.length ≤ 4 ∧ m.acts.length ≤ 12 ∧ m.tastes.length ≤ 8)) : okMix m = false := by
 unfold okMix
 by_cases h1 : 1 ≤ m.fountains ∧ m.fountains ≤ 4
 ·have : ¬ (m.vessels.length ≤ 4 ∧ m.acts.length ≤ 12 ∧ m.tastes.length ≤ 8) := fun h2 => h ⟨h1, h2⟩
  rw [decide_eq_false this]
  simp
 ·rw [decide_eq_false h1]
  simp
theorem bad_vess {m : Mix} (h : m.vessels.all vessB = false) : okMix m = false := by unfold okMix; rw [h]; simp
theorem bad_tast {m : Mix} (h : m.tastes.all (tastB m) = false) : okMix m = false := by unfold okMix; rw [h]; simp
theorem bad_acts {m : Mix} (h : allM m m.acts = none) : okMix m = false := by unfold okMix; rw [h]; simp
theorem ok_rest {m : Mix} {L : List Held} (h1 : (1 ≤ m.fountains ∧ m.fountains ≤ 4) ∧ m.vessels.length ≤ 4 ∧ m.acts.length ≤ 12 ∧ m.tastes.length ≤ 8) (h2 : m.vessels.all vessB = true) (h3 : m.tastes.all (tastB m) = true) (h4 : allM m m.acts = some L) :
  okMix m = (risB 0 (m.vessels.map (·.id)) && risB 0 (m.tastes.map (·.num))) := by
 unfold okMix
 rw [decide_eq_true h1.1, decide_eq_true h1.2, h2, h3, h4]
 rfl
end
section
open Go.RowKit
def LdA (w W : World) (bs : List (Nat × TypeId × Array Value)) (A5 : Option Addr) (k c5 : Nat) (m : Mix) : Prop :=
 Lay w W bs ∧ Own W (w.heap.size + 3) 3 1 A5 k c5 (((m.vessels.take k).map (·.id)).map (Value.int .i64)) ∧ (m.vessels.take k).all vessB = true
def LdB (w W : World) (bs : List (Nat × TypeId × Array Value)) (A5 : Option Addr) (nv c5 : Nat) (A6 : Option Addr) (k c6 : Nat) (m : Mix) : Prop :=
 Lay w W bs ∧ Own W (w.heap.size + 3) 3 1 A5 nv c5 ((m.vessels.map (·.id)).map (Value.int .i64)) ∧ Own W (w.heap.size + 3) 3 1 A6 k c6 (((m.tastes.take k).map (·.num)).map (Value.int .i64)) ∧ (∀ a b, A5 = some a → A6 = some b → a.block ≠ b.block) ∧ (m.tastes.take k).all (tastB m) = true
def LdC (w W : World) (T : Tb) (A5 : Option Addr) (c5 : Nat) (A6 : Option Addr) (c6 k : Nat) : Prop :=
 TbOwn W w.heap.size T ∧ Below w.heap.size w W ∧ allM T.m (T.m.acts.take k) = some T.L ∧ (∀ (j : Nat) (s : Held), T.L[j]? = some s → s.length = 4 ∧ ∀ q : Nat, 0 ≤ heldAt s q ∧ heldAt s q ≤ 12) ∧
 (Own W (w.heap.size + 3) 3 1 A5 T.nv c5 ((T.m.vessels.map (·.id)).map (Value.int .i64)) ∧ Own W (w.heap.size + 3) 3 1 A6 T.nt c6 ((T.m.tastes.map (·.num)).map (Value.int .i64))) ∧
 ∀ a, (A5 = some a ∨ A6 = some a) → a.block < W.heap.size ∧ a.block ≠ T.g ∧ some a.block ≠ T.AA.map (·.block)
theorem Own.keep2 {w w' : World} {base n cap size g : Nat} {e : TypeId} {A : Option Addr} {xs : List Value} {row : Option Nat} (h : Own w base e size A n cap xs) (hk : Keep2 w w' g row) (hne : ∀ a, A = some a → a.block ≠ g ∧ some a.block ≠ row) : Own w' base e size A n cap xs := by
 refine ⟨h.1, ?_⟩
 rcases h.2 with h' | ⟨g', cap', cur, hv, hb, hgb, hrest⟩
 ·exact .inl h'
 ·have hA : A = some ⟨g', 0, none⟩ := by simpa using congrArg (fun v => match v with | Value.slice a _ _ => a | _ => none) hv
  have hlt : g' < w.heap.size := (Array.getElem?_eq_some_iff.1 hgb).1
  exact .inr ⟨g', cap', cur, hv, hb, (hk.2 g' hlt (hne _ hA).1 (hne _ hA).2).trans hgb, hrest⟩
theorem ldc_step {w W W' : World} {T : Tb} {A5 A6 A9 : Option Addr} {c5 c6 c9 k : Nat} {x : MAct} {s s' : Held} (h : LdC w W T A5 c5 A6 c6 k) (hx : T.m.acts[k]? = some x) (hs : T.L[k]? = some s) (hd : doneM T.m s x = some s') (hz : VesOk T.m)
  (hT : TbOwn W' w.heap.size (T.plus A9 c9 s')) (hb : Below w.heap.size W W') (hk : Keep2 W W' T.g (T.AA.map (·.block))) (hA : ∀ a, A9 = some a → A9 = T.AA ∨ W.heap.size ≤ a.block) : LdC w W' (T.plus A9 c9 s') A5 c5 A6 c6 (k + 1) := by
 obtain ⟨h1, h2, h3, h4, ⟨h5, h6⟩, h7⟩ := h
 have hv : T.m.vessels.length ≤ 4 := by have := h1.mix.lenV; have := h1.small; omega
 refine ⟨hT, h2.trans hb, ?_, ?_, ⟨h5.keep2 hk (fun a ha => (h7 a (.inl ha)).2), h6.keep2 hk (fun a ha => (h7 a (.inr ha)).2)⟩, fun a ha => ?_⟩
 ·show allM T.m (T.m.acts.take (k + 1)) = some (T.L ++ [s'])
  rw [allM_take hx h3 hs, hd]
  rfl
 ·intro j u hu
  have hu' : (T.L ++ [s'])[j]? = some u := hu
  by_cases hj : j < T.L.length
  ·rw [List.getElem?_append_left hj] at hu'
   exact h4 j u hu'
  ·rw [List.getElem?_append_right (by omega)] at hu'
   have hj0 : j - T.L.length = 0 := by
    have := (List.getElem?_eq_some_iff.1 hu').1
    simp at this
    omega
   rw [hj0] at hu'
   have e : s' = u := by simpa using hu'
   rw [← e]
   have := h4 k s hs
   exact done_range hv hz this.1 this.2 hd
 ·obtain ⟨q1, q2, q3⟩ := h7 a ha
  refine ⟨Nat.lt_of_lt_of_le q1 hk.1, q2, ?_⟩
  show some a.block ≠ A9.map (·.block)
  cases h9 : A9 with
  | none => simp
  | some b =>
   rcases hA b h9 with e | e
   ·rw [← h9, e]; exact q3
   ·intro e2
    have := Option.some.inj e2
    dsimp only at this
    omega
theorem tb_first {w W : World} {Av Aa At : Option Addr} {nv cv na ca nt ct : Nat} {m : Mix} (h : Lay w W [(w.heap.size, 26, #[.int .i64 m.fountains, .slice Av nv cv, .slice Aa na ca, .slice At nt ct]), (w.heap.size + 1, 97, #[.int .i64 0, .int .i64 0, .int .i64 0, .int .i64 0]), (w.heap.size + 1 + 1, 123, #[.int .i64 m.fountains, .slice Av nv cv, .slice Aa na ca, .slice At nt ct, .slice (some ⟨w.heap.size + 1, 0, none⟩) 1 1])]) (hm : MixAt w w.heap.size Av nv Aa na At nt m) (hn : nv ≤ 4 ∧ na ≤ 12 ∧ nt ≤ 8) :
  TbAt W ⟨w.heap.size + 1 + 1, Av, nv, cv, Aa, na, ca, At, nt, ct, some ⟨w.heap.size + 1, 0, none⟩, 1, 1, m, [zeroH]⟩ := by
 refine ⟨h.blk 2 rfl, hm.up h.1, ?_, hn.1, hn.2.1, hn.2.2, (by show 1 ≤ 13; decide)⟩
 have hb := h.blk 1 rfl
 refine ⟨rfl, fun _ => ⟨_, rfl, hb.lt, fun j u hu => ?_⟩⟩
 have ha : ((⟨w.heap.size + 1, 0, none⟩ : Addr).add j) = ⟨w.heap.size + 1, j, none⟩ := by
  unfold Addr.add
  by_cases hj : j = 0
  ·subst hj; simp
  ·simp [hj]
 rw [ha, hb.cell, ← Array.getElem?_toList]
 exact hu
theorem zero_range : zeroH.length = 4 ∧ ∀ q : Nat, 0 ≤ heldAt zeroH q ∧ heldAt zeroH q ≤ 12 := by
 refine ⟨rfl, fun q => ?_⟩
 match q with
 | 0 => decide
 | 1 => decide
 | 2 => decide
 | 3 => decide
 | q + 4 =>
  have : heldAt zeroH ((q + 4 : Nat) : Int) = 0 := by
   unfold heldAt
   rw [List.getElem?_eq_none (by simp [zeroH]; omega)]
   rfl
  rw [this]
  decide
theorem tb_own {w W : World} {Av Aa At : Option Addr} {nv cv na ca nt ct : Nat} {m : Mix} (h : Lay w W [(w.heap.size, 26, #[.int .i64 m.fountains, .slice Av nv cv, .slice Aa na ca, .slice At nt ct]), (w.heap.size + 1, 97, #[.int .i64 0, .int .i64 0, .int .i64 0, .int .i64 0]), (w.heap.size + 1 + 1, 123, #[.int .i64 m.fountains, .slice Av nv cv, .slice Aa na ca, .slice At nt ct, .slice (some ⟨w.heap.size + 1, 0, none⟩) 1 1])]) (hm : MixAt w w.heap.size Av nv Aa na At nt m) (hn : nv ≤ 4 ∧ na ≤ 12 ∧ nt ≤ 8) :
  TbOwn W w.heap.size ⟨w.heap.size + 1 + 1, Av, nv, cv, Aa, na, ca, At, nt, ct, some ⟨w.heap.size + 1, 0, none⟩, 1, 1, m, [zeroH]⟩ := by
 refine ⟨h.blk 2 rfl, hm.below h.1, ⟨rfl, .inr ⟨w.heap.size + 1, 1, _, rfl, by omega, h.blk 1 rfl, Nat.le_refl _, by unfold maxLen; omega, rfl, rfl⟩⟩, ?_, ⟨h.1.size, by dsimp only; omega⟩, hn.1, hn.2.1, hn.2.2, (by show 1 ≤ 13; decide)⟩
 intro a ha
 cases ha
 dsimp only
 omega
theorem tast_no {m : Mix} {k : Nat} {x : Tast} (hx : m.tastes[k]? = some x) (h : tastB m x = false) : m.tastes.all (tastB m) = false := by
 cases h0 : m.tastes.all (tastB m) with
 | false => rfl
 | true => exact absurd ((List.all_eq_true.1 h0 x (List.mem_of_getElem? hx)).symm.trans h) (by decide)
set_option maxRecDepth 100000 in
set_option maxHeartbeats 16000000 in
theorem laid_any (Av : Option Addr) (nv cv : Nat) (Aa : Option Addr) (na ca : Nat) (At : Option Addr) (nt ct : Nat) (m : Mix) (w : World) (h : MixAt w w.heap.size Av nv Aa na At nt m) (hnv : nv ≤ 1000) (hna : na ≤ 1000) (hnt : nt ≤ 1000) :
  Calls Try.prog 39 #[.agg #[.int .i64 m.fountains, .slice Av nv cv, .slice Aa na ca, .slice At nt ct]] w (LaidOut w Av nv cv Aa na ca At nt ct m) := by
 have HM := lh h
 have HLV := lh h.lenV
 have HLA := lh h.lenA
 have HLT := lh h.lenT
 clear h
 go_enter Try.func39, Try.ntmps39
 go_upto_region 2 with fail
 have Ly := lh (Lay.three w 26 #[.int .i64 m.fountains, .slice Av nv cv, .slice Aa na ca, .slice At nt ct] 97 #[.int .i64 0, .int .i64 0, .int .i64 0, .int .i64 0] 123 #[.int .i64 m.fountains, .slice Av nv cv, .slice Aa na ca, .slice At nt ct, .slice (some ⟨w.heap.size + 1, 0, none⟩) 1 1])
 generalize (((w.alloc (.cells #[.int .i64 m.fountains, .slice Av nv cv, .slice Aa na ca, .slice At nt ct] 26)).alloc (.cells #[.int .i64 0, .int .i64 0, .int .i64 0, .int .i64 0] 97)).alloc (.cells #[.int .i64 m.fountains, .slice Av nv cv, .slice Aa na ca, .slice At nt ct, .slice (some ⟨w.heap.size + 1, 0, none⟩) 1 1] 123)) = w0 at *
 obtain ⟨x0, x1, x2, x3⟩ := lyc4 Ly 0 rfl
 have xl := Ly.out.lt 0 rfl
 go_wp2_with fail
 have Y := IntsAt.new w0 3 [m.fountains] (w0.heap.size + 1) (by omega)
 refine (in_any 1 4 (some ⟨w0.heap.size, 0, none⟩) 1 1 [m.fountains] _ (Y.more (by simp)) (by decide)).mono ?_
 rintro e W1 ⟨rfl, hb⟩
 have hb0 : Below w0.heap.size w0 W1 := ((Below.refl _ _).alloc (Nat.le_refl _) _).trans (hb.mono (by simp))
 replace Ly := lyb Ly hb0
 clear hb hb0 x0 x1 x2 x3 xl Y
 obtain ⟨x0, x1, x2, x3⟩ := lyc4 Ly 0 rfl
 have xl := Ly.out.lt 0 rfl
 by_cases hG : (1 ≤ m.fountains ∧ m.fountains ≤ 4) ∧ m.vessels.length ≤ 4 ∧ m.acts.length ≤ 12 ∧ m.tastes.length ≤ 8
 ·have HG := lh hG
  have hi : inB 1 4 [m.fountains] = true := by rw [inB_one]; exact decide_eq_true hG.1
  have hn4 : nv ≤ 4 := by have := HLV.out; omega
  have hn12 : na ≤ 12 := by have := HLA.out; omega
  have hn8 : nt ≤ 8 := by have := HLT.out; omega
  have d1 : (nv : Int) ≤ 4 := by omega
  have d2 : (na : Int) ≤ 12 := by omega
  have d3 : (nt : Int) ≤ 8 := by omega
  rw [hi]
  clear hi hG
  go_wp2_with fail
  clear d1 d2 d3 x0 x1 x2 x3 xl
  go_loopw [5, 43] (fun v5 i wr => ∃ (k : Nat) (A5 : Option Addr) (c5 : Nat), k ≤ nv ∧ i = .int .i64 k ∧ v5 = .slice A5 k c5 ∧ Hid (LdA w wr [(w.heap.size, 26, #[.int .i64 m.fountains, .slice Av nv cv, .slice Aa na ca, .slice At nt ct]), (w.heap.size + 1, 97, #[.int .i64 0, .int .i64 0, .int .i64 0, .int .i64 0]), (w.heap.size + 1 + 1, 123, #[.int .i64 m.fountains, .slice Av nv cv, .slice Aa na ca, .slice At nt ct, .slice (some ⟨w.heap.size + 1, 0, none⟩) 1 1])] A5 k c5 m))
   (fun _ i _ => nv - (intOf i).toNat)
  case atStart => exact ⟨0, none, 0, by omega, rfl, rfl, lh ⟨Ly.out, Own.none_ _ _ _ _, rfl⟩⟩
  case round =>
   clear Ly
   obtain ⟨k, A5, c5, hk, rfl, rfl, HS⟩ := hrel
   have hlay := HS.out.1
   have Ly := lh hlay
   have hW3 : w.heap.size + 3 ≤ wr.heap.size := by have := hlay.lt 2 rfl; omega
   obtain ⟨x0, x1, x2, x3⟩ := lyc4 Ly 0 rfl
   have xl := Ly.out.lt 0 rfl
   clear hlay
   by_cases hlt : k < nv
   ·clear x0 x1 x2 x3 xl
    obtain ⟨b, off, x, rfl, hbB, hx, hc0, hc1⟩ := (HM.out.below Ly.out.1).vess hlt
    have HX := lh hx
    clear hx
    go_upto_region 8 with fail
    have hb1 : Below wr.heap.size wr (wr.alloc (.cells #[.int .i64 x.id, .int .i64 x.size] 80)) := (Below.refl _ _).alloc (Nat.le_refl _) _
    have HN := lh (Blk.new wr 80 #[.int .i64 x.id, .int .i64 x.size])
    obtain ⟨g8, hg8⟩ : ∃ g, wr.heap.size = g := ⟨_, rfl⟩
    generalize wr.alloc (.cells #[.int .i64 x.id, .int .i64 x.size] 80) = wa at *
    have HB1 := lh hb1
    rw [hg8] at HN ⊢
    have y1 := HN.out.cell 1
    have yl := HN.out.lt
    clear hb1 hc0 hc1
    go_wp2_with fail
    have Y := IntsAt.new wa 3 [x.size] (wa.heap.size + 1) (by omega)
    refine (in_any 1 12 (some ⟨wa.heap.size, 0, none⟩) 1 1 [x.size] _ (Y.more (by simp)) (by decide)).mono ?_
    rintro e W ⟨rfl, hb⟩
    have hb0 : Below wa.heap.size wa W := ((Below.refl _ _).alloc (Nat.le_refl _) _).trans (hb.mono (by simp))
    have HB := lh (HB1.out.trans (hb0.mono HB1.out.size))
    have HN2 := lh (HN.out.below hb0 HN.out.lt)
    clear hb hb0 y1 yl Y HN HB1
    rw [vessB_in]
    have HAS := lh (all_step HX.out HS.out.2.2)
    cases hv : vessB x with
    | false =>
     rw [hv] at HAS
     clear hv
     go_wp2_with fail
     refine bodyPost_ret (v := .tuple #[.pointer none, .bool false]) (by simp [results, Try.results39, go_sem]) rfl (LaidOut.bad (bad_vess ?_) (Ly.out.1.trans (HB.out.mono Ly.out.1.size)))
     cases h0 : m.vessels.all vessB with
     | false => rfl
     | true => exact absurd ((all_pre (k := k + 1) h0).symm.trans HAS.out) (by decide)
    | true =>
     rw [hv] at HAS
     clear hv
     have z0 := HN2.out.cell 0
     have zl := HN2.out.lt
     have HO := lh (HS.out.2.1.below HB.out (Nat.le_refl _))
     go_wp2_with (at_builtin; refine wpList_append_any _ rfl _ _ rfl elem_int rfl (HO.out.alloc _) rfl (one_int (x := x.id) (Nat.lt_succ_self _) (by simp [go_sem])) (ints_one _) (by unfold maxLen; omega) (by omega) (by have := HB.out.size; simp; omega) ?_)
     rintro A2 cap2 w2 hown hg hA
     have hrow := own_row HO.out
     have hla := lay3_row ((Ly.out.below HB.out).below ((Below.refl _ _).alloc (Nat.le_refl _) _)) hg (fun r e => (hrow r e).1)
     have HLA2 := lh hla
     have HOW := lh hown
     clear hown hg hA hrow hla z0 zl
     go_wp2_with fail
     go_roundw
     case rel =>
      refine ⟨k + 1, A2, cap2, by omega, by go_num, rfl, lh ⟨HLA2.out, ?_, HAS.out⟩⟩
      obtain ⟨h1, h2⟩ := List.getElem?_eq_some_iff.1 HX.out
      rw [List.take_succ_eq_append_getElem h1, h2]
      simpa using HOW.out
     case measure => simp [intOf]; omega
   ·obtain rfl : nv = k := by omega
    have hz : m.vessels.all vessB = true := by
     have := HS.out.2.2
     rwa [List.take_of_length_le (by have := HLV.out; omega)] at this
    have hO : Own wr (w.heap.size + 3) 3 1 A5 nv c5 ((m.vessels.map (·.id)).map (Value.int .i64)) := by
     have := HS.out.2.1
     rwa [List.take_of_length_le (by have := HLV.out; omega)] at this
    have HZ := lh hz
    have HO := lh hO
    clear hz hO
    go_wp2_with fail
    clear x0 x1 x2 x3 xl
    obtain ⟨wo, rfl⟩ : ∃ wo, wo = wr := ⟨_, rfl⟩
    go_loopw [6, 61] (fun v6 i wr => ∃ (k : Nat) (A6 : Option Addr) (c6 : Nat), k ≤ nt ∧ i = .int .i64 k ∧ v6 = .slice A6 k c6 ∧ Hid (LdB w wr [(w.heap.size, 26, #[.int .i64 m.fountains, .slice Av nv cv, .slice Aa na ca, .slice At nt ct]), (w.heap.size + 1, 97, #[.int .i64 0, .int .i64 0, .int .i64 0, .int .i64 0]), (w.heap.size + 1 + 1, 123, #[.int .i64 m.fountains, .slice Av nv cv, .slice Aa na ca, .slice At nt ct, .slice (some ⟨w.heap.size + 1, 0, none⟩) 1 1])] A5 nv c5 A6 k c6 m))
     (fun _ i _ => nt - (intOf i).toNat)
    case atStart => exact ⟨0, none, 0, by omega, rfl, rfl, lh ⟨Ly.out, HO.out, Own.none_ _ _ _ _, fun a b _ h => (by cases h), rfl⟩⟩
    case round =>
     clear Ly HO HS
     obtain ⟨k, A6, c6, hk2, rfl, rfl, HS⟩ := hrel
     have hlay := HS.out.1
     have Ly := lh hlay
     have hW3 : w.heap.size + 3 ≤ wr.heap.size := by have := hlay.lt 2 rfl; omega
     obtain ⟨x0, x1, x2, x3⟩ := lyc4 Ly 0 rfl
     have xl := Ly.out.lt 0 rfl
     clear hlay
     by_cases hlt : k < nt
     ·clear x0 x1 x2 x3 xl
      obtain ⟨b, off, x, rfl, hbB, hx, hc0, hc1, hc2, hc3, hc4, hc5⟩ := (HM.out.below Ly.out.1).tast hlt
      have HX := lh hx
      clear hx
      go_upto_region 15 with fail
      have hb1 : Below wr.heap.size wr (wr.alloc (.cells #[.int .i64 x.num, .int .i64 x.vessel, .int .i64 x.after, .int .i64 x.fountain, .int .i64 x.lo, .int .i64 x.hi] 65)) := (Below.refl _ _).alloc (Nat.le_refl _) _
      have HN := lh (Blk.new wr 65 #[.int .i64 x.num, .int .i64 x.vessel, .int .i64 x.after, .int .i64 x.fountain, .int .i64 x.lo, .int .i64 x.hi])
      obtain ⟨g8, hg8⟩ : ∃ g, wr.heap.size = g := ⟨_, rfl⟩
      generalize wr.alloc (.cells #[.int .i64 x.num, .int .i64 x.vessel, .int .i64 x.after, .int .i64 x.fountain, .int .i64 x.lo, .int .i64 x.hi] 65) = wa at *
      have HB1 := lh hb1
      rw [hg8] at HN ⊢
      have y1 := HN.out.cell 1
      have yl := HN.out.lt
      clear hb1 hc0 hc1 hc2 hc3 hc4 hc5
      go_wp2_with fail
      refine (vessel_any ⟨w.heap.size + 1 + 1, Av, nv, cv, Aa, na, ca, some ⟨b, off, none⟩, nt, ct, some ⟨w.heap.size + 1, 0, none⟩, 1, 1, m, [zeroH]⟩ x.vessel wa (tb_first (Ly.out.below HB1.out) HM.out ⟨hn4, hn12, hn8⟩)).mono ?_
      rintro e W ⟨rfl, hb⟩
      have HB := lh (HB1.out.trans (hb.mono HB1.out.size))
      have HN2 := lh (HN.out.below hb HN.out.lt)
      clear hb y1 yl HN HB1
      dsimp only
      by_cases hj : idxV m.vessels x.vessel < 0
      ·have HTB : Hid (tastB m x = false) := lh (by unfold tastB; exact decide_eq_false (by omega))
       go_wp2_with fail
       refine bodyPost_ret (v := .tuple #[.pointer none, .bool false]) (by simp [results, Try.results39, go_sem]) rfl (LaidOut.bad (bad_tast (tast_no HX.out HTB.out)) (Ly.out.1.trans (HB.out.mono Ly.out.1.size)))
      ·have hj2 : 0 ≤ idxV m.vessels x.vessel := by omega
       have q2 := ((Ly.out.below HB.out).blk 0 rfl).cell 2
       have ql := (Ly.out.below HB.out).lt 0 rfl
       have y2 := HN2.out.cell 2
       have yl := HN2.out.lt
       go_wp2_with fail
       have Y := IntsAt.new W 3 [x.after] (W.heap.size + 1) (by omega)
       refine (in_any 0 na (some ⟨W.heap.size, 0, none⟩) 1 1 [x.after] _ (Y.more (by simp)) (by decide)).mono ?_
       rintro e W2 ⟨rfl, hb⟩
       have hb0 : Below W.heap.size W W2 := ((Below.refl _ _).alloc (Nat.le_refl _) _).trans (hb.mono (by simp))
       replace HB := lh (HB.out.trans (hb0.mono HB.out.size))
       replace HN2 := lh (HN2.out.below hb0 HN2.out.lt)
       clear hb hb0 yl Y y2 q2 ql
       obtain ⟨W, rfl⟩ : ∃ W, W = W2 := ⟨_, rfl⟩
       rw [inB_one]
       by_cases ha : 0 ≤ x.after ∧ x.after ≤ (na : Int)
       ·rw [decide_eq_true ha]
        have q0 := ((Ly.out.below HB.out).blk 0 rfl).cell 0
        have ql := (Ly.out.below HB.out).lt 0 rfl
        have y3 := HN2.out.cell 3
        have yl := HN2.out.lt
        have HAF := lh ha
        clear ha
        go_wp2_with fail
        have Y := IntsAt.new W 3 [x.fountain] (W.heap.size + 1) (by omega)
        refine (in_any 1 m.fountains (some ⟨W.heap.size, 0, none⟩) 1 1 [x.fountain] _ (Y.more (by simp)) (by decide)).mono ?_
        rintro e W2 ⟨rfl, hb⟩
        have hb0 : Below W.heap.size W W2 := ((Below.refl _ _).alloc (Nat.le_refl _) _).trans (hb.mono (by simp))
        replace HB := lh (HB.out.trans (hb0.mono HB.out.size))
        replace HN2 := lh (HN2.out.below hb0 HN2.out.lt)
        clear hb hb0 yl Y y3 q0 ql
        obtain ⟨W, rfl⟩ : ∃ W, W = W2 := ⟨_, rfl⟩
        rw [inB_one]
        by_cases hf : 1 ≤ x.fountain ∧ x.fountain ≤ m.fountains
        ·rw [decide_eq_true hf]
         have y4 := HN2.out.cell 4
         have y5 := HN2.out.cell 5
         have yl := HN2.out.lt
         have HFF := lh hf
         clear hf
         by_cases hlo : x.lo < 0
         ·have HTB : Hid (tastB m x = false) := lh (by unfold tastB; exact decide_eq_false (by omega))
          go_wp2_with fail
          refine bodyPost_ret (v := .tuple #[.pointer none, .bool false]) (by simp [results, Try.results39, go_sem]) rfl (LaidOut.bad (bad_tast (tast_no HX.out HTB.out)) (Ly.out.1.trans (HB.out.mono Ly.out.1.size)))
         ·by_cases hhi : x.hi < x.lo
          ·have HTB : Hid (tastB m x = false) := lh (by unfold tastB; exact decide_eq_false (by omega))
           go_wp2_with fail
           refine bodyPost_ret (v := .tuple #[.pointer none, .bool false]) (by simp [results, Try.results39, go_sem]) rfl (LaidOut.bad (bad_tast (tast_no HX.out HTB.out)) (Ly.out.1.trans (HB.out.mono Ly.out.1.size)))
          ·have HTB : Hid (tastB m x = true) := lh (by unfold tastB; have := HAF.out; have := HFF.out; have := HLA.out; exact decide_eq_true (by omega))
           have y0 := HN2.out.cell 0
           have HO5 := lh (HS.out.2.1.below HB.out (Nat.le_refl _))
           have HO6 := lh (HS.out.2.2.1.below HB.out (Nat.le_refl _))
           have HNE := lh HS.out.2.2.2.1
           have HAS : Hid ((m.tastes.take (k + 1)).all (tastB m) = true) := lh ((all_step HX.out HS.out.2.2.2.2).trans HTB.out)
           go_wp2_with (at_builtin; refine wpList_append_any _ rfl _ _ rfl elem_int rfl (HO6.out.alloc _) rfl (one_int (x := x.num) (Nat.lt_succ_self _) (by simp [go_sem])) (ints_one _) (by unfold maxLen; omega) (by omega) (by have := HB.out.size; simp; omega) ?_)
           rintro A2 cap2 w2 hown hg hA
           have hrow := own_row HO6.out
           have hla := lay3_row ((Ly.out.below HB.out).below ((Below.refl _ _).alloc (Nat.le_refl _) _)) hg (fun r e => (hrow r e).1)
           have HLA2 := lh hla
           have HOW := lh hown
           have HO52 := lh ((HO5.out.alloc (.cells #[.int .i64 x.num] 3)).grown hg (fun a ha e => by
            cases h6 : A6 with
            | none => rw [h6] at e; cases e
            | some b => rw [h6] at e; exact HNE.out a b ha h6 (Option.some.inj e)))
           have HNE2 : Hid (∀ a b, A5 = some a → A2 = some b → a.block ≠ b.block) := lh (fun a b ha hb => by
            rcases hA with e | e
            ·exact HNE.out a b ha (e ▸ hb)
            ·rw [e] at hb
             cases hb
             have := (HO5.out.lt ha).2
             simp
             omega)
           clear hown hg hA hrow hla y0 y4 y5 yl
           go_wp2_with fail
           go_roundw
           case rel =>
            refine ⟨k + 1, A2, cap2, by omega, by go_num, rfl, lh ⟨HLA2.out, HO52.out, ?_, HNE2.out, HAS.out⟩⟩
            obtain ⟨h1, h2⟩ := List.getElem?_eq_some_iff.1 HX.out
            rw [List.take_succ_eq_append_getElem h1, h2]
            simpa using HOW.out
           case measure => simp [intOf]; omega
        ·rw [decide_eq_false hf]
         have HTB : Hid (tastB m x = false) := lh (by unfold tastB; exact decide_eq_false (by omega))
         clear hf
         have y4 := HN2.out.cell 4
         go_wp2_with fail
         refine bodyPost_ret (v := .tuple #[.pointer none, .bool false]) (by simp [results, Try.results39, go_sem]) rfl (LaidOut.bad (bad_tast (tast_no HX.out HTB.out)) (Ly.out.1.trans (HB.out.mono Ly.out.1.size)))
       ·rw [decide_eq_false ha]
        have HTB : Hid (tastB m x = false) := lh (by unfold tastB; have := HLA.out; exact decide_eq_false (by omega))
        clear ha
        go_wp2_with fail
        refine bodyPost_ret (v := .tuple #[.pointer none, .bool false]) (by simp [results, Try.results39, go_sem]) rfl (LaidOut.bad (bad_tast (tast_no HX.out HTB.out)) (Ly.out.1.trans (HB.out.mono Ly.out.1.size)))
     ·obtain rfl : nt = k := by omega
      have hz : m.tastes.all (tastB m) = true := by
       have := HS.out.2.2.2.2
       rwa [List.take_of_length_le (by have := HLT.out; omega)] at this
      have hO6 : Own wr (w.heap.size + 3) 3 1 A6 nt c6 ((m.tastes.map (·.num)).map (Value.int .i64)) := by
       have := HS.out.2.2.1
       rwa [List.take_of_length_le (by have := HLT.out; omega)] at this
      have HZT := lh hz
      have HO6 := lh hO6
      have HO5 := lh HS.out.2.1
      have HNE := lh HS.out.2.2.2.1
      clear hz hO6
      go_wp2_with fail
      clear x0 x1 x2 x3 xl HS
      obtain ⟨wp, rfl⟩ : ∃ wp, wp = wr := ⟨_, rfl⟩
      have hst : LdC w wp ⟨w.heap.size + 1 + 1, Av, nv, cv, Aa, na, ca, At, nt, ct, some ⟨w.heap.size + 1, 0, none⟩, 1, 1, m, [zeroH]⟩ A5 c5 A6 c6 0 := by
       refine ⟨tb_own Ly.out HM.out ⟨hn4, hn12, hn8⟩, Ly.out.1, rfl, ?_, ⟨HO5.out, HO6.out⟩, ?_⟩
       ·intro j u hu
        match j, hu with
        | 0, hu =>
         have e : zeroH = u := by simpa using hu
         rw [← e]
         exact zero_range
       ·intro a ha
        have hlt : w.heap.size + 3 ≤ a.block ∧ a.block < wp.heap.size := by
         rcases ha with ha | ha
         ·exact HO5.out.lt ha
         ·exact HO6.out.lt ha
        refine ⟨hlt.2, by dsimp only; omega, ?_⟩
        simp
        omega
      have HST := lh hst
      clear hst Ly HO5 HO6 HNE hW3
      go_loopw [113] (fun i wr => ∃ (k : Nat) (AA : Option Addr) (cl : Nat) (L : List Held), k ≤ na ∧ i = .int .i64 k ∧ Hid (LdC w wr ⟨w.heap.size + 1 + 1, Av, nv, cv, Aa, na, ca, At, nt, ct, AA, k + 1, cl, m, L⟩ A5 c5 A6 c6 k))
       (fun i _ => na - (intOf i).toNat)
      case atStart => exact ⟨0, _, _, _, by omega, rfl, HST⟩
      case round =>
       clear HST
       obtain ⟨k, AA, cl, L, hk3, rfl, HS⟩ := hrel
       by_cases hlt : k < na
       ·have hx : m.acts[k]? = some (m.acts[k]'(by have := HLA.out; omega)) := List.getElem?_eq_getElem (by have := HLA.out; omega)
        obtain ⟨x, hx'⟩ : ∃ x, m.acts[k]'(by have := HLA.out; omega) = x := ⟨_, rfl⟩
        rw [hx'] at hx
        have hlen : L.length = k + 1 := by
         have : L.length = (m.acts.take k).length + 1 := allM_len m _ L HS.out.2.2.1
         rw [List.length_take, Nat.min_eq_left (by have := HLA.out; omega)] at this
         exact this
        have hs : L[k]? = some (L[k]'(by omega)) := List.getElem?_eq_getElem (by omega)
        obtain ⟨s, hs'⟩ : ∃ s, L[k]'(by omega) = s := ⟨_, rfl⟩
        rw [hs'] at hs
        have HX := lh hx
        have HSS := lh hs
        have hr := HS.out.2.2.2.1 k s hs
        have HR := lh (ai hr.1 (fun q : Nat => show 0 ≤ heldAt s q ∧ heldAt s q ≤ 1000 from ⟨(hr.2 q).1, by have := (hr.2 q).2; omega⟩))
        have HVZ := lh (vesOk_of HZ.out)
        have HC := lh (callsIn_wide.1 (act_in w.heap.size ⟨w.heap.size + 1 + 1, Av, nv, cv, Aa, na, ca, At, nt, ct, AA, k + 1, cl, m, L⟩ k x s wr HS.out.1 hx hs (by show k + 1 ≤ 12; omega) HVZ.out HR.out))
        clear hx hx' hs hs' hr hlen
        go_wp2_with fail
        refine HC.out.mono ?_
        rintro e W (⟨hn, rfl, hb⟩ | ⟨A9, c9, hsm, rfl, hT, hb, hkk, hA⟩)
        ·have HN := lh hn
         have HB := lh (HS.out.2.1.trans (hb.mono HS.out.2.1.size))
         clear hn hb HC
         go_wp2_with fail
         refine bodyPost_ret (v := .tuple #[.pointer none, .bool false]) (by simp [results, Try.results39, go_sem]) rfl (LaidOut.bad (bad_acts (allM_fail (k := k + 1) ?_)) HB.out)
         rw [allM_take HX.out HS.out.2.2.1 HSS.out]
         cases hd : doneM m s x with
         | none => rfl
         | some s' => have := HN.out; rw [hd] at this; cases this
        ·obtain ⟨s', hd⟩ := Option.isSome_iff_exists.1 hsm
         have he := (done_ok hd HR.out.1 (by have := HLV.out; omega)).2
         rw [← he] at hT
         have HN := lh (ldc_step HS.out HX.out HSS.out hd HVZ.out hT hb hkk hA)
         clear hsm hd he hT hb hkk hA HC
         go_wp2_with fail
         go_roundw
         case rel => exact ⟨k + 1, A9, c9, L ++ [s'], by omega, by go_num, HN⟩
         case measure => simp [intOf]; omega
       ·obtain rfl : na = k := by omega
        have hL : allM m m.acts = some L := by
         have : allM m (m.acts.take na) = some L := HS.out.2.2.1
         rwa [List.take_of_length_le (by have := HLA.out; omega)] at this
        have HL := lh hL
        clear hL
        go_wp2_with fail
        refine (rising_any A5 nv c5 (m.vessels.map (·.id)) wr (ints_of_own HS.out.2.2.2.2.1.1 (Nat.le_refl _)) hnv).mono ?_
        rintro e W ⟨rfl, hb⟩
        have HB := lh hb
        have HO6 := lh (HS.out.2.2.2.2.1.2.below hb (Nat.le_refl _))
        clear hb
        cases hr : risB 0 (m.vessels.map (·.id)) with
        | false =>
         have HRB := lh hr
         clear hr
         go_wp2_with fail
         refine bodyPost_ret (v := .tuple #[.pointer (some ⟨w.heap.size + 1 + 1, 0, none⟩), .bool false]) (by simp [results, Try.results39, go_sem]) rfl ?_
         have hno : okMix m = false := by rw [ok_rest HG.out HZ.out HZT.out HL.out, HRB.out]; rfl
         exact ⟨_, by rw [hno], HS.out.2.1.trans (HB.out.mono HS.out.2.1.size), fun h' => by rw [hno] at h'; cases h'⟩
        | true =>
         have HRB := lh hr
         clear hr
         go_wp2_with fail
         refine (rising_any A6 nt c6 (m.tastes.map (·.num)) W (ints_of_own HO6.out (Nat.le_refl _)) hnt).mono ?_
         rintro e W2 ⟨rfl, hb⟩
         have HB2 := lh (HB.out.trans (hb.mono HB.out.size))
         clear hb
         have HOK : Hid (okMix m = risB 0 (m.tastes.map (·.num))) := lh (by rw [ok_rest HG.out HZ.out HZT.out HL.out, HRB.out, Bool.true_and])
         go_wp2_with fail
         refine bodyPost_ret (v := .tuple #[.pointer (some ⟨w.heap.size + 1 + 1, 0, none⟩), .bool (risB 0 (m.tastes.map (·.num)))]) (by simp [results, Try.results39, go_sem]) rfl ?_
         refine ⟨_, by rw [HOK.out], HS.out.2.1.trans (HB2.out.mono HS.out.2.1.size), fun _ => ⟨_, AA, na + 1, cl, L, rfl, by omega, HL.out, ?_⟩⟩
         exact HS.out.1.below HB2.out
 ·have HB := lh (bad_limits hG)
  cases hi : inB 1 4 [m.fountains] with
  | false =>
   clear hi
   go_wp2_with fail
   exact bodyPost_ret (v := .tuple #[.pointer none, .bool false]) (by simp [results, Try.results39, go_sem]) rfl (LaidOut.bad HB.out Ly.out.1)
  | true =>
   have h2 : ¬ (nv ≤ 4 ∧ na ≤ 12 ∧ nt ≤ 8) := by
    rw [inB_one] at hi
    have := of_decide_eq_true hi
    rw [← HLV.out, ← HLA.out, ← HLT.out]
    exact fun h2 => hG ⟨this, h2⟩
   clear hi hG
   by_cases q1 : nv ≤ 4
   ·have d1 : (nv : Int) ≤ 4 := by omega
    by_cases q2 : na ≤ 12
    ·have d2 : (na : Int) ≤ 12 := by omega
     have d3 : ¬ (nt : Int) ≤ 8 := by omega
     clear h2
     go_wp2_with fail
     exact bodyPost_ret (v := .tuple #[.pointer none, .bool false]) (by simp [results, Try.results39, go_sem]) rfl (LaidOut.bad HB.out Ly.out.1)
    ·have d2 : ¬ (na : Int) ≤ 12 := by omega
     clear h2
     go_wp2_with fail
     exact bodyPost_ret (v := .tuple #[.pointer none, .bool false]) (by simp [results, Try.results39, go_sem]) rfl (LaidOut.bad HB.out Ly.out.1)
   ·have d1 : ¬ (nv : Int) ≤ 4 := by omega
    clear h2
    go_wp2_with fail
    exact bodyPost_ret (v := .tuple #[.pointer none, .bool false]) (by simp [results, Try.results39, go_sem]) rfl (LaidOut.bad HB.out Ly.out.1)
end
section
def askM (m : Mix) (vessel after : Int) (fs : List Int) : Int :=
 if okMix m = true then (if idxV m.vessels vessel < 0 then 6 else if (0 ≤ after ∧ after ≤ m.acts.length) ∧ ∀ f ∈ fs, 1 ≤ f ∧ f ≤ m.fountains then 0 else 2) else 40
def HoldsIs (m : Mix) (vessel after : Int) (n e : Int) : Prop :=
 (askM m vessel after [] ≠ 0 ∧ n = 0 ∧ e = askM m vessel after []) ∨ (askM m vessel after [] = 0 ∧ e = 0 ∧ ∃ A a, allM m m.acts = some A ∧ A[after.toNat]? = some a ∧ n = heldAt a (idxV m.vessels vessel))
def TellIs (m : Mix) (f : Int) (P : List Held → Int → Prop) (s : Int × Int) (e : Int) : Prop :=
 ∃ A, allM m m.acts = some A ∧ ((¬ Truth m f A 0 zeroH ∧ s = (0, 0) ∧ e = 8) ∨ (Truth m f A 0 zeroH ∧ e = 0 ∧ IsSpan (P A) s))
def GuardIs (g : Int) (T : Int × Int → Int → Prop) (s : Int × Int) (e : Int) : Prop := (g ≠ 0 ∧ s = (0, 0) ∧ e = g) ∨ (g = 0 ∧ T s e)
def OfP (m : Mix) (vessel after f : Int) (A : List Held) (n : Int) : Prop := ∃ x, Truth m f A after.toNat x ∧ heldAt x (idxV m.vessels vessel) = n
def OfIs (m : Mix) (vessel after f : Int) : Int × Int → Int → Prop := GuardIs (askM m vessel after [f]) (TellIs m f (OfP m vessel after f))
def actM (m : Mix) (act f : Int) : Int := if okMix m = true then (if (1 ≤ act ∧ act ≤ m.acts.length) ∧ 1 ≤ f ∧ f ≤ m.fountains then 0 else 2) else 40
def MovedP (m : Mix) (act f : Int) (A : List Held) (n : Int) : Prop :=
 ∃ x all s, m.acts[act.toNat - 1]? = some x ∧ A[act.toNat - 1]? = some all ∧ Truth m f A (act.toNat - 1) s ∧ (spanP m x f all s).1 ≤ n ∧ n ≤ (spanP m x f all s).2 ∧ Truth m f A act.toNat (shiftH s (fromI m x) (toI m x) n)
def MovedIs (m : Mix) (act f : Int) : Int × Int → Int → Prop := GuardIs (actM m act f) (TellIs m f (MovedP m act f))
def goneM (m : Mix) (f : Int) : Int := if okMix m = true then (if 1 ≤ f ∧ f ≤ m.fountains then 0 else 2) else 40
def filledM (m : Mix) (f : Int) : Int := m.acts.foldl (fun n x => if x.kind = 1 ∧ x.fr = f then n + x.drops else n) 0
def sumH (s : Held) : Int := heldAt s 0 + heldAt s 1 + heldAt s 2 + heldAt s 3
def GoneP (m : Mix) (f : Int) (A : List Held) (n : Int) : Prop := ∃ s, Truth m f A m.acts.length s ∧ n = filledM m f - sumH s
def GoneIs (m : Mix) (f : Int) : Int × Int → Int → Prop := GuardIs (goneM m f) (TellIs m f (GoneP m f))
section
variable {m : Mix} {f g e e' : Int} {s s' : Int × Int} {P : List Held → Int → Prop} {T : Int × Int → Int → Prop}
theorem HoldsIs.same {v a n n' : Int} (h : HoldsIs m v a n e) (h' : HoldsIs m v a n' e') : n = n' ∧ e = e' := by
 rcases h with ⟨h0, rfl, rfl⟩ | ⟨h0, rfl, A, x, hA, hx, rfl⟩ <;> rcases h' with ⟨k0, rfl, rfl⟩ | ⟨k0, rfl, B, y, hB, hy, rfl⟩
 ·exact ⟨rfl, rfl⟩
 ·exact absurd k0 h0
 ·exact absurd h0 k0
 ·rw [hA] at hB
  cases hB
  rw [hx] at hy
  cases hy
  exact ⟨rfl, rfl⟩
theorem TellIs.same (h : TellIs m f P s e) (h' : TellIs m f P s' e') : s = s' ∧ e = e' := by
 obtain ⟨A, hA, h⟩ := h
 obtain ⟨B, hB, h'⟩ := h'
 rw [hA] at hB
 cases hB
 rcases h with ⟨h0, rfl, rfl⟩ | ⟨h0, rfl, h1⟩ <;> rcases h' with ⟨k0, rfl, rfl⟩ | ⟨k0, rfl, k1⟩
 ·exact ⟨rfl, rfl⟩
 ·exact absurd k0 h0
 ·exact absurd h0 k0
 ·exact ⟨h1.same k1, rfl⟩
theorem GuardIs.same (hT : ∀ {s s' e e'}, T s e → T s' e' → s = s' ∧ e = e') (h : GuardIs g T s e) (h' : GuardIs g T s' e') : s = s' ∧ e = e' := by
 rcases h with ⟨h0, rfl, rfl⟩ | ⟨h0, h1⟩ <;> rcases h' with ⟨k0, rfl, rfl⟩ | ⟨k0, k1⟩
 ·exact ⟨rfl, rfl⟩
 ·exact absurd k0 h0
 ·exact absurd h0 k0
 ·exact hT h1 k1
theorem OfIs.same {v a : Int} (h : OfIs m v a f s e) (h' : OfIs m v a f s' e') : s = s' ∧ e = e' := GuardIs.same TellIs.same h h'
theorem MovedIs.same {a : Int} (h : MovedIs m a f s e) (h' : MovedIs m a f s' e') : s = s' ∧ e = e' := GuardIs.same TellIs.same h h'
theorem GoneIs.same (h : GoneIs m f s e) (h' : GoneIs m f s' e') : s = s' ∧ e = e' := GuardIs.same TellIs.same h h'
theorem okMix_all (h : okMix m = true) : ∃ A, allM m m.acts = some A := by
 unfold okMix at h
 simp only [Bool.and_eq_true] at h
 exact Option.isSome_iff_exists.1 h.1.1.2
theorem okMix_vess (h : okMix m = true) : m.vessels.length ≤ 4 ∧ m.acts.length ≤ 12 ∧ m.tastes.length ≤ 8 ∧ 1 ≤ m.fountains ∧ m.fountains ≤ 4 := by
 unfold okMix at h
 simp only [Bool.and_eq_true, decide_eq_true_eq] at h
 omega
end
end
section
open Go.RowKit
structure MixS (w : World) (Av : Option Addr) (nv : Nat) (Aa : Option Addr) (na : Nat) (At : Option Addr) (nt : Nat) (m : Mix) : Prop where
 at_ : MixAt w w.heap.size Av nv Aa na At nt m
 hv : nv ≤ 1000
 ha : na ≤ 1000
 ht : nt ≤ 1000
theorem MixS.up {w w' : World} {Av Aa At : Option Addr} {nv na nt : Nat} {m : Mix} (h : MixS w Av nv Aa na At nt m) (hb : Below w.heap.size w w') : MixS w' Av nv Aa na At nt m := ⟨h.at_.up hb, h.hv, h.ha, h.ht⟩
theorem MixS.laid {w : World} {Av Aa At : Option Addr} {nv cv na ca nt ct : Nat} {m : Mix} (h : MixS w Av nv Aa na At nt m) :
  Calls Try.prog 39 #[.agg #[.int .i64 m.fountains, .slice Av nv cv, .slice Aa na ca, .slice At nt ct]] w (LaidOut w Av nv cv Aa na ca At nt ct m) := laid_any Av nv cv Aa na ca At nt ct m w h.at_ h.hv h.ha h.ht
end
section
open Go.RowKit
theorem allM_range {m : Mix} {l : List MAct} {A : List Held} (h : allM m l = some A) (hv : m.vessels.length ≤ 4) (hz : VesOk m) : ∀ {t : Nat} {a : Held}, A[t]? = some a → a.length = 4 ∧ ∀ q : Nat, 0 ≤ heldAt a q ∧ heldAt a q ≤ 12 := by
 intro t
 induction t with
 | zero => intro a ha; rw [allM_zero h] at ha; cases ha; exact ⟨rfl, fun q => by
   match q with
   | 0 => decide
   | 1 => decide
   | 2 => decide
   | 3 => decide
   | q + 4 =>
    have : heldAt zeroH ((q + 4 : Nat) : Int) = 0 := by
     unfold heldAt
     rw [List.getElem?_eq_none (by simp [zeroH]; omega)]
     rfl
    rw [this]
    decide⟩
 | succ t ih =>
  intro a ha
  have hl := allM_len m l A h
  have ht : t < l.length := by
   have := (List.getElem?_eq_some_iff.1 ha).1
   omega
  obtain ⟨b, b', h1, h2, h3⟩ := allM_step h (List.getElem?_eq_getElem ht)
  rw [ha] at h2
  cases h2
  have := ih h1
  exact done_range hv hz this.1 this.2 h3
structure TbOk (T : Tb) : Prop where
 ok : okMix T.m = true
 all : allM T.m T.m.acts = some T.L
section
variable {T : Tb} {x : MAct} {k : Nat}
theorem okMix_ves {m : Mix} (h : okMix m = true) : VesOk m := by
 unfold okMix at h
 simp only [Bool.and_eq_true] at h
 exact vesOk_of h.1.1.1.1.2
theorem TbOk.vess (h : TbOk T) : T.m.vessels.length ≤ 4 := (okMix_vess h.ok).1
theorem TbOk.acts (h : TbOk T) : T.m.acts.length ≤ 12 := (okMix_vess h.ok).2.1
theorem TbOk.long (h : TbOk T) : T.L.length = T.m.acts.length + 1 := allM_len _ _ _ h.all
structure ActAt (T : Tb) (k : Nat) (x : MAct) (all : Held) : Prop where
 hx : T.m.acts[k]? = some x
 ha : T.L[k]? = some all
 ok : ActOk T.m all x
 len : all.length = 4
 rng : ∀ q : Nat, 0 ≤ heldAt all q ∧ heldAt all q ≤ 12
 size : 0 ≤ sizeA T.m all x ∧ sizeA T.m all x ≤ 2000
 four : x.kind = 4 → 0 ≤ fromI T.m x
 apart : fromI T.m x ≠ toI T.m x ∨ fromI T.m x < 0
 next : T.L[k + 1]? = some (shiftH all (fromI T.m x) (toI T.m x) (sizeA T.m all x))
theorem TbOk.at_ (h : TbOk T) (hx : T.m.acts[k]? = some x) : ∃ all, ActAt T k x all := by
 have hl := h.long
 have hk := (List.getElem?_eq_some_iff.1 hx).1
 obtain ⟨a, a', h1, h2, h3⟩ := allM_step h.all hx
 have hr := allM_range h.all h.vess (okMix_ves h.ok) h1
 obtain ⟨h4, h5⟩ := act_ok h.all h.vess hx h1
 have h6 := size_small h.vess (okMix_ves h.ok) ⟨hr.1, fun q => by have := hr.2 q; omega⟩ (by rw [h3]; rfl)
 exact ⟨a, hx, h1, h4, hr.1, hr.2, ⟨h6.1, h6.2.1⟩, h6.2.2.1, h6.2.2.2, h5⟩
end
end
section
open Go.RowKit Go.MapKept
open Go.ChangeMaps (setBlock heap_setBlock_other heap_setBlock_same)
open Go.Maps (Keyed)
set_option linter.unusedSectionVars false
structure MapTy (P : Program) (t k e : TypeId) (α β : Type) (encK : α → Value) (encV : β → Value) (ok : α → Prop) (zero : Value) : Prop where
 und : P.underlying t = some (.map k e)
 keyed : Keyed P k
 reads : ∀ x, ok x → ∃ l, keyOf P k (encK x) = some l
 inj : ∀ x y, encK x = encK y → x = y
 zero : ∀ w, (zeroValue e).run P w = .ok zero w
def MapIs {α β : Type} (encK : α → Value) (encV : β → Value) (ok : α → Prop) (w : World) (r : Nat) (m : List (α × β)) : Prop :=
 ∃ es clock, w.heap[r]? = some (.map es clock) ∧ es.toList.map (fun e => (e.key, e.val)) = m.map (fun p => (encK p.1, encV p.2)) ∧ Stamped es clock ∧ ∀ p ∈ m, ok p.1
def look {α β : Type} [DecidableEq α] (m : List (α × β)) (x : α) : Option β := (m.find? fun p => decide (p.1 = x)).map Prod.snd
def put {α β : Type} [DecidableEq α] (m : List (α × β)) (x : α) (v : β) : List (α × β) :=
 if m.any (fun p => decide (p.1 = x)) then m.map (fun p => if p.1 = x then (x, v) else p) else m ++ [(x, v)]
section
variable {α β : Type} [DecidableEq α] {m : List (α × β)} {x y : α} {v : β}
theorem look_none : look m x = none ↔ ∀ p ∈ m, p.1 ≠ x := by
 unfold look
 simp [List.find?_eq_none]
theorem look_mem (h : look m x = some v) : (x, v) ∈ m := by
 unfold look at h
 cases hf : m.find? (fun p => decide (p.1 = x)) with
 | none => rw [hf] at h; cases h
 | some p =>
  rw [hf] at h
  have h1 := List.find?_some hf
  have h2 := List.mem_of_find?_eq_some hf
  simp at h h1
  obtain ⟨a, b⟩ := p
  simp at h h1
  subst h h1
  exact h2
theorem look_of_mem (hn : (m.map Prod.fst).Nodup) (h : (x, v) ∈ m) : look m x = some v := by
 unfold look
 induction m with
 | nil => simp at h
 | cons p m ih =>
  rw [List.map_cons, List.nodup_cons] at hn
  rcases List.mem_cons.1 h with h | h
  ·subst h; simp
  ·have hne : p.1 ≠ x := fun e => hn.1 (by rw [e]; exact List.mem_map.2 ⟨_, h, rfl⟩)
   rw [List.find?_cons_of_neg (by simpa using hne)]
   exact ih hn.2 h
theorem look_put : look (put m x v) y = if y = x then some v else look m y := by
 unfold put
 by_cases hany : m.any (fun p => decide (p.1 = x)) = true
 ·rw [if_pos hany]
  induction m with
  | nil => simp at hany
  | cons p m ih =>
   by_cases hp : p.1 = x
   ·by_cases hy : y = x
    ·subst hy; simp [look, hp]
    ·rw [if_neg hy]
     by_cases hm : m.any (fun p => decide (p.1 = x)) = true
     ·have := ih hm
      rw [if_neg hy] at this
      unfold look at this ⊢
      rw [List.map_cons, if_pos hp, List.find?_cons_of_neg (by simpa using fun e => hy e.symm), List.find?_cons_of_neg (by rw [hp]; simpa using fun e => hy e.symm)]
      exact this
     ·have hid : m.map (fun p => if p.1 = x then (x, v) else p) = m := by
       have h1 : m.map (fun p => if p.1 = x then (x, v) else p) = m.map id := List.map_congr_left fun q hq => by
        have : q.1 ≠ x := fun e => hm (List.any_eq_true.2 ⟨q, hq, by simpa using e⟩)
        simp [this]
       simpa using h1
      unfold look
      rw [List.map_cons, if_pos hp, hid, List.find?_cons_of_neg (by simpa using fun e => hy e.symm), List.find?_cons_of_neg (by rw [hp]; simpa using fun e => hy e.symm)]
   ·have hm : m.any (fun p => decide (p.1 = x)) = true := by simpa [hp] using hany
    have := ih hm
    unfold look at this ⊢
    rw [List.map_cons, if_neg hp]
    by_cases hpy : p.1 = y
    ·rw [List.find?_cons_of_pos (by simpa using hpy), List.find?_cons_of_pos (by simpa using hpy), if_neg (fun e => hp (hpy.trans e))]
    ·rw [List.find?_cons_of_neg (by simpa using hpy), List.find?_cons_of_neg (by simpa using hpy)]
     exact this
 ·rw [if_neg hany]
  have hno : ∀ p ∈ m, p.1 ≠ x := fun p hp e => hany (List.any_eq_true.2 ⟨p, hp, by simpa using e⟩)
  by_cases hy : y = x
  ·subst hy
   have hf : m.find? (fun p => decide (p.1 = y)) = none := by rw [List.find?_eq_none]; simpa using hno
   unfold look
   rw [List.find?_append, hf]
   simp
  ·rw [if_neg hy]
   unfold look
   rw [List.find?_append]
   have hxy : ¬ x = y := fun e => hy e.symm
   have hl : [(x, v)].find? (fun p => decide (p.1 = y)) = none := by simp [hxy]
   rw [hl]
   simp
theorem mem_put {p : α × β} (h : p ∈ put m x v) : p = (x, v) ∨ (p ∈ m ∧ p.1 ≠ x) := by
 unfold put at h
 split at h
 ·obtain ⟨q, hq, rfl⟩ := List.mem_map.1 h
  by_cases e : q.1 = x
  ·simp [e]
  ·simp [e]; exact .inr hq
 ·rename_i hany
  rcases List.mem_append.1 h with h | h
  ·exact .inr ⟨h, fun e => hany (List.any_eq_true.2 ⟨p, h, by simpa using e⟩)⟩
  ·left; simpa using h
end
section
variable {P : Program} {t k e : TypeId} {α β : Type} [DecidableEq α] {encK : α → Value} {encV : β → Value} {okK : α → Prop} {zero : Value}
variable {w w' : World} {r : Nat} {m : List (α × β)}
theorem MapIs.lt (h : MapIs encK encV okK w r m) : r < w.heap.size := by
 obtain ⟨es, clock, hb, _⟩ := h
 exact (Array.getElem?_eq_some_iff.1 hb).1
theorem MapIs.ok (h : MapIs encK encV okK w r m) : ∀ p ∈ m, okK p.1 := by
 obtain ⟨_, _, _, _, _, h⟩ := h
 exact h
theorem MapIs.keep (h : MapIs encK encV okK w r m) (hb : w'.heap[r]? = w.heap[r]?) : MapIs encK encV okK w' r m := by
 obtain ⟨es, clock, h1, h2⟩ := h
 exact ⟨es, clock, hb.trans h1, h2⟩
theorem MapIs.below {B : Nat} (h : MapIs encK encV okK w r m) (hb : Below B w w') (hr : r < B) : MapIs encK encV okK w' r m := h.keep (hb.block r hr)
theorem MapIs.alloc (h : MapIs encK encV okK w r m) (o : Obj) : MapIs encK encV okK (w.alloc o) r m := h.keep (Below.heap_alloc w o r h.lt)
theorem MapIs.grown {row : Option Nat} (h : MapIs encK encV okK w r m) (hg : w.grownBy w' row) (hne : some r ≠ row) : MapIs encK encV okK w' r m := h.keep (hg.block r h.lt hne)
theorem MapIs.drewN (h : MapIs encK encV okK w r m) (n : Nat) : MapIs encK encV okK (w.drewN n) r m := h
theorem MapIs.made (w : World) : MapIs (β := β) encK encV okK (w.alloc (.map #[] 0)) w.heap.size [] :=
 ⟨#[], 0, heap_alloc_new w _, rfl, stamped_empty 0, by simp⟩
theorem MapIs.nodup (T : MapTy P t k e α β encK encV okK zero) (h : MapIs encK encV okK w r m) : (m.map Prod.fst).Nodup := by
 obtain ⟨es, clock, hb, hm, hs, hk⟩ := h
 have hp := ((stamped_iff es clock).1 hs).2.2
 have h1 : (es.toList.map (fun e => (e.key, e.val))).Pairwise (fun p q => p.1 ≠ q.1) := by
  rw [List.pairwise_map]; exact hp
 rw [hm, List.pairwise_map] at h1
 rw [List.Nodup, List.pairwise_map]
 exact h1.imp fun {a b} hne e => hne (by simp [e])
theorem MapIs.find (T : MapTy P t k e α β encK encV okK zero) {es : Array MapEntry} (hm : es.toList.map (fun e => (e.key, e.val)) = m.map (fun p => (encK p.1, encV p.2))) (hk : ∀ p ∈ m, okK p.1) {x : α} (hx : okK x) :
  ((Instr.findKey k (encK x) es.toList).run P w = .ok none w ∧ look m x = none ∧ ∀ y ∈ es.toList, y.key ≠ encK x) ∨
  ∃ (j : Nat) (y : MapEntry) (v : β), (Instr.findKey k (encK x) es.toList).run P w = .ok (some (j, encV v)) w ∧ es.toList[j]? = some y ∧ y.key = encK x ∧ m[j]? = some (x, v) := by
 obtain ⟨l, hl⟩ := T.reads x hx
 have hkeys : ∀ y ∈ es.toList, ∃ l, keyOf P k y.key = some l := by
  intro y hy
  have : (y.key, y.val) ∈ m.map (fun p => (encK p.1, encV p.2)) := by rw [← hm]; exact List.mem_map.2 ⟨y, hy, rfl⟩
  obtain ⟨p, hp, he⟩ := List.mem_map.1 this
  simp at he
  rw [← he.1]
  exact T.reads _ (hk p hp)
 rcases T.keyed.find w hl es.toList hkeys with ⟨h1, h2⟩ | ⟨j, y, h1, h2, h3⟩
 ·refine .inl ⟨h1, look_none.2 fun p hp e => ?_, h2⟩
  have : (encK p.1, encV p.2) ∈ es.toList.map (fun e => (e.key, e.val)) := by rw [hm]; exact List.mem_map.2 ⟨p, hp, rfl⟩
  obtain ⟨y, hy, he⟩ := List.mem_map.1 this
  simp at he
  exact h2 y hy (by rw [he.1, e])
 ·have hj : (es.toList.map (fun e => (e.key, e.val)))[j]? = some (y.key, y.val) := by rw [List.getElem?_map, h2]; rfl
  rw [hm, List.getElem?_map] at hj
  cases hmj : m[j]? with
  | none => rw [hmj] at hj; cases hj
  | some p =>
   rw [hmj] at hj
   simp at hj
   have hpx : p.1 = x := T.inj _ _ (hj.1.trans h3)
   refine .inr ⟨j, y, p.2, ?_, h2, h3, ?_⟩
   ·rw [h1, hj.2]
   ·rw [hmj, ← hpx]
theorem MapIs.lookup (T : MapTy P t k e α β encK encV okK zero) (h : MapIs encK encV okK w r m) {x : α} (hx : okK x) (co : Bool) :
  (Instr.lookup t (.map (some r)) (encK x) co).run P w = .ok (match look m x with | some v => if co then .tuple #[encV v, .bool true] else encV v | none => if co then .tuple #[zero, .bool false] else zero) w := by
 obtain ⟨l, hl⟩ := T.reads x hx
 have hn := MapIs.nodup T h
 obtain ⟨es, clock, hb, hm, hs, hk⟩ := h
 rcases MapIs.find (w := w) T hm hk hx with ⟨h1, h2, _⟩ | ⟨j, y, v, h1, h2, h3, h4⟩
 ·rw [h2]
  cases co <;> simp [Instr.lookup, run_underlying T.und, MapKept.run_getObj_map hb, T.keyed.check w _ hl, h1, T.zero, Result.andThen]
 ·have hm' : look m x = some v := look_of_mem hn (List.mem_of_getElem? h4)
  rw [hm']
  cases co <;> simp [Instr.lookup, run_underlying T.und, MapKept.run_getObj_map hb, T.keyed.check w _ hl, h1, Result.andThen]
theorem grown_setBlock {es : Array MapEntry} {clock : Nat} (hb : w.heap[r]? = some (.map es clock)) (o : Obj) : w.grownBy (setBlock w r o) (some r) ∧ (setBlock w r o).heap.size = w.heap.size :=
 ⟨⟨rfl, rfl, rfl, by simp [setBlock], fun i _ hi => heap_setBlock_other hb o (fun e => hi (by rw [e]))⟩, by simp [setBlock]⟩
theorem map_snd_set {γ : Type} {l : List γ} {m : List (α × β)} {f : γ → Value × Value} (h : l.map f = m.map (fun p => (encK p.1, encV p.2))) : l.length = m.length := by
 have := congrArg List.length h; simpa using this
theorem MapIs.update (T : MapTy P t k e α β encK encV okK zero) (h : MapIs encK encV okK w r m) {x : α} (hx : okK x) (v : β) :
  ∃ w', (Instr.mapUpdate t (.map (some r)) (encK x) (encV v)).run P w = .ok () w' ∧ MapIs encK encV okK w' r (put m x v) ∧ w.grownBy w' (some r) ∧ w'.heap.size = w.heap.size := by
 obtain ⟨l, hl⟩ := T.reads x hx
 have hn := MapIs.nodup T h
 obtain ⟨es, clock, hb, hm, hs, hk⟩ := h
 rcases MapIs.find (w := w) T hm hk hx with ⟨h1, h2, h3⟩ | ⟨j, y, v0, h1, h2, h3, h4⟩
 ·refine ⟨setBlock w r (.map (es.push ⟨encK x, encV v, clock⟩) (clock + 1)), ?_, ⟨_, _, heap_setBlock_same hb _, ?_, stamped_push hs h3, ?_⟩, (grown_setBlock hb _).1, (grown_setBlock hb _).2⟩
  ·simp [Instr.mapUpdate, run_underlying T.und, MapKept.run_getObj_map hb, T.keyed.check w false hl, h1, MapKept.run_setObj_map _ hb, Result.andThen, setBlock]
  ·have hany : ¬ m.any (fun p => decide (p.1 = x)) = true := by
    intro ha
    obtain ⟨p, hp, he⟩ := List.any_eq_true.1 ha
    exact look_none.1 h2 p hp (by simpa using he)
   unfold put
   rw [if_neg hany, Array.toList_push, List.map_append, hm, List.map_append]
   rfl
  ·intro p hp
   rcases mem_put hp with rfl | ⟨hp, _⟩
   ·exact hx
   ·exact hk p hp
 ·have hjl : j < es.toList.length := (List.getElem?_eq_some_iff.1 h2).1
  have hjs : j < es.size := by simpa using hjl
  have hes : es[j]? = some y := by rw [← Array.getElem?_toList]; exact h2
  have hany : m.any (fun p => decide (p.1 = x)) = true := List.any_eq_true.2 ⟨(x, v0), List.mem_of_getElem? h4, by simp⟩
  refine ⟨setBlock w r (.map (es.modify j fun e => { e with key := encK x, val := encV v }) clock), ?_, ⟨_, _, heap_setBlock_same hb _, ?_, ?_, ?_⟩, (grown_setBlock hb _).1, (grown_setBlock hb _).2⟩
  ·simp [Instr.mapUpdate, run_underlying T.und, MapKept.run_getObj_map hb, T.keyed.check w false hl, h1, MapKept.run_setObj_map _ hb, Result.andThen, setBlock, hes, h3, T.keyed.stays w hl]
  ·unfold put
   rw [if_pos hany]
   apply List.ext_getElem?
   intro i
   have hi : ((es.toList.map (fun e => (e.key, e.val)))[i]?) = (m.map (fun p => (encK p.1, encV p.2)))[i]? := by rw [hm]
   rw [List.getElem?_map, List.getElem?_map] at hi
   rw [List.getElem?_map, List.getElem?_map, List.getElem?_map, Array.getElem?_toList, Array.getElem?_modify]
   rw [Array.getElem?_toList] at hi
   by_cases hij : j = i
   ·subst hij
    rw [if_pos rfl, hes, h4]
    simp
   ·rw [if_neg hij, hi]
    cases hmi : m[i]? with
    | none => rfl
    | some p =>
     have hpx : p.1 ≠ x := by
      intro e1
      apply hij
      have h5 : (m.map Prod.fst)[j]? = some x := by rw [List.getElem?_map, h4]; rfl
      have h6 : (m.map Prod.fst)[i]? = some x := by rw [List.getElem?_map, hmi, ← e1]; rfl
      have h7 : j < (m.map Prod.fst).length := (List.getElem?_eq_some_iff.1 h5).1
      exact (List.getElem?_inj h7 hn).1 (h5.trans h6.symm)
     simp [hpx]
  ·exact stamped_modify hs j _ (fun _ _ => rfl) (fun e' he' hj' => by
    have : e' = y := Option.some.inj (hj'.symm.trans hes)
    rw [this]; exact h3.symm)
  ·intro p hp
   rcases mem_put hp with rfl | ⟨hp, _⟩
   ·exact hx
   ·exact hk p hp
end
end
section
open Go.RowKit Go.MapKept
open Go.ChangeMaps (setBlock heap_setBlock_other heap_setBlock_same)
open Go.Maps (Keyed)
set_option linter.unusedSectionVars false
def IterIs {α β : Type} (encK : α → Value) (encV : β → Value) (okK : α → Prop) (w : World) (it r : Nat) (m left : List (α × β)) : Prop :=
 ∃ es clock since seen c0, w.heap[r]? = some (.map es clock) ∧ es.toList.map (fun e => (e.key, e.val)) = m.map (fun p => (encK p.1, encV p.2)) ∧ Stamped es clock ∧ (∀ p ∈ m, okK p.1) ∧
  w.heap[it]? = some (.mapIter (some r) since seen c0) ∧ (∀ x ∈ es.toList, x.born < since) ∧ since ≤ c0 ∧ since ≤ clock ∧ (leftOf es seen).toList.map (fun e => (e.key, e.val)) = left.map (fun p => (encK p.1, encV p.2))
theorem filter_erase {γ : Type} (f : γ → Nat) {l : List γ} {i : Nat} {e : γ} (hn : (l.map f).Nodup) (h : l[i]? = some e) : (l.filter fun y => !(f y == f e)) = l.eraseIdx i := by
 induction l generalizing i with
 | nil => simp at h
 | cons p l ih =>
  rw [List.map_cons, List.nodup_cons] at hn
  cases i with
  | zero =>
   simp at h
   subst h
   have : (l.filter fun y => !(f y == f p)) = l := List.filter_eq_self.2 fun q hq => by
    have : f q ≠ f p := fun e => hn.1 (List.mem_map.2 ⟨q, hq, e⟩)
    simpa using this
   simp [this]
  | succ i =>
   have hne : f p ≠ f e := fun e' => hn.1 (List.mem_map.2 ⟨e, List.mem_of_getElem? (by simpa using h), e'.symm⟩)
   rw [List.filter_cons_of_pos (by simpa using hne), ih hn.2 (by simpa using h)]
   rfl
theorem left_push (es : Array MapEntry) (seen : Array Nat) (b : Nat) : (leftOf es (seen.push b)).toList = (leftOf es seen).toList.filter fun y => !(y.born == b) := by
 unfold leftOf
 simp only [Array.toList_filter, List.filter_filter]
 congr 1
 funext y
 simp only [Array.contains_push]
 cases seen.contains y.born <;> cases hb : (y.born == b) <;> simp_all
section
variable {P : Program} {t k e : TypeId} {α β : Type} [DecidableEq α] {encK : α → Value} {encV : β → Value} {okK : α → Prop} {zero : Value}
variable {w w' : World} {r it : Nat} {m left : List (α × β)}
theorem IterIs.map (h : IterIs encK encV okK w it r m left) : MapIs encK encV okK w r m := by
 obtain ⟨es, clock, since, seen, c0, h1, h2, h3, h4, _⟩ := h
 exact ⟨es, clock, h1, h2, h3, h4⟩
theorem IterIs.lt (h : IterIs encK encV okK w it r m left) : it < w.heap.size := by
 obtain ⟨es, clock, since, seen, c0, _, _, _, _, h5, _⟩ := h
 exact (Array.getElem?_eq_some_iff.1 h5).1
theorem IterIs.ne (h : IterIs encK encV okK w it r m left) : it ≠ r := by
 obtain ⟨es, clock, since, seen, c0, h1, _, _, _, h5, _⟩ := h
 intro e
 rw [e, h1] at h5
 cases h5
theorem IterIs.keep (h : IterIs encK encV okK w it r m left) (hb : w'.heap[r]? = w.heap[r]?) (hi : w'.heap[it]? = w.heap[it]?) : IterIs encK encV okK w' it r m left := by
 obtain ⟨es, clock, since, seen, c0, h1, h2, h3, h4, h5, h6⟩ := h
 exact ⟨es, clock, since, seen, c0, hb.trans h1, h2, h3, h4, hi.trans h5, h6⟩
theorem IterIs.below {B : Nat} (h : IterIs encK encV okK w it r m left) (hb : Below B w w') (hr : r < B) (hi : it < B) : IterIs encK encV okK w' it r m left := h.keep (hb.block r hr) (hb.block it hi)
theorem IterIs.grown {row : Option Nat} (h : IterIs encK encV okK w it r m left) (hg : w.grownBy w' row) (hr : some r ≠ row) (hi : some it ≠ row) : IterIs encK encV okK w' it r m left := h.keep (hg.block r h.map.lt hr) (hg.block it h.lt hi)
theorem MapIs.range {t k e : TypeId} (ht : P.underlying t = some (.map k e)) (h : MapIs encK encV okK w r m) :
  ∃ w', (Instr.range t (.map (some r))).run P w = .ok (.pointer (some ⟨w.heap.size, 0, none⟩)) w' ∧ IterIs encK encV okK w' w.heap.size r m m ∧ w.grownBy w' none ∧ w'.heap.size = w.heap.size + 1 := by
 have hlt := h.lt
 obtain ⟨es, clock, hb, hm, hs, hk⟩ := h
 refine ⟨_, run_range_map w t k e r es clock ht hb, ⟨es, clock, clock, #[], clock, (Below.heap_alloc w _ r hlt).trans hb, hm, hs, hk, heap_alloc_new w _, ((stamped_iff es clock).1 hs).1, Nat.le_refl _, Nat.le_refl _, ?_⟩, World.grownBy_alloc w _ none, by simp⟩
 have : (leftOf es #[]).toList = es.toList := by
  unfold leftOf
  rw [Array.toList_filter]
  exact List.filter_eq_self.2 fun _ _ => by simp
 rw [this]
 exact hm
theorem IterIs.next (h : IterIs encK encV okK w it r m left) (ty : TypeId) :
  (left = [] ∧ (Instr.next (.pointer (some ⟨it, 0, none⟩)) false ty).run P w = .ok (.tuple #[.bool false]) w) ∨
  ∃ i p w', left[i]? = some p ∧ (Instr.next (.pointer (some ⟨it, 0, none⟩)) false ty).run P w = .ok (.tuple #[.bool true, encK p.1, encV p.2]) w' ∧ IterIs encK encV okK w' it r m (left.eraseIdx i) ∧ w.grownBy w' (some it) ∧ w'.heap.size = w.heap.size ∧
   (Instr.entry (.pointer (some ⟨it, 0, none⟩))).run P w' = .ok (.tuple #[encK p.1, encV p.2]) w' := by
 have hne := h.ne
 obtain ⟨es, clock, since, seen, c0, hb, hm, hs, hk, hi, hold, hsc, hsk, hl⟩ := h
 have hst := (stamped_iff es clock).1 hs
 rcases run_next_at (P := P) w ty it r since c0 seen es clock hi hb hold hsc with ⟨h0, hrun⟩ | ⟨e0, he, w1, hal, hrun⟩
 ·refine .inl ⟨?_, hrun⟩
  have : (leftOf es seen).toList = [] := List.eq_nil_of_length_eq_zero (by simpa using h0)
  rw [this] at hl
  simpa using hl.symm
 ·obtain ⟨i, hj⟩ := List.getElem?_of_mem he
  have hli : (left.map (fun p => (encK p.1, encV p.2)))[i]? = some (e0.key, e0.val) := by rw [← hl, List.getElem?_map, hj]; rfl
  rw [List.getElem?_map] at hli
  cases hlp : left[i]? with
  | none => rw [hlp] at hli; cases hli
  | some p =>
   rw [hlp] at hli
   simp at hli
   have hem : e0 ∈ es.toList := by
    unfold leftOf at he
    simp at he
    simpa using he.1
   have hi1 : w1.heap[it]? = some (.mapIter (some r) since seen c0) := by rcases hal with rfl | rfl <;> exact hi
   have hb1 : w1.heap[r]? = some (.map es clock) := by rcases hal with rfl | rfl <;> exact hb
   have hset := heap_set (o' := .mapIter (some r) since (seen.push e0.born) clock) hi1
   have hb' : (setBlock w1 it (.mapIter (some r) since (seen.push e0.born) clock)).heap[r]? = some (.map es clock) := (hset.2 r (fun e1 => hne e1.symm)).trans hb1
   have hsub : ((leftOf es seen).toList.map (·.born)).Nodup := by
    unfold leftOf
    rw [Array.toList_filter]
    exact hst.2.1.sublist (List.filter_sublist.map _)
   refine .inr ⟨i, p, _, hlp, by rw [hrun, hli.1, hli.2], ⟨es, clock, since, seen.push e0.born, clock, hb', hm, hs, hk, hset.1, hold, hsk, hsk, ?_⟩, ?_, ?_, ?_⟩
   ·rw [left_push, filter_erase (·.born) hsub hj, Go.ChangeMaps.map_eraseIdx, hl, ← Go.ChangeMaps.map_eraseIdx]
   ·rcases hal with rfl | rfl <;> exact ⟨rfl, rfl, rfl, by simp [setBlock], fun i _ hi => hset.2 i (fun e1 => hi (by rw [e1]))⟩
   ·rcases hal with rfl | rfl <;> simp [setBlock]
   ·rw [run_entry_at _ it r since seen es clock e0 hset.1 hb' hem hst.2.1, hli.1, hli.2]
end
end
section
open Go.RowKit Go.MapKept Go.Shelf
open Go.Maps (Keyed)
set_option linter.unusedSectionVars false
def iterLeft (w : World) (it : Nat) : Nat := match w.heap[it]? with
 | some (.mapIter (some r) _ seen _) => match w.heap[r]? with
  | some (.map es _) => (leftOf es seen).size
  | _ => 0
 | _ => 0
section
variable {α β : Type} [DecidableEq α] {encK : α → Value} {encV : β → Value} {okK : α → Prop} {w w' : World} {r it : Nat} {m left : List (α × β)}
theorem IterIs.left_eq (h : IterIs encK encV okK w it r m left) : iterLeft w it = left.length := by
 obtain ⟨es, clock, since, seen, c0, hb, hm, hs, hk, hi, hold, hsc, hsk, hl⟩ := h
 unfold iterLeft
 simp only [hi, hb]
 have := congrArg List.length hl
 simpa using this
theorem IterIs.walks (h : IterIs encK encV okK w it r m left) (hk : KeepsWalks w w') : IterIs encK encV okK w' it r m left := by
 obtain ⟨es, clock, since, seen, c0, hb, hm, hs, hkk, hi, rest⟩ := h
 exact ⟨es, clock, since, seen, c0, hk.same r _ hb rfl, hm, hs, hkk, hk.same it _ hi rfl, rest⟩
theorem MapIs.walks (h : MapIs encK encV okK w r m) (hk : KeepsWalks w w') : MapIs encK encV okK w' r m := by
 obtain ⟨es, clock, hb, rest⟩ := h
 exact ⟨es, clock, hk.same r _ hb rfl, rest⟩
theorem IterIs.alloc (h : IterIs encK encV okK w it r m left) (o : Obj) : IterIs encK encV okK (w.alloc o) it r m left := h.walks (KeepsWalks.alloc w o)
end
theorem perm_erase {α : Type} : ∀ {l : List α} {i : Nat} {x : α}, l[i]? = some x → (x :: l.eraseIdx i).Perm l
 | [], i, x, h => by simp at h
 | y :: l, 0, x, h => by simp at h; subst h; simp
 | y :: l, i + 1, x, h => by
  have := perm_erase (l := l) (i := i) (x := x) (by simpa using h)
  rw [List.eraseIdx_cons_succ]
  exact (List.Perm.swap y x _).trans (this.cons y)
end
section
open Go.RowKit
attribute [local go_sem] Oper.semAt_some
open Go.Shelf
structure MvIn (g0 g1 g2 g3 : Nat) (T : Tb) (i f : Int) (has : Held) (W : World) : Prop where
 t : Blk W g0 82 #[.pointer (some ⟨T.g, 0, none⟩)]
 i : Blk W g1 3 #[.int .i64 i]
 f : Blk W g2 3 #[.int .i64 f]
 h : Blk W g3 97 #[.int .i64 (heldAt has 0), .int .i64 (heldAt has 1), .int .i64 (heldAt has 2), .int .i64 (heldAt has 3)]
 tb : TbAt W T
theorem MvIn.below {g0 g1 g2 g3 : Nat} {T : Tb} {i f : Int} {has : Held} {W W' : World} (h : MvIn g0 g1 g2 g3 T i f has W) (hb : Below W.heap.size W W') : MvIn g0 g1 g2 g3 T i f has W' :=
 ⟨h.t.below hb h.t.lt, h.i.below hb h.i.lt, h.f.below hb h.f.lt, h.h.below hb h.h.lt, h.tb.below hb⟩
abbrev Mv (m : Mix) (x : MAct) (f : Int) (all has : Held) := { j : Int // (spanP m x f all has).1 ≤ j ∧ j ≤ (spanP m x f all has).2 }
def Mv.enc (m : Mix) (x : MAct) {f : Int} {all : Held} (has : Held) (y : Mv m x f all has) : Array Value := #[.int .i64 y.1, .agg #[.int .i64 (heldAt (shiftH has (fromI m x) (toI m x) y.1) 0), .int .i64 (heldAt (shiftH has (fromI m x) (toI m x) y.1) 1), .int .i64 (heldAt (shiftH has (fromI m x) (toI m x) y.1) 2), .int .i64 (heldAt (shiftH has (fromI m x) (toI m x) y.1) 3)]]
theorem toI_ge {m : Mix} (x : MAct) : -1 ≤ toI m x := by unfold toI; split; exact idxV_ge _ _; decide
end
section
open Go.RowKit
theorem info_vess : (Try.prog.info? 80).map (fun i => (i.zero, i.size, i.bytes)) = some (some (.agg #[.int .i64 0, .int .i64 0]), 2, 16) := by kernel_rfl
theorem elem_vess : ElemAt Try.prog 22 80 (.agg #[.int .i64 0, .int .i64 0]) 2 16 := by
 obtain ⟨i0, hi, hz0, hz1, hz2⟩ := info_parts info_vess
 exact ⟨i0, Try.underlying22, hi, hz0, hz1, hz2, rfl, by decide⟩
theorem vess_one1 (x : Vess) : ∀ u ∈ x.vals, u.oneCell' = true := by
 intro u hu
 simp only [Vess.vals, List.mem_cons, List.not_mem_nil, or_false] at hu
 obtain rfl | rfl := hu <;> rfl
theorem vess_one (l : List Vess) : ∀ u ∈ l.flatMap Vess.vals, u.oneCell' = true := by
 intro u hu
 obtain ⟨x, _, hx⟩ := List.mem_flatMap.1 hu
 exact vess_one1 x u hx
theorem info_act : (Try.prog.info? 67).map (fun i => (i.zero, i.size, i.bytes)) = some (some (.agg #[.int .i64 0, .int .i64 0, .int .i64 0, .int .i64 0]), 4, 32) := by kernel_rfl
theorem elem_act : ElemAt Try.prog 23 67 (.agg #[.int .i64 0, .int .i64 0, .int .i64 0, .int .i64 0]) 4 32 := by
 obtain ⟨i0, hi, hz0, hz1, hz2⟩ := info_parts info_act
 exact ⟨i0, Try.underlying23, hi, hz0, hz1, hz2, rfl, by decide⟩
theorem act_one1 (x : MAct) : ∀ u ∈ x.vals, u.oneCell' = true := by
 intro u hu
 simp only [MAct.vals, List.mem_cons, List.not_mem_nil, or_false] at hu
 obtain rfl | rfl | rfl | rfl := hu <;> rfl
theorem act_one (l : List MAct) : ∀ u ∈ l.flatMap MAct.vals, u.oneCell' = true := by
 intro u hu
 obtain ⟨x, _, hx⟩ := List.mem_flatMap.1 hu
 exact act_one1 x u hx
theorem info_tast : (Try.prog.info? 65).map (fun i => (i.zero, i.size, i.bytes)) = some (some (.agg #[.int .i64 0, .int .i64 0, .int .i64 0, .int .i64 0, .int .i64 0, .int .i64 0]), 6, 48) := by kernel_rfl
theorem elem_tast : ElemAt Try.prog 24 65 (.agg #[.int .i64 0, .int .i64 0, .int .i64 0, .int .i64 0, .int .i64 0, .int .i64 0]) 6 48 := by
 obtain ⟨i0, hi, hz0, hz1, hz2⟩ := info_parts info_tast
 exact ⟨i0, Try.underlying24, hi, hz0, hz1, hz2, rfl, by decide⟩
theorem tast_one1 (x : Tast) : ∀ u ∈ x.vals, u.oneCell' = true := by
 intro u hu
 simp only [Tast.vals, List.mem_cons, List.not_mem_nil, or_false] at hu
 obtain rfl | rfl | rfl | rfl | rfl | rfl := hu <;> rfl
theorem tast_one (l : List Tast) : ∀ u ∈ l.flatMap Tast.vals, u.oneCell' = true := by
 intro u hu
 obtain ⟨x, _, hx⟩ := List.mem_flatMap.1 hu
 exact tast_one1 x u hx
end
section
open Go.RowKit
def TastsAt (w : World) (B : Nat) (A : Option Addr) (n : Nat) (l : List Tast) : Prop := Reads w B 6 A n (l.flatMap Tast.vals)
section
variable {w w' : World} {B B' n : Nat} {A : Option Addr} {l : List Tast}
theorem TastsAt.len (h : TastsAt w B A n l) : l.length = n := recs_n tast_k (by omega) h
theorem TastsAt.below (h : TastsAt w B A n l) (hb : Below B w w') : TastsAt w' B A n l := Reads.below h hb
theorem TastsAt.more (h : TastsAt w B A n l) (hB : B ≤ B') : TastsAt w B' A n l := Reads.more h hB
theorem TastsAt.cell (h : TastsAt w B A n l) {k : Nat} (hk : k < n) : ∃ b off x, A = some ⟨b, off, none⟩ ∧ b < B ∧ l[k]? = some x ∧ w.cell? ⟨b, off + k * 6, none⟩ = some (.int .i64 x.num) ∧ w.cell? ⟨b, off + k * 6 + 1, none⟩ = some (.int .i64 x.vessel) ∧ w.cell? ⟨b, off + k * 6 + 2, none⟩ = some (.int .i64 x.after)
  ∧ w.cell? ⟨b, off + k * 6 + 3, none⟩ = some (.int .i64 x.fountain) ∧ w.cell? ⟨b, off + k * 6 + 4, none⟩ = some (.int .i64 x.lo) ∧ w.cell? ⟨b, off + k * 6 + 5, none⟩ = some (.int .i64 x.hi) := by
 obtain ⟨b, off, x, e, hb, hx, hc⟩ := recs_cell tast_k (by omega) h hk
 exact ⟨b, off, x, e, hb, hx, hc 0 _ rfl, hc 1 _ rfl, hc 2 _ rfl, hc 3 _ rfl, hc 4 _ rfl, hc 5 _ rfl⟩
end
@[reducible] def tastW (x : Tast) : Value := .agg #[.int .i64 x.num, .int .i64 x.vessel, .int .i64 x.after, .int .i64 x.fountain, .int .i64 x.lo, .int .i64 x.hi]
structure PredT (w : World) (K : Nat) (F : FuncId) (C : Array Value) (p : Tast → Bool) : Prop where
 enters : ∀ args W, (callFunc F args).run Try.prog W = .ok (.enter F args) W
 calls : ∀ x W, Below K w W → Calls Try.prog F (#[.agg #[.int .i64 x.num, .int .i64 x.vessel, .int .i64 x.after, .int .i64 x.fountain, .int .i64 x.lo, .int .i64 x.hi]] ++ C) W fun e w' => e = .returned (.bool (p x)) ∧ Below W.heap.size W w'
theorem PredT.below {w w' : World} {K : Nat} {F : FuncId} {C : Array Value} {p : Tast → Bool} (h : PredT w K F C p) (hb : Below K w w') : PredT w' K F C p :=
 ⟨h.enters, fun x W hW => h.calls x W (hb.trans hW)⟩
end
section
open Go.RowKit
def trC (T : Tb) (f : Int) (As : Option Addr) (ns cs : Nat) : Array Value := #[.pointer (some ⟨T.g, 0, none⟩), .int .i64 f, .slice As ns cs]
theorem TbOk.tast {T : Tb} {x : Tast} (h : TbOk T) (hx : x ∈ T.m.tastes) : 0 ≤ idxV T.m.vessels x.vessel ∧ idxV T.m.vessels x.vessel < 4 := by
 have h1 := h.ok
 unfold okMix at h1
 simp only [Bool.and_eq_true] at h1
 have h2 := List.all_eq_true.1 h1.1.1.1.2 x hx
 have h3 := (of_decide_eq_true h2).1
 have := idxV_lt h3
 have := h.vess
 omega
end
section
open Go.RowKit Go.Shelf
structure D4 where
 a : Int
 b : Int
 c : Int
 d : Int
 deriving DecidableEq
def D4.key (x : D4) : Value := .agg #[.int .i64 x.a, .int .i64 x.b, .int .i64 x.c, .int .i64 x.d]
def D4.toH (x : D4) : Held := [x.a, x.b, x.c, x.d]
def ofH (s : Held) : D4 := ⟨heldAt s 0, heldAt s 1, heldAt s 2, heldAt s 3⟩
theorem ofH_toH (x : D4) : ofH x.toH = x := rfl
theorem toH_inj {x y : D4} (h : x.toH = y.toH) : x = y := by rw [← ofH_toH x, ← ofH_toH y, h]
def okZ (x : Int) : Prop := (Lit.int .i64 x).wf = true
theorem okZ_of {x : Int} (h1 : -1000000000000 ≤ x) (h2 : x ≤ 1000000000000) : okZ x := by
 have e1 : IntKind.i64.min = -9223372036854775808 := by decide
 have e2 : IntKind.i64.max = 9223372036854775807 := by decide
 show (decide (IntKind.i64.min ≤ x) && decide (x ≤ IntKind.i64.max)) = true
 rw [e1, e2]
 simp only [Bool.and_eq_true, decide_eq_true_eq]
 omega
def okD (x : D4) : Prop := okZ x.a ∧ okZ x.b ∧ okZ x.c ∧ okZ x.d
abbrev CanMap (w : World) (r : Nat) (m : List (D4 × Bool)) : Prop := MapIs D4.key Value.bool okD w r m
theorem arr4 : WideMaps.ArrKey Try.prog 97 3 4 := ⟨Try.underlying97, by kernel_rfl, by kernel_rfl, by kernel_rfl⟩
theorem types_pos : ∃ m, Try.prog.types.size = m + 1 := by
 have h : 0 < Try.prog.types.size := of_decide_eq_true (by kernel_rfl)
 exact ⟨Try.prog.types.size - 1, by omega⟩
theorem keyOf_four {P : Program} {k e : TypeId} {q : IntKind} (A : WideMaps.ArrKey P k e 4) (he : P.underlying e = some (.int q)) (hsz : ∃ m, P.types.size = m + 1) {a b c d : Int} (wa : (Lit.int q a).wf = true) (wb : (Lit.int q b).wf = true) (wc : (Lit.int q c).wf = true) (wd : (Lit.int q d).wf = true) :
  keyOf P k (.agg #[.int q a, .int q b, .int q c, .int q d]) = some (.string (keyBytes [.int q a, .int q b, .int q c, .int q d])) := by
 have hkt := A.keyType hsz
 obtain ⟨m, hm⟩ := hsz
 unfold keyOf
 simp only [A.hu]
 rw [if_pos (by simp [hkt, Value.formed, A.hu, A.size]), hm]
 unfold Program.keyLits
 simp only [A.hu, Value.cells]
 rw [if_pos (by rw [A.size]; rfl), show List.range 4 = [0, 1, 2, 3] from rfl, List.mapM_cons, List.mapM_cons, List.mapM_cons, List.mapM_cons, List.mapM_nil]
 simp [A.one, Program.keyLits, he, wa, wb, wc, wd]
theorem canTy : MapTy Try.prog 92 97 4 D4 Bool D4.key Value.bool okD (.bool false) where
 und := Try.underlying92
 keyed := Maps.Keyed.of_law arr4.law
 reads := fun x hx => ⟨_, keyOf_four arr4 Try.underlying3 types_pos hx.1 hx.2.1 hx.2.2.1 hx.2.2.2⟩
 inj := fun x y h => by
  obtain ⟨a, b, c, d⟩ := x
  obtain ⟨a', b', c', d'⟩ := y
  simp [D4.key] at h
  simp [h]
 zero := fun w => by kernel_rfl
structure CanIs (m : List (D4 × Bool)) (P : Held → Prop) : Prop where
 all : ∀ p ∈ m, p.2 = true
 keys : ∀ x : D4, (∃ v, (x, v) ∈ m) ↔ P x.toH
section
variable {m : List (D4 × Bool)} {P Q : Held → Prop} {x : D4}
theorem CanIs.nil : CanIs [] fun _ => False := ⟨(fun p h => by cases h), fun x => ⟨(fun ⟨v, h⟩ => by cases h), fun h => h.elim⟩⟩
theorem CanIs.congr (h : CanIs m P) (e : ∀ x : D4, P x.toH ↔ Q x.toH) : CanIs m Q := ⟨h.all, fun x => (h.keys x).trans (e x)⟩
theorem CanIs.put (h : CanIs m P) (x : D4) : CanIs (put m x true) fun s => P s ∨ s = x.toH := by
 refine ⟨fun p hp => ?_, fun y => ?_⟩
 ·rcases mem_put hp with rfl | ⟨hp, _⟩
  ·rfl
  ·exact h.all p hp
 ·have hl : ∀ m' : List (D4 × Bool), (∃ v, (y, v) ∈ m') ↔ ∃ p ∈ m', p.1 = y := fun m' => ⟨fun ⟨v, hv⟩ => ⟨_, hv, rfl⟩, fun ⟨p, hp, e⟩ => ⟨p.2, by rw [← e]; exact hp⟩⟩
  constructor
  ·rintro ⟨v, hv⟩
   rcases mem_put hv with e | ⟨hv, _⟩
   ·right
    have : y = x := congrArg Prod.fst e
    rw [this]
   ·left
    exact (h.keys y).1 ⟨v, hv⟩
  ·intro hy
   have h1 := look_put (m := m) (x := x) (y := y) (v := true)
   by_cases e : y = x
   ·rw [if_pos e] at h1
    exact ⟨_, look_mem h1⟩
   ·rw [if_neg e] at h1
    rcases hy with hy | hy
    ·obtain ⟨v, hv⟩ := (h.keys y).2 hy
     cases hl2 : look m y with
     | none => exact absurd rfl (look_none.1 hl2 _ hv)
     | some u =>
      rw [hl2] at h1
      exact ⟨_, look_mem h1⟩
    ·exact absurd (toH_inj hy) e
theorem CanIs.look_some (h : CanIs m P) (hp : P x.toH) : look m x = some true := by
 obtain ⟨v, hv⟩ := (h.keys x).2 hp
 cases hl : look m x with
 | none => exact absurd rfl (look_none.1 hl _ hv)
 | some u =>
  have := h.all _ (look_mem hl)
  dsimp only at this
  rw [this]
theorem CanIs.look_none (h : CanIs m P) (hp : ¬ P x.toH) : look m x = none := by
 cases hl : look m x with
 | none => rfl
 | some u => exact absurd ((h.keys x).1 ⟨u, look_mem hl⟩) hp
end
end
section
open Go.RowKit Go.Shelf
def canV (r : Nat) : Value := .map (some r)
structure TrAt (w : World) (gU : Nat) (T : Tb) (f : Int) (A : Option Addr) (n c : Nat) (rs : List Nat) (ms : List (List (D4 × Bool))) : Prop where
 blk : Blk w gU 95 (trC T f A n c)
 tb : TbAt w T
 rd : Reads w w.heap.size 1 A n (rs.map canV)
 len : ms.length = n
 maps : ∀ (i r : Nat) (m : List (D4 × Bool)), rs[i]? = some r → ms[i]? = some m → CanMap w r m
theorem TrAt.below {w w' : World} {gU : Nat} {T : Tb} {f : Int} {A : Option Addr} {n c : Nat} {rs : List Nat} {ms : List (List (D4 × Bool))} (h : TrAt w gU T f A n c rs ms) (hb : Below w.heap.size w w') : TrAt w' gU T f A n c rs ms :=
 ⟨h.blk.below hb h.blk.lt, h.tb.below hb, (h.rd.below hb).more hb.size, h.len, fun i r m hr hm => (h.maps i r m hr hm).below hb (h.maps i r m hr hm).lt⟩
structure TrOwn (w : World) (B : Nat) (gU : Nat) (T : Tb) (f : Int) (A : Option Addr) (n c : Nat) (rs : List Nat) (ms : List (List (D4 × Bool))) : Prop where
 blk : Blk w gU 95 (trC T f A n c)
 own : Own w B 92 1 A n c (rs.map canV)
 len : ms.length = n
 maps : ∀ (i r : Nat) (m : List (D4 × Bool)), rs[i]? = some r → ms[i]? = some m → CanMap w r m
 ge : B ≤ gU
theorem TrOwn.at_ {w : World} {B gU : Nat} {T : Tb} {f : Int} {A : Option Addr} {n c : Nat} {rs : List Nat} {ms : List (List (D4 × Bool))} (h : TrOwn w B gU T f A n c rs ms) (ht : TbAt w T) : TrAt w gU T f A n c rs ms :=
 ⟨h.blk, ht, h.own.reads (Nat.le_refl _), h.len, h.maps⟩
theorem TrOwn.below {w w' : World} {B gU : Nat} {T : Tb} {f : Int} {A : Option Addr} {n c : Nat} {rs : List Nat} {ms : List (List (D4 × Bool))} (h : TrOwn w B gU T f A n c rs ms) (hb : Below w.heap.size w w') : TrOwn w' B gU T f A n c rs ms :=
 ⟨h.blk.below hb h.blk.lt, h.own.below hb (Nat.le_refl _), h.len, fun i r m hr hm => (h.maps i r m hr hm).below hb (h.maps i r m hr hm).lt, h.ge⟩
theorem TrOwn.off {w w' : World} {B gU g0 : Nat} {T : Tb} {f : Int} {A : Option Addr} {n c : Nat} {rs : List Nat} {ms : List (List (D4 × Bool))} {t : TypeId} {cs : Array Value} (h : TrOwn w B gU T f A n c rs ms) (hg : w.grownBy w' (some g0)) (h0 : g0 < B) (hb : Blk w g0 t cs) : TrOwn w' B gU T f A n c rs ms :=
 ⟨h.blk.grown hg (fun e => by have := h.ge; cases e; omega), h.own.grown hg (fun a ha e => by have := (h.own.lt ha).1; have := Option.some.inj e; omega), h.len, fun i r m hr hm => (h.maps i r m hr hm).grown hg (fun e => by
  obtain ⟨es, cl, hb2, _⟩ := h.maps i r m hr hm
  unfold Blk at hb
  rw [Option.some.inj e, hb] at hb2
  cases hb2), h.ge⟩
structure TS (w : World) (A : Option Addr) (n c : Nat) (rs : List Nat) (ms : List (List (D4 × Bool))) (bs : List (Nat × TypeId × Array Value)) (xs : List (Nat × List (D4 × Bool))) (ds : List Deferred) (W : World) : Prop where
 bel : Below w.heap.size w W
 own : Own W w.heap.size 92 1 A n c (rs.map canV)
 len : ms.length = n
 maps : ∀ (i r : Nat) (m : List (D4 × Bool)), rs[i]? = some r → ms[i]? = some m → CanMap W r m ∧ w.heap.size ≤ r
 nodup : rs.Nodup
 bs : ∀ b ∈ bs, w.heap.size ≤ b.1 ∧ Blk W b.1 b.2.1 b.2.2 ∧ some b.1 ≠ A.map (·.block)
 xs : ∀ x ∈ xs, CanMap W x.1 x.2 ∧ w.heap.size ≤ x.1 ∧ x.1 ∉ rs
 marks : Marks w.heap.size W ds
theorem blk_not {W : World} {b g : Nat} {t : TypeId} {cs : Array Value} {o : Obj} (h : Blk W b t cs) (ho : W.heap[g]? = some o) (hc : o.isCells = false) : b ≠ g := fun e => by
 subst e
 unfold Blk at h
 rw [h] at ho
 cases ho
 simp [Obj.isCells] at hc
theorem map_not {W : World} {r g : Nat} {m : List (D4 × Bool)} {t : TypeId} {cs : Array Value} (h : CanMap W r m) (hg : Blk W g t cs) : r ≠ g := fun e => by
 subst e
 obtain ⟨es, cl, hb, _⟩ := h
 unfold Blk at hg
 rw [hb] at hg
 cases hg
theorem CanMap.obj {W : World} {r : Nat} {m : List (D4 × Bool)} (h : CanMap W r m) : ∃ es cl, W.heap[r]? = some (.map es cl) := by
 obtain ⟨es, cl, hb, _⟩ := h
 exact ⟨es, cl, hb⟩
section
variable {w W W' : World} {A : Option Addr} {n c : Nat} {rs : List Nat} {ms : List (List (D4 × Bool))} {bs bs' : List (Nat × TypeId × Array Value)} {xs xs' : List (Nat × List (D4 × Bool))} {ds : List Deferred}
theorem TS.blk (h : TS w A n c rs ms bs xs ds W) (i : Nat) {g : Nat} {t : TypeId} {cs : Array Value} (hi : bs[i]? = some (g, t, cs)) : Blk W g t cs := (h.bs _ (List.mem_of_getElem? hi)).2.1
theorem TS.mlen (h : TS w A n c rs ms bs xs ds W) : rs.length = n := by have := h.own.len; simpa using this
theorem TS.mapsAll (h : TS w A n c rs ms bs xs ds W) : ∀ r ∈ rs, (∃ m, CanMap W r m) ∧ w.heap.size ≤ r := fun r hr => by
 obtain ⟨i, hi, rfl⟩ := List.getElem_of_mem hr
 have h1 := h.mlen
 have h2 := h.len
 have hm : ms[i]? = some ms[i] := List.getElem?_eq_getElem (by omega)
 have := h.maps i _ _ (List.getElem?_eq_getElem hi) hm
 exact ⟨⟨_, this.1⟩, this.2⟩
theorem TS.below (h : TS w A n c rs ms bs xs ds W) (hb : Below W.heap.size W W') : TS w A n c rs ms bs xs ds W' :=
 ⟨h.bel.trans (hb.mono h.bel.size), h.own.below hb (Nat.le_refl _), h.len, fun i r m hr hm => ⟨(h.maps i r m hr hm).1.below hb (h.maps i r m hr hm).1.lt, (h.maps i r m hr hm).2⟩, h.nodup, fun b hb' => ⟨(h.bs b hb').1, (h.bs b hb').2.1.below hb (h.bs b hb').2.1.lt, (h.bs b hb').2.2⟩, fun x hx => ⟨(h.xs x hx).1.below hb (h.xs x hx).1.lt, (h.xs x hx).2⟩, h.marks.below hb⟩
theorem TS.sub (h : TS w A n c rs ms bs xs ds W) (hs : ∀ b ∈ bs', b ∈ bs) : TS w A n c rs ms bs' xs ds W := ⟨h.bel, h.own, h.len, h.maps, h.nodup, fun b hb => h.bs b (hs b hb), h.xs, h.marks⟩
theorem TS.add (h : TS w A n c rs ms bs xs ds W) {g : Nat} {t : TypeId} {cs : Array Value} (hg : w.heap.size ≤ g) (hb : Blk W g t cs) (hr : some g ≠ A.map (·.block)) : TS w A n c rs ms (bs ++ [(g, t, cs)]) xs ds W :=
 ⟨h.bel, h.own, h.len, h.maps, h.nodup, fun b k => by
  rcases List.mem_append.1 k with k | k
  ·exact h.bs b k
  ·obtain rfl := List.mem_singleton.1 k
   exact ⟨hg, hb, hr⟩, h.xs, h.marks⟩
theorem TS.new_row (h : TS w A n c rs ms bs xs ds W) {g : Nat} (hg : W.heap.size ≤ g) : some g ≠ A.map (·.block) := by
 cases hA : A with
 | none => simp
 | some a =>
  have := (h.own.lt hA).2
  simp
  omega
theorem TS.addX (h : TS w A n c rs ms bs xs ds W) {r : Nat} {m : List (D4 × Bool)} (hm : CanMap W r m) (hg : w.heap.size ≤ r) (hr : r ∉ rs) : TS w A n c rs ms bs (xs ++ [(r, m)]) ds W :=
 ⟨h.bel, h.own, h.len, h.maps, h.nodup, h.bs, fun x k => by
  rcases List.mem_append.1 k with k | k
  ·exact h.xs x k
  ·obtain rfl := List.mem_singleton.1 k
   exact ⟨hm, hg, hr⟩, h.marks⟩
theorem TS.more (h : TS w A n c rs ms bs xs ds W) {D : Nat} (hD : w.heap.size ≤ D) (hd : W.heap[D]? = some (.deferred (some []))) (hn : ∀ d ∈ ds, ∀ r, d.target = .collected r → r < D) (a : Array Value) : TS w A n c rs ms bs xs ({ target := .collected D, args := a } :: ds) W :=
 ⟨h.bel, h.own, h.len, h.maps, h.nodup, h.bs, h.xs, h.marks.more hD hd hn a⟩
theorem TS.core (h : TS w A n c rs ms bs xs ds W) {g : Nat} (hg : W.grownBy W' (some g)) (h0 : w.heap.size ≤ g) (hA : some g ≠ A.map (·.block)) (hb : ∀ b ∈ bs, b.1 ≠ g) (hr : ∀ r ∈ rs, r ≠ g) (hx : ∀ x ∈ xs, x.1 ≠ g) (hd : ∀ x, W.heap[g]? ≠ some (.deferred x)) : TS w A n c rs ms bs xs ds W' :=
 ⟨h.bel.grown hg h.bel.size (fun k e => by cases e; exact h0), h.own.grown hg (fun a ha e => hA (by rw [ha]; exact e.symm)), h.len, fun i r m hir him => ⟨(h.maps i r m hir him).1.grown hg (fun e => hr r (List.mem_of_getElem? hir) (Option.some.inj e)), (h.maps i r m hir him).2⟩, h.nodup,
  fun b k => ⟨(h.bs b k).1, (h.bs b k).2.1.grown hg (fun e => hb b k (Option.some.inj e)), (h.bs b k).2.2⟩, fun x k => ⟨(h.xs x k).1.grown hg (fun e => hx x k (Option.some.inj e)), (h.xs x k).2⟩,
  h.marks.keep fun d hd' k hk h0' => (hg.block k (Array.getElem?_eq_some_iff.1 h0').1 (fun e => by cases e; exact hd _ h0')).trans h0'⟩
theorem TS.iter (h : TS w A n c rs ms bs xs ds W) {g : Nat} {x1 x2 x3 x4} (ho : W.heap[g]? = some (.mapIter x1 x2 x3 x4)) (h0 : w.heap.size ≤ g) (hg : W.grownBy W' (some g)) : TS w A n c rs ms bs xs ds W' := by
 refine h.core hg h0 ?_ (fun b k => blk_not (h.bs b k).2.1 ho rfl) (fun r hr e => ?_) (fun x k e => ?_) (fun x e => by rw [ho] at e; cases e)
 ·intro e
  rcases h.own.form with ⟨e1, _⟩ | ⟨g', cur, e1, _, hbk, _⟩
  ·rw [e1] at e; cases e
  ·rw [e1] at e
   exact blk_not hbk ho rfl (Option.some.inj e).symm
 ·obtain ⟨⟨m, hm⟩, _⟩ := h.mapsAll r hr
  obtain ⟨es, cl, hb⟩ := hm.obj
  rw [e, ho] at hb
  cases hb
 ·obtain ⟨es, cl, hb⟩ := (h.xs x k).1.obj
  rw [e, ho] at hb
  cases hb
theorem TS.mapRow (h : TS w A n c rs ms bs xs ds W) {r : Nat} {m : List (D4 × Bool)} (hm : CanMap W r m) : some r ≠ A.map (·.block) := by
 intro e
 rcases h.own.form with ⟨e1, _⟩ | ⟨g', cur, e1, _, hbk, _⟩
 ·rw [e1] at e; cases e
 ·rw [e1] at e
  exact map_not hm hbk (Option.some.inj e)
def TS.lim (S : Nat) (rs : List Nat) (xs : List (Nat × List (D4 × Bool))) (ds : List Deferred) : Prop := (∀ r ∈ rs, r < S) ∧ (∀ x ∈ xs, x.1 < S) ∧ ∀ d ∈ ds, ∀ r, d.target = .collected r → r < S
theorem TS.shut {S : Nat} (h : TS w A n c rs ms bs xs ds W) (hs : Shut S W W') (h0 : w.heap.size ≤ S) (hl : TS.lim S rs xs ds) : TS w A n c rs ms bs xs ds W' :=
 ⟨h.bel.trans (hs.below.mono h0), by
  refine ⟨h.own.1, ?_⟩
  rcases h.own.2 with h' | ⟨g, cap', cur, hv, hb, hg, hr⟩
  ·exact .inl h'
  ·exact .inr ⟨g, cap', cur, hv, hb, hs.cells _ _ _ _ hg, hr⟩, h.len, fun i r m hr hm => ⟨(h.maps i r m hr hm).1.below hs.below (hl.1 r (List.mem_of_getElem? hr)), (h.maps i r m hr hm).2⟩, h.nodup,
  fun b k => ⟨(h.bs b k).1, hs.blk (h.bs b k).2.1, (h.bs b k).2.2⟩, fun x k => ⟨(h.xs x k).1.below hs.below (hl.2.1 x k), (h.xs x k).2⟩, h.marks.shut hs hl.2.2⟩
end
theorem Reads.cells {W W' : World} {B size n : Nat} {A : Option Addr} {xs : List Value} (h : Reads W B size A n xs) (hk : ∀ (b : Nat) cs t fr, W.heap[b]? = some (.cells cs t fr) → W'.heap[b]? = some (.cells cs t fr)) (hs : 0 < size) : Reads W' B size A n xs := by
 refine ⟨h.1, fun hn => ?_⟩
 obtain ⟨ad, e, hb, hc⟩ := h.2 hn
 refine ⟨ad, e, hb, fun j u hu => ?_⟩
 have h1 := hc j u hu
 obtain ⟨o, ho, hcell⟩ := cells_of_cell h1
 rw [← h1]
 refine World.cell?_of_block ?_
 rw [ho]
 cases o <;> simp [Obj.isCells] at hcell
 exact hk _ _ _ _ ho
theorem TbAt.cells {W W' : World} {T : Tb} (h : TbAt W T) (hk : ∀ (b : Nat) cs t fr, W.heap[b]? = some (.cells cs t fr) → W'.heap[b]? = some (.cells cs t fr)) (hz : W.heap.size ≤ W'.heap.size) : TbAt W' T :=
 ⟨hk _ _ _ _ h.blk, ⟨(h.mix.vessels.cells hk (by decide)).more hz, (h.mix.acts.cells hk (by decide)).more hz, (h.mix.tastes.cells hk (by decide)).more hz⟩, (h.all.cells hk (by decide)).more hz, h.small⟩
theorem MvIn.cells {g0 g1 g2 g3 : Nat} {T : Tb} {i f : Int} {has : Held} {W W' : World} (h : MvIn g0 g1 g2 g3 T i f has W) (hk : ∀ (b : Nat) cs t fr, W.heap[b]? = some (.cells cs t fr) → W'.heap[b]? = some (.cells cs t fr)) (hz : W.heap.size ≤ W'.heap.size) : MvIn g0 g1 g2 g3 T i f has W' :=
 ⟨hk _ _ _ _ h.t, hk _ _ _ _ h.i, hk _ _ _ _ h.f, hk _ _ _ _ h.h, h.tb.cells hk hz⟩
theorem cells_put {W : World} {l : Nat} {o o' : Obj} (h : W.heap[l]? = some o) (hc : o.isCells = false) (b : Nat) (cs : Array Value) (t : TypeId) (fr : Nat × Nat) (hb : W.heap[b]? = some (.cells cs t fr)) : (W.putObj l o').heap[b]? = some (.cells cs t fr) := by
 refine (World.putObj_heap_other ?_).trans hb
 intro e
 subst e
 rw [h] at hb
 cases hb
 simp [Obj.isCells] at hc
end
section
def b1 (b : Bool) : Int := if b then 1 else 0
def dropP (fr to : Int) (c : Int) (g : Bool) : Int := if g then (if fr < 0 then to else if to < 0 then -2 else to) else c
def rightP (fr xf f c : Int) (g : Bool) : Prop := g = true → if fr < 0 then c = -1 ∧ xf = f else c = fr
def StepP (fr to n al xf f0 f1 : Int) (c d : Int × Int) : Prop :=
 ∃ g0 g1 : Bool, rightP fr xf f0 c.1 g0 ∧ rightP fr xf f1 c.2 g1 ∧ d = (dropP fr to c.1 g0, dropP fr to c.2 g1) ∧
  (0 ≤ fr → b1 g0 + b1 g1 ≤ n ∧ b1 (!g0 && decide (c.1 = fr)) + b1 (!g1 && decide (c.2 = fr)) ≤ al - n)
def NowP (m : Mix) (A : List Held) (f0 f1 : Int) : Nat → Int × Int → Prop
 | 0, c => c = (-1, -1)
 | t + 1, d => ∃ c x all, NowP m A f0 f1 t c ∧ m.acts[t]? = some x ∧ A[t]? = some all ∧ StepP (fromI m x) (toI m x) (sizeA m all x) (heldAt all (fromI m x)) x.fr f0 f1 c d
def dropR (to : Int) (a : Int) (g : Bool) : Int := if g then to else a
def StepR (fr to n al : Int) (p q : Int × Int) : Prop :=
 if fr < 0 then q = p else ∃ g0 g1 : Bool, (g0 = true → p.1 = fr) ∧ (g1 = true → p.2 = fr) ∧ q = (dropR (if to < 0 then -1 else to) p.1 g0, dropR (if to < 0 then -1 else to) p.2 g1) ∧
  b1 g0 + b1 g1 ≤ n ∧ b1 (!g0 && decide (p.1 = fr)) + b1 (!g1 && decide (p.2 = fr)) ≤ al - n
def NowR (m : Mix) (A : List Held) (i k : Nat) : Nat → Int × Int → Prop
 | 0, p => p = (-1, -1)
 | t + 1, d => ∃ p q x all, NowR m A i k t p ∧ m.acts[t]? = some x ∧ A[t]? = some all ∧ StepR (fromI m x) (toI m x) (sizeA m all x) (heldAt all (fromI m x)) p q ∧ d = (if t = i then toI m x else q.1, if t = k then toI m x else q.2)
def Fills (m : Mix) (f : Int) (i : Nat) : Prop := ∃ x, m.acts[i]? = some x ∧ x.kind = 1 ∧ x.fr = f
def goneR (c : Int) : Int := if c = -2 then -1 else c
section
variable {m : Mix} {A : List Held} {f0 f1 : Int}
theorem from_fill {x : MAct} (h : x.kind = 1) : fromI m x = -1 := by unfold fromI; rw [if_pos h]
theorem from_other {x : MAct} {all : Held} (h : ActOk m all x) (hk : x.kind ≠ 1) : 0 ≤ fromI m x := by unfold fromI; rw [if_neg hk]; exact h.from_ hk
theorem to_fill {x : MAct} {all : Held} (h : ActOk m all x) (hk : x.kind = 1) : 0 ≤ toI m x := by unfold toI; rw [if_pos (.inl hk)]; exact h.to_ (.inl hk)
theorem toI_ge1 {x : MAct} : -1 ≤ toI m x := by
 unfold toI
 split
 ·unfold idxV; split <;> omega
 ·omega
def Came (m : Mix) (f : Int) (t : Nat) (c : Int) (i0 : Option Nat) : Prop := match i0 with
 | none => c = -1
 | some i => c ≠ -1 ∧ i < t ∧ Fills m f i
def Agrees (t : Nat) (i0 : Option Nat) (i : Nat) : Prop := match i0 with
 | none => t ≤ i
 | some j => i = j
theorem Came.step {f : Int} {t : Nat} {c : Int} {i0 : Option Nat} (h : Came m f t c i0) (d : Int) (hd : d = -1 ↔ c = -1) : Came m f (t + 1) d i0 := by
 cases i0 with
 | none => exact hd.2 h
 | some i => exact ⟨fun e => h.1 (hd.1 e), Nat.lt_succ_of_lt h.2.1, h.2.2⟩
theorem Agrees.back {f : Int} {t : Nat} {c : Int} {i0 : Option Nat} {i : Nat} (hc : Came m f t c i0) (h : Agrees (t + 1) i0 i) : Agrees t i0 i ∧ i ≠ t := by
 cases i0 with
 | none => exact ⟨Nat.le_of_succ_le h, by unfold Agrees at h; omega⟩
 | some j =>
  have h' : i = j := h
  exact ⟨h', by have := hc.2.1; omega⟩
theorem met_to (hA : allM m m.acts = some A) (hv : m.vessels.length ≤ 4) : ∀ {t : Nat} {c : Int × Int}, NowP m A f0 f1 t c →
  ∃ i0 k0, Came m f0 t c.1 i0 ∧ Came m f1 t c.2 k0 ∧ ∀ i k, Agrees t i0 i → Agrees t k0 k → NowR m A i k t (goneR c.1, goneR c.2)
 | 0, c, h => by
  have h' : c = (-1, -1) := h
  subst h'
  exact ⟨none, none, rfl, rfl, fun _ _ _ _ => rfl⟩
 | t + 1, d, h => by
  obtain ⟨c, x, all, h1, hx, ha, g0, g1, r0, r1, rfl, hn⟩ := h
  obtain ⟨i0, k0, c0, c1, hr⟩ := met_to hA hv h1
  have hok := (act_ok hA hv hx ha).1
  by_cases hk : x.kind = 1
  ·have hfr := from_fill (m := m) hk
   have hto := to_fill hok hk
   have key : ∀ (f c : Int) (g : Bool) (j0 : Option Nat), rightP (fromI m x) x.fr f c g → Came m f t c j0 → ∃ j1, Came m f (t + 1) (dropP (fromI m x) (toI m x) c g) j1 ∧
     ∀ j, Agrees (t + 1) j1 j → Agrees t j0 j ∧ goneR (dropP (fromI m x) (toI m x) c g) = if t = j then toI m x else goneR c := by
    intro f c g j0 hrt hc
    cases g with
    | false =>
     refine ⟨j0, hc.step _ (by simp [dropP]), fun j hj => ?_⟩
     obtain ⟨h2, h3⟩ := hj.back hc
     exact ⟨h2, by rw [if_neg (fun e => h3 e.symm)]; simp [dropP]⟩
    | true =>
     have h4 := hrt rfl
     rw [hfr, if_pos (by decide)] at h4
     have hd : dropP (fromI m x) (toI m x) c true = toI m x := by simp [dropP, hfr]
     have hj0 : j0 = none := by
      cases j0 with
      | none => rfl
      | some j => exact absurd h4.1 hc.1
     subst hj0
     refine ⟨some t, ⟨by rw [hd]; omega, Nat.lt_succ_self t, x, hx, hk, h4.2⟩, fun j hj => ?_⟩
     have hj' : j = t := hj
     subst hj'
     refine ⟨Nat.le_refl _, ?_⟩
     rw [hd, if_pos rfl]
     unfold goneR
     rw [if_neg (by omega)]
   obtain ⟨i1, e1, e2⟩ := key f0 c.1 g0 i0 r0 c0
   obtain ⟨k1, e3, e4⟩ := key f1 c.2 g1 k0 r1 c1
   refine ⟨i1, k1, e1, e3, fun i k hi hk' => ?_⟩
   obtain ⟨a1, a2⟩ := e2 i hi
   obtain ⟨a3, a4⟩ := e4 k hk'
   refine ⟨_, (goneR c.1, goneR c.2), x, all, hr i k a1 a3, hx, ha, ?_, by dsimp only; rw [a2, a4]⟩
   unfold StepR
   rw [hfr, if_pos (by decide)]
  ·have hfr := from_other hok hk
   have hto := toI_ge1 (m := m) (x := x)
   obtain ⟨hn1, hn2⟩ := hn hfr
   have key : ∀ (f c : Int) (g : Bool) (j0 : Option Nat), rightP (fromI m x) x.fr f c g → Came m f t c j0 → Came m f (t + 1) (dropP (fromI m x) (toI m x) c g) j0 ∧ (g = true → goneR c = fromI m x) ∧
     goneR (dropP (fromI m x) (toI m x) c g) = dropR (if toI m x < 0 then -1 else toI m x) (goneR c) g ∧ decide (goneR c = fromI m x) = decide (c = fromI m x) := by
    intro f c g j0 hrt hc
    have hdec : decide (goneR c = fromI m x) = decide (c = fromI m x) := by
     unfold goneR
     by_cases e : c = -2
     ·rw [if_pos e, e]
      rw [decide_eq_false (by omega), decide_eq_false (by omega)]
     ·rw [if_neg e]
    cases g with
    | false => exact ⟨hc.step _ (by simp [dropP]), (fun e => by cases e), by simp [dropP, dropR], hdec⟩
    | true =>
     have h4 := hrt rfl
     rw [if_neg (by omega)] at h4
     have hd : dropP (fromI m x) (toI m x) c true = if toI m x < 0 then -2 else toI m x := by unfold dropP; rw [if_pos rfl, if_neg (by omega)]
     refine ⟨hc.step _ ?_, fun _ => by unfold goneR; rw [if_neg (by omega)]; exact h4, ?_, hdec⟩
     ·rw [hd]
      constructor
      ·intro e; split at e <;> omega
      ·intro e; omega
     ·rw [hd]
      unfold dropR goneR
      rw [if_pos rfl]
      by_cases e : toI m x < 0
      ·rw [if_pos e, if_pos e]; rfl
      ·rw [if_neg e, if_neg e, if_neg (by omega)]
   obtain ⟨a1, a2, a3, a4⟩ := key f0 c.1 g0 i0 r0 c0
   obtain ⟨b1', b2, b3, b4⟩ := key f1 c.2 g1 k0 r1 c1
   refine ⟨i0, k0, a1, b1', fun i k hi hk' => ?_⟩
   obtain ⟨p1, p2⟩ := hi.back c0
   obtain ⟨q1, q2⟩ := hk'.back c1
   refine ⟨_, (dropR (if toI m x < 0 then -1 else toI m x) (goneR c.1) g0, dropR (if toI m x < 0 then -1 else toI m x) (goneR c.2) g1), x, all, hr i k p1 q1, hx, ha, ?_, ?_⟩
   ·unfold StepR
    rw [if_neg (by omega)]
    exact ⟨g0, g1, a2, b2, rfl, hn1, by dsimp only; rw [a4, b4]; exact hn2⟩
   ·have n1 : ¬ t = i := fun e => p2 e.symm
    have n2 : ¬ t = k := fun e => q2 e.symm
    rw [if_neg n1, if_neg n2, a3, b3]
theorem met_from (hA : allM m m.acts = some A) (hv : m.vessels.length ≤ 4) {i k : Nat} (hi : Fills m f0 i) (hk : Fills m f1 k) : ∀ {t : Nat} {p : Int × Int}, NowR m A i k t p →
  ∃ c, NowP m A f0 f1 t c ∧ goneR c.1 = p.1 ∧ goneR c.2 = p.2 ∧ (c.1 = -1 ↔ t ≤ i) ∧ (c.2 = -1 ↔ t ≤ k)
 | 0, p, h => by
  have h' : p = (-1, -1) := h
  subst h'
  exact ⟨(-1, -1), rfl, rfl, rfl, ⟨fun _ => Nat.zero_le _, fun _ => rfl⟩, ⟨fun _ => Nat.zero_le _, fun _ => rfl⟩⟩
 | t + 1, d, h => by
  obtain ⟨p, q, x, all, h1, hx, ha, hst, rfl⟩ := h
  obtain ⟨c, hn, e1, e2, n1, n2⟩ := met_from hA hv hi hk h1
  have hok := (act_ok hA hv hx ha).1
  by_cases hkd : x.kind = 1
  ·have hfr := from_fill (m := m) hkd
   have hto := to_fill hok hkd
   unfold StepR at hst
   rw [hfr, if_pos (by decide)] at hst
   subst hst
   have key : ∀ (f : Int) (c p : Int) (j : Nat), Fills m f j → goneR c = p → (c = -1 ↔ t ≤ j) → rightP (fromI m x) x.fr f c (decide (t = j)) ∧
     goneR (dropP (fromI m x) (toI m x) c (decide (t = j))) = (if t = j then toI m x else p) ∧ (dropP (fromI m x) (toI m x) c (decide (t = j)) = -1 ↔ t + 1 ≤ j) := by
    intro f c p j hj he hn
    by_cases ht : t = j
    ·subst ht
     obtain ⟨y, hy1, hy2, hy3⟩ := hj
     rw [hx] at hy1
     cases hy1
     have hd : dropP (fromI m x) (toI m x) c (decide (t = t)) = toI m x := by simp [dropP, hfr]
     refine ⟨fun _ => by rw [hfr, if_pos (by decide)]; exact ⟨hn.2 (Nat.le_refl _), hy3⟩, ?_, ?_⟩
     ·rw [hd, if_pos rfl]; unfold goneR; rw [if_neg (by omega)]
     ·rw [hd]; constructor
      ·intro e; omega
      ·intro e; omega
    ·have hd : dropP (fromI m x) (toI m x) c (decide (t = j)) = c := by simp [dropP, ht]
     refine ⟨fun e => by simp [ht] at e, by rw [hd, if_neg ht, he], ?_⟩
     rw [hd, hn]
     omega
   obtain ⟨a1, a2, a3⟩ := key f0 c.1 q.1 i hi e1 n1
   obtain ⟨b1', b2, b3⟩ := key f1 c.2 q.2 k hk e2 n2
   exact ⟨_, ⟨c, x, all, hn, hx, ha, decide (t = i), decide (t = k), a1, b1', rfl, fun e => by omega⟩, a2, b2, a3, b3⟩
  ·have hfr := from_other hok hkd
   have hto := toI_ge1 (m := m) (x := x)
   unfold StepR at hst
   rw [if_neg (by omega)] at hst
   obtain ⟨g0, g1, s1, s2, rfl, s3, s4⟩ := hst
   have key : ∀ (f : Int) (c p : Int) (j : Nat) (g : Bool), Fills m f j → goneR c = p → (c = -1 ↔ t ≤ j) → (g = true → p = fromI m x) → rightP (fromI m x) x.fr f c g ∧
     goneR (dropP (fromI m x) (toI m x) c g) = (if t = j then toI m x else dropR (if toI m x < 0 then -1 else toI m x) p g) ∧ (dropP (fromI m x) (toI m x) c g = -1 ↔ t + 1 ≤ j) ∧ decide (p = fromI m x) = decide (c = fromI m x) := by
    intro f c p j g hj he hn hg
    have ht : ¬ t = j := by
     intro e
     subst e
     obtain ⟨y, hy1, hy2, _⟩ := hj
     rw [hx] at hy1
     cases hy1
     exact hkd hy2
    have hdec : decide (p = fromI m x) = decide (c = fromI m x) := by
     rw [← he]
     unfold goneR
     by_cases e : c = -2
     ·rw [if_pos e, e]
      rw [decide_eq_false (by omega), decide_eq_false (by omega)]
     ·rw [if_neg e]
    cases g with
    | false =>
     have hd : dropP (fromI m x) (toI m x) c false = c := by simp [dropP]
     refine ⟨(fun e => by cases e), by rw [hd, if_neg ht, he]; simp [dropR], ?_, hdec⟩
     rw [hd, hn]
     omega
    | true =>
     have hp := hg rfl
     have hcf : c = fromI m x := by
      rw [hp] at hdec
      simpa using hdec.symm
     have hd : dropP (fromI m x) (toI m x) c true = if toI m x < 0 then -2 else toI m x := by unfold dropP; rw [if_pos rfl, if_neg (by omega)]
     refine ⟨fun _ => by rw [if_neg (by omega)]; exact hcf, ?_, ?_, hdec⟩
     ·rw [hd, if_neg ht]
      unfold dropR goneR
      rw [if_pos rfl]
      by_cases e : toI m x < 0
      ·rw [if_pos e, if_pos e]; rfl
      ·rw [if_neg e, if_neg e, if_neg (by omega)]
     ·rw [hd]
      have h3 : ¬ t ≤ j := fun e => by have := hn.2 e; omega
      constructor
      ·intro e; split at e <;> omega
      ·intro e; omega
   obtain ⟨a1, a2, a3, a4⟩ := key f0 c.1 p.1 i g0 hi e1 n1 s1
   obtain ⟨b1', b2, b3, b4⟩ := key f1 c.2 p.2 k g1 hk e2 n2 s2
   exact ⟨_, ⟨c, x, all, hn, hx, ha, g0, g1, a1, b1', rfl, fun _ => ⟨s3, by rw [← a4, ← b4]; exact s4⟩⟩, a2, b2, a3, b3⟩
theorem met_same (hA : allM m m.acts = some A) (hv : m.vessels.length ≤ 4) {v : Int} (hv0 : 0 ≤ v) {n : Nat} :
  NowP m A f0 f1 n (v, v) ↔ ∃ i k, i < n ∧ k < n ∧ Fills m f0 i ∧ Fills m f1 k ∧ NowR m A i k n (v, v) := by
 have hg : goneR v = v := by unfold goneR; rw [if_neg (by omega)]
 constructor
 ·intro h
  obtain ⟨i0, k0, h1, h2, h3⟩ := met_to hA hv h
  cases i0 with
  | none => exact absurd (show v = -1 from h1) (by omega)
  | some i =>
   cases k0 with
   | none => exact absurd (show v = -1 from h2) (by omega)
   | some k =>
    have h4 := h3 i k rfl rfl
    dsimp only at h4
    rw [hg] at h4
    exact ⟨i, k, h1.2.1, h2.2.1, h1.2.2, h2.2.2, h4⟩
 ·rintro ⟨i, k, _, _, hi, hk, h⟩
  obtain ⟨c, h1, h2, h3, _, _⟩ := met_from hA hv hi hk h
  have e : ∀ c : Int, goneR c = v → c = v := by
   intro c hc
   unfold goneR at hc
   split at hc <;> omega
  have e1 := e _ h2
  have e2 := e _ h3
  obtain ⟨a, b⟩ := c
  dsimp only at e1 e2
  subst e1
  rw [e2] at h1
  exact h1
end
end
section
def cmpL : List Int → List Int → Int
 | [], [] => 0
 | [], _ :: _ => -1
 | _ :: _, [] => 1
 | x :: a, y :: b => if x < y then -1 else if y < x then 1 else cmpL a b
theorem cmpL_drop {a b : List Int} {k : Nat} {x y : Int} (hx : a[k]? = some x) (hy : b[k]? = some y) : cmpL (a.drop k) (b.drop k) = if x < y then -1 else if y < x then 1 else cmpL (a.drop (k + 1)) (b.drop (k + 1)) := by
 obtain ⟨hk, rfl⟩ := List.getElem?_eq_some_iff.1 hx
 obtain ⟨hk', rfl⟩ := List.getElem?_eq_some_iff.1 hy
 rw [List.drop_eq_getElem_cons hk, List.drop_eq_getElem_cons hk']; rfl
theorem cmpL_cons (x y : Int) (a b : List Int) : cmpL (x :: a) (y :: b) = if x < y then -1 else if y < x then 1 else cmpL a b := rfl
theorem cmpL_same (x : Int) (a b : List Int) : cmpL (x :: a) (x :: b) = cmpL a b := by rw [cmpL_cons, if_neg (by omega), if_neg (by omega)]
theorem cmpL_refl : ∀ a : List Int, cmpL a a = 0
 | [] => rfl
 | x :: a => by rw [cmpL_same]; exact cmpL_refl a
theorem cmpL_three : ∀ a b : List Int, cmpL a b = -1 ∨ cmpL a b = 0 ∨ cmpL a b = 1
 | [], [] => by simp [cmpL]
 | [], _ :: _ => by simp [cmpL]
 | _ :: _, [] => by simp [cmpL]
 | x :: a, y :: b => by
  rw [cmpL_cons]
  have := cmpL_three a b
  split
  ·simp
  ·split
   ·simp
   ·exact this
theorem cmpL_eq : ∀ {a b : List Int}, cmpL a b = 0 → a = b
 | [], [], _ => rfl
 | [], _ :: _, h => by simp [cmpL] at h
 | _ :: _, [], h => by simp [cmpL] at h
 | x :: a, y :: b, h => by
  rw [cmpL_cons] at h
  split at h
  ·omega
  ·split at h
   ·omega
   ·rw [cmpL_eq h, show x = y by omega]
theorem cmpL_swap : ∀ a b : List Int, cmpL b a = - cmpL a b
 | [], [] => rfl
 | [], _ :: _ => rfl
 | _ :: _, [] => rfl
 | x :: a, y :: b => by
  rw [cmpL_cons, cmpL_cons]
  have := cmpL_swap a b
  by_cases h1 : x < y
  ·rw [if_neg (by omega), if_pos h1, if_pos h1]; rfl
  ·by_cases h2 : y < x
   ·rw [if_pos h2, if_neg h1, if_pos h2]
   ·rw [if_neg h2, if_neg h1, if_neg h1, if_neg h2]; exact this
theorem cmpL_trans : ∀ {a b c : List Int}, cmpL a b ≤ 0 → cmpL b c ≤ 0 → cmpL a c ≤ 0
 | [], _, [], _, _ => by simp [cmpL]
 | [], _, _ :: _, _, _ => by simp [cmpL]
 | _ :: _, [], _, h, _ => by simp [cmpL] at h
 | _ :: _, _ :: _, [], _, h => by simp [cmpL] at h
 | x :: a, y :: b, z :: c, h1, h2 => by
  rw [cmpL_cons] at h1 h2 ⊢
  have ih := @cmpL_trans a b c
  by_cases p1 : x < y
  ·by_cases q1 : y < z
   ·rw [if_pos (by omega)]; omega
   ·rw [if_neg q1] at h2
    by_cases q2 : z < y
    ·rw [if_pos q2] at h2; omega
    ·rw [if_pos (by omega)]; omega
  ·rw [if_neg p1] at h1
   by_cases p2 : y < x
   ·rw [if_pos p2] at h1; omega
   ·rw [if_neg p2] at h1
    by_cases q1 : y < z
    ·rw [if_pos (by omega)]; omega
    ·rw [if_neg q1] at h2
     by_cases q2 : z < y
     ·rw [if_pos q2] at h2; omega
     ·rw [if_neg q2] at h2
      rw [if_neg (by omega), if_neg (by omega)]; exact ih h1 h2
theorem cmpL_total (a b : List Int) : cmpL a b ≤ 0 ∨ cmpL b a ≤ 0 := by
 have := cmpL_three a b
 have := cmpL_swap a b
 omega
theorem cmpL_antisymm {a b : List Int} (h1 : cmpL a b ≤ 0) (h2 : cmpL b a ≤ 0) : a = b := by
 have := cmpL_swap a b
 exact cmpL_eq (by omega)
theorem cmpL_append : ∀ {a b : List Int} (x y : List Int), a.length = b.length → cmpL (a ++ x) (b ++ y) = if cmpL a b = 0 then cmpL x y else cmpL a b
 | [], [], x, y, _ => by simp [cmpL]
 | [], _ :: _, x, y, h => by simp at h
 | _ :: _, [], x, y, h => by simp at h
 | p :: a, q :: b, x, y, h => by
  rw [List.cons_append, List.cons_append, cmpL_cons, cmpL_cons, cmpL_append x y (by simpa using h)]
  by_cases h1 : p < q
  ·simp [h1]
  ·by_cases h2 : q < p
   ·simp [h1, h2]
   ·simp [h1, h2]
theorem cmpL_pre (a x y : List Int) : cmpL (a ++ x) (a ++ y) = cmpL x y := by rw [cmpL_append x y rfl, cmpL_refl, if_pos rfl]
end
section
inductive WayTo (m : Mix) (A : List Held) (f : Int) : Nat → Int → List Int → Prop
 | enter {t : Nat} {x : MAct} (hx : m.acts[t]? = some x) (hk : x.kind = 1) (hf : x.fr = f) : WayTo m A f (t + 1) (idxV m.vessels x.to) [(t : Int) + 1]
 | pour {t : Nat} {x : MAct} {v : Int} {l : List Int} (h : WayTo m A f t v l) (hx : m.acts[t]? = some x) (hk : x.kind = 2) (hv : idxV m.vessels x.fr = v) : WayTo m A f (t + 1) (idxV m.vessels x.to) (l ++ [(t : Int) + 1])
 | stay {t : Nat} {x : MAct} {v : Int} {l : List Int} {all : Held} (h : WayTo m A f t v l) (hx : m.acts[t]? = some x) (ha : A[t]? = some all) (hs : fromI m x ≠ v ∨ sizeA m all x ≠ heldAt all v) : WayTo m A f (t + 1) v l
theorem WayTo.ne {m : Mix} {A : List Held} {f : Int} {t : Nat} {v : Int} {l : List Int} (h : WayTo m A f t v l) : l ≠ [] := by
 induction h with
 | enter => simp
 | pour => simp
 | stay _ _ _ _ ih => exact ih
theorem WayTo.le {m : Mix} {A : List Held} {f : Int} {t : Nat} {v : Int} {l : List Int} (h : WayTo m A f t v l) : ∀ n ∈ l, 1 ≤ n ∧ n ≤ t := by
 induction h with
 | enter => intro n hn; simp at hn; omega
 | pour _ _ _ _ ih =>
  intro n hn
  rcases List.mem_append.1 hn with hn | hn
  ·have := ih n hn; omega
  ·simp at hn; omega
 | stay _ _ _ _ ih => intro n hn; have := ih n hn; omega
theorem WayTo.up {m : Mix} {A : List Held} {f : Int} {t : Nat} {v : Int} {l : List Int} (h : WayTo m A f t v l) : l.Pairwise (· < ·) := by
 induction h with
 | enter => simp
 | pour h _ _ _ ih =>
  rw [List.pairwise_append]
  refine ⟨ih, by simp, fun a ha b hb => ?_⟩
  have := h.le a ha
  simp at hb
  omega
 | stay _ _ _ _ ih => exact ih
def cmpS (a b : List Int) : Int := if a.length < b.length then -1 else if b.length < a.length then 1 else cmpL a b
theorem cmpS_refl (a : List Int) : cmpS a a = 0 := by unfold cmpS; rw [if_neg (by omega), if_neg (by omega), cmpL_refl]
theorem cmpS_antisymm {a b : List Int} (h1 : cmpS a b ≤ 0) (h2 : cmpS b a ≤ 0) : a = b := by
 unfold cmpS at h1 h2
 by_cases e1 : a.length < b.length
 ·rw [if_neg (by omega), if_pos e1] at h2; omega
 ·by_cases e2 : b.length < a.length
  ·rw [if_neg e1, if_pos e2] at h1; omega
  ·rw [if_neg e1, if_neg e2] at h1
   rw [if_neg e2, if_neg e1] at h2
   exact cmpL_antisymm h1 h2
theorem cmpS_total (a b : List Int) : cmpS a b ≤ 0 ∨ cmpS b a ≤ 0 := by
 unfold cmpS
 by_cases e1 : a.length < b.length
 ·rw [if_pos e1]; left; decide
 ·by_cases e2 : b.length < a.length
  ·right; rw [if_pos e2]; decide
  ·rw [if_neg e1, if_neg e2, if_neg e2, if_neg e1]; exact cmpL_total a b
theorem cmpS_trans {a b c : List Int} (h1 : cmpS a b ≤ 0) (h2 : cmpS b c ≤ 0) : cmpS a c ≤ 0 := by
 unfold cmpS at *
 by_cases e1 : a.length < b.length
 ·by_cases e3 : b.length < c.length
  ·rw [if_pos (by omega)]; decide
  ·by_cases e4 : c.length < b.length
   ·rw [if_neg e3, if_pos e4] at h2; omega
   ·rw [if_pos (by omega)]; decide
 ·by_cases e2 : b.length < a.length
  ·rw [if_neg e1, if_pos e2] at h1; omega
  ·rw [if_neg e1, if_neg e2] at h1
   by_cases e3 : b.length < c.length
   ·rw [if_pos (by omega)]; decide
   ·by_cases e4 : c.length < b.length
    ·rw [if_neg e3, if_pos e4] at h2; omega
    ·rw [if_neg e3, if_neg e4] at h2
     rw [if_neg (by omega), if_neg (by omega)]
     exact cmpL_trans h1 h2
def FirstS (P : List Int → Prop) (l : List Int) : Prop := P l ∧ ∀ k, P k → cmpS l k ≤ 0
theorem FirstS.same {P : List Int → Prop} {l k : List Int} (h : FirstS P l) (h' : FirstS P k) : l = k := cmpS_antisymm (h.2 k h'.1) (h'.2 l h.1)
def stepS (b : Option (List Int)) (x : List Int) : Option (List Int) := match b with
 | none => some x
 | some y => if cmpS x y < 0 then some x else some y
theorem fold_first : ∀ (l : List (List Int)) (b : List Int) (pre : List (List Int)), (b ∈ pre ∧ ∀ k ∈ pre, cmpS b k ≤ 0) → ∃ r, l.foldl stepS (some b) = some r ∧ (r ∈ pre ++ l ∧ ∀ k ∈ pre ++ l, cmpS r k ≤ 0)
 | [], b, pre, h => ⟨b, rfl, by rw [List.append_nil]; exact h⟩
 | x :: l, b, pre, h => by
  rw [List.foldl_cons, show pre ++ x :: l = (pre ++ [x]) ++ l from by simp]
  by_cases hl : cmpS x b < 0
  ·rw [show stepS (some b) x = some x from by simp [stepS, hl]]
   refine fold_first l x (pre ++ [x]) ⟨by simp, fun k hk => ?_⟩
   rcases List.mem_append.1 hk with hk | hk
   ·exact cmpS_trans (by omega) (h.2 k hk)
   ·rw [List.mem_singleton.1 hk, cmpS_refl]; decide
  ·rw [show stepS (some b) x = some b from by simp [stepS, hl]]
   refine fold_first l b (pre ++ [x]) ⟨by simp [h.1], fun k hk => ?_⟩
   rcases List.mem_append.1 hk with hk | hk
   ·exact h.2 k hk
   ·rw [List.mem_singleton.1 hk]
    rcases cmpS_total b x with h1 | h1
    ·exact h1
    ·have h2 : cmpS x b = 0 := by omega
     have h3 : x = b := by
      unfold cmpS at h2
      split at h2
      ·omega
      ·split at h2
       ·omega
       ·exact cmpL_eq h2
     rw [h3, cmpS_refl]; decide
theorem first_fold {l : List (List Int)} : (l = [] ∧ l.foldl stepS none = none) ∨ ∃ r, l.foldl stepS none = some r ∧ FirstS (· ∈ l) r := by
 cases l with
 | nil => exact .inl ⟨rfl, rfl⟩
 | cons x l =>
  right
  obtain ⟨r, h1, h2, h3⟩ := fold_first l x [x] ⟨by simp, fun k hk => by rw [List.mem_singleton.1 hk, cmpS_refl]; decide⟩
  exact ⟨r, h1, h2, h3⟩
end
section
def lastI (l : List Int) : Int := l.getLast?.getD 0
def moreI (a : Nat) (l : List Int) : List Int := (List.range (a - (lastI l).toNat)).map fun i : Nat => lastI l + 1 + (i : Int)
def lvlI (a : Nat) : Nat → List (List Int)
 | 0 => [[]]
 | k + 1 => (lvlI a k).flatMap fun l => (moreI a l).map fun n => l ++ [n]
def UpTo (a : Nat) (l : List Int) : Prop := l.Pairwise (· < ·) ∧ ∀ n ∈ l, 1 ≤ n ∧ n ≤ a
theorem lastI_snoc (l : List Int) (n : Int) : lastI (l ++ [n]) = n := by simp [lastI]
theorem lastI_le {a : Nat} {l : List Int} (h : UpTo a l) : 0 ≤ lastI l ∧ lastI l ≤ a := by
 cases hl : l.getLast? with
 | none => simp [lastI, hl]
 | some x =>
  have := h.2 x (List.mem_of_getLast? hl)
  simp [lastI, hl]
  omega
theorem lastI_max {a : Nat} {l : List Int} (h : UpTo a l) : ∀ n ∈ l, n ≤ lastI l := by
 refine rev_ind (P := fun l => UpTo a l → ∀ n ∈ l, n ≤ lastI l) (fun _ n hn => by cases hn) (fun l x ih h n hn => ?_) l h
 rw [lastI_snoc]
 rcases List.mem_append.1 hn with hn | hn
 ·have := (List.pairwise_append.1 h.1).2.2 n hn x (by simp)
  omega
 ·simp at hn; omega
theorem moreI_mem {a : Nat} {l : List Int} (h : UpTo a l) {n : Int} : n ∈ moreI a l ↔ lastI l < n ∧ n ≤ a := by
 have h0 := lastI_le h
 unfold moreI
 simp only [List.mem_map, List.mem_range]
 constructor
 ·rintro ⟨i, hi, rfl⟩; omega
 ·rintro ⟨h1, h2⟩
  exact ⟨(n - lastI l - 1).toNat, by omega, by omega⟩
theorem upTo_snoc {a : Nat} {l : List Int} {n : Int} : UpTo a (l ++ [n]) ↔ UpTo a l ∧ lastI l < n ∧ n ≤ a := by
 constructor
 ·intro h
  have h1 : UpTo a l := ⟨(List.pairwise_append.1 h.1).1, fun x hx => h.2 x (by simp [hx])⟩
  refine ⟨h1, ?_, (h.2 n (by simp)).2⟩
  cases hl : l.getLast? with
  | none => have := (h.2 n (by simp)).1; simp [lastI, hl]; omega
  | some x =>
   have := (List.pairwise_append.1 h.1).2.2 x (List.mem_of_getLast? hl) n (by simp)
   simp [lastI, hl]; exact this
 ·rintro ⟨h1, h2, h3⟩
  have h0 := lastI_le h1
  refine ⟨?_, fun x hx => ?_⟩
  ·rw [List.pairwise_append]
   exact ⟨h1.1, by simp, fun x hx y hy => by have := lastI_max h1 x hx; simp at hy; omega⟩
  ·rcases List.mem_append.1 hx with hx | hx
   ·exact h1.2 x hx
   ·simp at hx; omega
theorem lvl_mem (a : Nat) : ∀ (k : Nat) (l : List Int), l ∈ lvlI a k ↔ l.length = k ∧ UpTo a l
 | 0, l => by
  unfold lvlI
  simp only [List.mem_singleton]
  constructor
  ·rintro rfl; exact ⟨rfl, by simp [UpTo]⟩
  ·rintro ⟨h, _⟩; exact List.eq_nil_of_length_eq_zero h
 | k + 1, l => by
  unfold lvlI
  simp only [List.mem_flatMap, List.mem_map]
  constructor
  ·rintro ⟨p, hp, n, hn, rfl⟩
   obtain ⟨h1, h2⟩ := (lvl_mem a k p).1 hp
   exact ⟨by simp [h1], upTo_snoc.2 ⟨h2, (moreI_mem h2).1 hn⟩⟩
  ·rintro ⟨h1, h2⟩
   obtain ⟨p, n, rfl⟩ : ∃ p n, l = p ++ [n] := ⟨l.dropLast, l.getLast (fun e => by subst e; simp at h1), (List.dropLast_concat_getLast _).symm⟩
   obtain ⟨h3, h4⟩ := upTo_snoc.1 h2
   exact ⟨p, (lvl_mem a k p).2 ⟨by simpa using h1, h3⟩, n, (moreI_mem h3).2 h4, rfl⟩
theorem lvl_sorted (a : Nat) : ∀ k : Nat, (lvlI a k).Pairwise fun x y => cmpL x y < 0
 | 0 => by simp [lvlI]
 | k + 1 => by
  unfold lvlI
  rw [List.pairwise_flatMap]
  refine ⟨fun l hl => ?_, (lvl_sorted a k).imp_of_mem fun {x y} hx hy hxy => ?_⟩
  ·rw [List.pairwise_map]
   unfold moreI
   rw [List.pairwise_map]
   refine List.pairwise_lt_range.imp fun {i j} hij => ?_
   rw [cmpL_pre, cmpL_cons, if_pos (by omega)]
   decide
  ·intro p hp q hq
   obtain ⟨n, _, rfl⟩ := List.mem_map.1 hp
   obtain ⟨n', _, rfl⟩ := List.mem_map.1 hq
   rw [cmpL_append _ _ (((lvl_mem a k x).1 hx).1.trans ((lvl_mem a k y).1 hy).1.symm), if_neg (by omega)]
   exact hxy
def Hits (ways : List (List Int)) (l : List Int) : Prop := ∀ w ∈ ways, ∃ n ∈ w, n ∈ l
theorem first_level {a k i : Nat} {ways : List (List Int)} {l : List Int} (hl : (lvlI a k)[i]? = some l) (hh : Hits ways l) (hi : ∀ j y, j < i → (lvlI a k)[j]? = some y → ¬ Hits ways y)
  (hk : ∀ k' < k, ∀ y ∈ lvlI a k', ¬ Hits ways y) : FirstS (fun l => UpTo a l ∧ Hits ways l) l := by
 have hm := (lvl_mem a k l).1 (List.mem_of_getElem? hl)
 refine ⟨⟨hm.2, hh⟩, fun y ⟨hy, hyh⟩ => ?_⟩
 unfold cmpS
 by_cases e1 : l.length < y.length
 ·rw [if_pos e1]; decide
 ·by_cases e2 : y.length < l.length
  ·exact absurd hyh (hk y.length (by omega) y ((lvl_mem a _ y).2 ⟨rfl, hy⟩))
  ·rw [if_neg e1, if_neg e2]
   have hyk : y ∈ lvlI a k := (lvl_mem a k y).2 ⟨by omega, hy⟩
   obtain ⟨j, hj⟩ := List.mem_iff_getElem?.1 hyk
   by_cases e3 : j < i
   ·exact absurd hyh (hi j y e3 hj)
   ·by_cases e4 : j = i
    ·subst e4
     rw [hl] at hj
     cases hj
     rw [cmpL_refl]; decide
    ·have hs := lvl_sorted a k
     obtain ⟨hi', e5⟩ := List.getElem?_eq_some_iff.1 hl
     obtain ⟨hj', e6⟩ := List.getElem?_eq_some_iff.1 hj
     have := List.pairwise_iff_getElem.1 hs i j hi' hj' (by omega)
     rw [e5, e6] at this
     omega
theorem all_hits {a : Nat} {ways : List (List Int)} (h : ∀ w ∈ ways, w ≠ [] ∧ ∀ n ∈ w, 1 ≤ n ∧ n ≤ (a : Int)) : Hits ways ((List.range a).map fun i : Nat => (i : Int) + 1) := by
 intro w hw
 obtain ⟨h1, h2⟩ := h w hw
 obtain ⟨n, hn⟩ := List.exists_mem_of_ne_nil w h1
 have := h2 n hn
 exact ⟨n, hn, List.mem_map.2 ⟨(n - 1).toNat, List.mem_range.2 (by omega), by omega⟩⟩
end
end Go.Proofs.Ythofngceiecniaa
