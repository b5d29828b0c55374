/- BookNumbers: numbers are the specification's: for every number and all bytes the law returns true. No conditions. -/
import Derived.Deep.QuietTactic
import Derived.BigQuiet
import Derived.Lib.Hide
import Derived.WalkKit
import Derived.OpenShut
import Derived.ShutString
import Derived.ChangeOld
import Derived.Lib.SmallJoins
import Derived.ChangeMaps5
import Derived.ProofKit
import Derived.Test.YtehgijdjnddfcaaBkNu1
set_option linter.unusedVariables false
/- The answer's SameInts. -/
namespace Go.Proofs.Ytehgijdjnddfcaa
open Go.RowKit

def sameI (a b : List Int) : Bool := decide (a = b)
theorem sameI_len {a b : List Int} (h : a.length ≠ b.length) : sameI a b = false := by unfold sameI; simp; intro e; exact h (by rw [e])
theorem sameI_ne {a b : List Int} {k : Nat} {x y : Int} (hx : a[k]? = some x) (hy : b[k]? = some y) (h : x ≠ y) : sameI a b = false := by
 unfold sameI; simp; intro e; subst e; rw [hx] at hy; cases hy; exact h rfl
theorem sameI_eq {a b : List Int} (hl : a.length = b.length) (h : ∀ (k : Nat) x y, k < a.length → a[k]? = some x → b[k]? = some y → x = y) : sameI a b = true := by
 unfold sameI; simp
 apply List.ext_getElem?
 intro k
 by_cases hk : k < a.length
 ·have h1 : a[k]? = some a[k] := List.getElem?_eq_getElem hk
  have h2 : b[k]? = some (b[k]'(by omega)) := List.getElem?_eq_getElem _
  rw [h1, h2, h k _ _ hk h1 h2]
 ·rw [List.getElem?_eq_none (by omega), List.getElem?_eq_none (by omega)]

set_option maxRecDepth 100000 in
set_option maxHeartbeats 2000000 in
theorem sameInts_any (A : Option Addr) (n c : Nat) (a : List Int) (B : Option Addr) (m d : Nat) (b : List Int) (w : World) (hn : n ≤ maxLen) (hm : m ≤ maxLen) (ha : IntsAt w w.heap.size A n a) (hb : IntsAt w w.heap.size B m b) :
  Calls Try.prog 14 #[.slice A n c, .slice B m d] w fun e w' => e = .returned (.bool (sameI a b)) ∧ Below w.heap.size w w' := by
 unfold maxLen at hn hm
 have HA := Lib.hid ha.len
 have HB := Lib.hid hb.len
 by_cases hnm : n = m
 ·subst hnm
  have hnn : ((n : Int) == (n : Int)) = true := by simp
  go_enter Try.func14, Try.ntmps14
  go_wp2_with fail
  go_loopw [5] (fun i wr => ∃ k : Nat, k ≤ n ∧ i = .int .i64 k ∧ (∀ (j : Nat) x y, j < k → a[j]? = some x → b[j]? = some y → x = y) ∧ Below w.heap.size w wr)
   (fun i _ => n - (intOf i).toNat)
  case atStart => exact ⟨0, by omega, rfl, fun _ _ _ h => absurd h (by omega), Below.refl _ _⟩
  case round =>
   obtain ⟨k, hk, rfl, hall, hbel⟩ := hrel
   have HAll := Lib.hid hall
   clear hall
   by_cases hlt : k < n
   ·obtain ⟨b1, o1, x, rfl, hb1, hx, cx⟩ := (ha.below hbel).cell hlt
    obtain ⟨b2, o2, y, rfl, hb2, hy, cy⟩ := (hb.below hbel).cell hlt
    have HX := Lib.hid hx
    have HY := Lib.hid hy
    have kI : (k : Int) < (n : Int) := by omega
    have k0 : (0 : Int) ≤ (k : Int) := by omega
    clear hx hy
    by_cases hxy : x = y
    ·have hxy' : (x == y) = true := by simpa using hxy
     have HXY := Lib.hid hxy
     clear hxy
     go_wp2_with fail
     go_quiet (fail)
     go_wp2_with fail
     go_roundw
     case rel => exact ⟨k + 1, by omega, by go_num, fun j u v hj hu hv => by
      rcases Nat.lt_or_ge j k with h | h
      ·exact HAll.out j u v h hu hv
      ·obtain rfl : j = k := by omega
       rw [HX.out] at hu; rw [HY.out] at hv
       cases hu; cases hv; exact HXY.out, below_drewN hbel _⟩
     case measure => simp [intOf]; omega
    ·have hxy' : (x == y) = false := by simpa using hxy
     have HXY := Lib.hid hxy
     clear hxy
     go_wp2_with fail
     go_quiet (fail)
     go_wp2_with fail
     go_ret
     exact ⟨ret_bool (sameI_ne HX.out HY.out HXY.out).symm, below_drewN hbel _⟩
   ·go_wp2_with fail
    go_ret
    exact ⟨ret_bool (sameI_eq (by rw [HA.out, HB.out]) (fun j x y hj hx hy => HAll.out j x y (by have := HA.out; omega) hx hy)).symm, hbel⟩
 ·have hnn : ((n : Int) == (m : Int)) = false := by simp; omega
  have HF : Hid (sameI a b = false) := sameI_len (by rw [HA.out, HB.out]; exact hnm)
  go_enter Try.func14, Try.ntmps14
  go_wp2_with fail
  go_ret
  exact ⟨ret_bool HF.out.symm, Below.refl _ _⟩

end Go.Proofs.Ytehgijdjnddfcaa
/- BookNumbers: the law, walked. -/
namespace Go.Proofs.Ytehgijdjnddfcaa
open Go.RowKit

theorem numbers_len {s : ByteArray} {l : List Int} {e : Int} (h : NumsIs s.data.toList l e) : l.length ≤ s.size := by
 rcases h with ⟨_, h⟩ | ⟨_, rfl, _⟩
 ·have := h.small
  have := len_bytes s
  omega
 ·exact Nat.zero_le _
theorem numbers_walk (n : Int) (s : ByteArray) (w : World) : Calls Try.prog 4 #[.int .i64 n, .string s] w fun e w' => e = .returned (.bool true) ∧ Below w.heap.size w w' := by
 by_cases hs : 2000 < s.size
 ·go_enter Try.func4, Try.ntmps4
  go_wp2_with fail
  go_ret
  exact ⟨rfl, Below.refl _ _⟩
 ·have hs2 : s.size ≤ 2000 := by omega
  obtain ⟨a, ea, hv⟩ : ∃ (a : ByteArray) (ea : Int), (if 0 ≤ n ∧ n ≤ 999999999 then Value.tuple #[.string (encS n.toNat), .int .i64 0] else .tuple #[.string ⟨#[]⟩, .int .i64 110]) = .tuple #[.string a, .int .i64 ea] := by
   by_cases h : 0 ≤ n ∧ n ≤ 999999999
   ·exact ⟨_, _, if_pos h⟩
   ·exact ⟨_, _, if_neg h⟩
  have HV := Lib.hid hv
  clear hv
  go_enter Try.func4, Try.ntmps4
  go_wp2_with fail
  refine (number_any n w).mono ?_
  rw [HV.out]
  rintro e W1 ⟨rfl, hb1⟩
  have HB1 := Lib.hid hb1
  clear hb1
  go_wp2_with fail
  refine (rNumber_any n W1).mono ?_
  rw [HV.out]
  rintro e W2 ⟨rfl, hb⟩
  have HB2 := Lib.hid (HB1.out.trans (hb.mono HB1.out.size))
  clear hb HB1
  go_wp2_with fail
  refine (callsIn_wide.1 (numbers_in s hs2 W2)).mono ?_
  rintro e W3 ⟨B, q, l, ee, rfl, h1, h2, hb⟩
  have HN := Lib.hid h1
  have HL := Lib.hid h2
  have HB3 := Lib.hid (HB2.out.trans (hb.mono HB2.out.size))
  clear h1 h2 hb HB2
  go_wp2_with fail
  refine (rnumbers_any s hs2 W3).mono ?_
  rintro e W4 ⟨C, r, l', ee', rfl, h1, h2, hb⟩
  obtain ⟨e1, e2⟩ := h1.same HN.out
  subst e1 e2
  have HL1 := Lib.hid ((HL.out.below hb).more hb.size)
  have HL2 := Lib.hid h2
  have HB4 := Lib.hid (HB3.out.trans (hb.mono HB3.out.size))
  have HNL := Lib.hid (numbers_len HN.out)
  clear h1 h2 hb HB3 HL
  go_wp2_with fail
  refine (sameInts_any B l'.length q l' C l'.length r l' W4 (by have := HNL.out; unfold maxLen; omega) (by have := HNL.out; unfold maxLen; omega) HL1.out HL2.out).mono ?_
  rw [show sameI l' l' = true from by unfold sameI; simp]
  rintro e W5 ⟨rfl, hb⟩
  have HB5 := Lib.hid (HB4.out.trans (hb.mono HB4.out.size))
  clear hb HB4
  go_wp2_with fail
  go_ret
  exact ⟨rfl, HB5.out⟩
end Go.Proofs.Ytehgijdjnddfcaa
/- BookNumbers: numbers are the specification's: for every number and all bytes the law returns true. No conditions. -/
namespace Go.Proofs.Ytehgijdjnddfcaa
open Go.ChangeShapes Go.WideShapes Go.ChangeAt Go.RowKit Go.Joins
open Go.ChangeMaps (open_string shut_string)

theorem ownTn : ownKnob Try.prog.godebug = none := by kernel_rfl
theorem laidOutTn : laidOutB Try.prog = true := by kernel_rfl

set_option maxRecDepth 100000 in
theorem numbers_lifted (os : Os) (started : os.Started) (H : Type) (enc : TypeId × Value → H) :
  ReturnsInHanded {} Try.checked os 4 .any (Rows.bookNumbersSpec.pre6 enc Try.prog Try.f4 Rows.bookNumbersRow.domain false) (Rows.bookNumbersSpec.post enc Try.prog Try.f4 false true false false) := by
 refine returnsInHanded_of_change (C := Try.checked) ownTn started (by kernel_rfl) Try.func4
  (ChangeSpec.witness6 (enc := enc) (C := Try.checked) false ⟨#[], #[.int .i64 0, .string ⟨#[]⟩], []⟩ 8 (by kernel_rfl) (by kernel_rfl) (by kernel_rfl) (by kernel_rfl)) ?_
 intro W base args ds gs before hval0 hW hcnd _
 have hval : ∀ (j : Nat) t v, Try.f4.params[j]? = some t → args[j]? = some v → Value.okWide Try.prog W .any base t v := hval0
 have hW' := hW
 obtain ⟨p, q, hA0, hV, rfl, hfz, hnd⟩ := hW
 have hA : DataW.TrodAll enc Try.prog W 0 (fun _ => true) true Try.f4.params.toList args.toList ds p := hA0
 rw [Try.params4] at hA hval
 obtain ⟨v0, vs0, d0, ds0, p0, q0, hargs, rfl, rfl, h0, r0⟩ := trodAll_cons hA
 obtain ⟨v1, vs1, d1, ds1, p1, q1, rfl, rfl, rfl, h1, r1⟩ := trodAll_cons r0
 obtain ⟨rfl, rfl, rfl⟩ := trodAll_nil r1
 obtain rfl : args = #[v0, v1] := by cases args; simp_all
 obtain ⟨rfl, rfl⟩ := trodVars_none hV
 have k0 := h0
 have k1 := h1
 have lt0 : ∀ x ∈ p0, x.block < W.heap.size := by obtain ⟨m, hm⟩ := k0; exact DataW.trod_lt m _ _ _ hm
 have lt1 : ∀ x ∈ p1, x.block < W.heap.size := by obtain ⟨m, hm⟩ := k1; exact DataW.trod_lt m _ _ _ hm
 obtain ⟨n, rfl⟩ := okWide_int Try.underlying3 (hval 0 3 v0 rfl rfl)
 obtain ⟨s, rfl, rfl, rfl, ws⟩ := open_string Try.underlying9 (hval 1 9 v1 rfl rfl) h1
 clear hA0 hval0
 refine (numbers_walk n s W).mono fun e W' ⟨he, bel⟩ => ?_
 subst he
 exact ⟨_, rfl, _, _, _, [], _, [], hW', trodAll_mk1 (shut_bool Try.underlying4 _), (trodAll_cons_mk (Below.trod laidOutTn (by kernel_rfl) (of_decide_eq_true (by kernel_rfl)) k0 bel lt0) (trodAll_cons_mk (Below.trod laidOutTn (by kernel_rfl) (of_decide_eq_true (by kernel_rfl)) k1 bel lt1) trodAll_mk0)), rfl, bel.frame _, fun h => by cases h⟩

theorem numbers_holds : Rows.BookNumbersSaid :=
 OpenClaim.holds_of_wide 4 Try.f4 rfl rfl rfl rfl rfl rfl rfl ⟨rfl, rfl, rfl, rfl, rfl⟩ rfl rfl rfl rfl rfl (by kernel_rfl) Try.func4 (by kernel_rfl)
  (of_decide_eq_true (by kernel_rfl)) (by unfold Func.isWrapper; rw [if_neg (of_decide_eq_false (by kernel_rfl))]; exact ⟨rfl, rfl⟩)
  (fun os started H enc _ => numbers_lifted os started H enc)
#print axioms numbers_holds
end Go.Proofs.Ytehgijdjnddfcaa
