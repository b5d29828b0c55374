/- BookPacks: packed files are the specification's: for every list of strings and all bytes the law returns true. No conditions. -/
import Derived.Deep.QuietTactic
import Derived.BigQuiet
import Derived.Lib.Hide
import Derived.WalkKit
import Derived.Deep.Cut
import Derived.Sort.CutIn
import Derived.Deep.RegionWith
import Derived.OpenShut
import Derived.SliceStrings
import Derived.ShutString
import Derived.ChangeOld
import Derived.Lib.SmallJoins
import Derived.ChangeMaps5
import Derived.ProofKit
import Derived.Test.YtehgijdjnddfcaaBkPk1
set_option linter.unusedVariables false
/- The answer's next and Numbers. -/
namespace Go.Proofs.Ytehgijdjnddfcaa
open Go.RowKit

def nextV (s : ByteArray) (p : Nat) : Value := match decN5 s.data.toList p with
 | none => .tuple #[.int .i64 0, .int .i64 (-1)]
 | some (n, to') => .tuple #[.int .i64 (n : Int), .int .i64 (to' : Int)]
theorem nextV_none {s : ByteArray} {p : Nat} (h : decN5 s.data.toList p = none) : nextV s p = .tuple #[.int .i64 0, .int .i64 (-1)] := by unfold nextV; rw [h]
theorem nextV_some {s : ByteArray} {p n to' : Nat} (h : decN5 s.data.toList p = some (n, to')) : nextV s p = .tuple #[.int .i64 (n : Int), .int .i64 (to' : Int)] := by unfold nextV; rw [h]
theorem byte_at' (a : ByteArray) (k : Nat) (h : k < a.size) : a.data.toList[k]? = some a[k] := by
 rw [List.getElem?_eq_getElem (by simpa using h)]; rfl
theorem mul_byte (b : UInt8) {i : Nat} (hi : i < 5) : wrap64 ((b.toNat : Int).tmod 128 * 128 ^ i) = ((b.toNat % 128 * 128 ^ i : Nat) : Int) := by
 have h := sh_byte b hi
 have h2 : ((2 : Int) ^ (7 * i)) = (128 : Int) ^ i := by rw [Int.pow_mul]; rfl
 rwa [h2] at h
theorem pow_small {i : Nat} (hi : i < 5) : 128 ^ i ≤ 268435456 := Nat.pow_le_pow_right (n := 128) (by decide) (show i ≤ 4 by omega)
theorem add_byte {m c i : Nat} (hi : i < 5) (hm : m < 128 ^ i) (hc : c < 128) : wrap64 ((m : Int) + ((c * 128 ^ i : Nat) : Int)) = ((m + c * 128 ^ i : Nat) : Int) := by
 have h3 := pow_small hi
 have h4 : c * 128 ^ i ≤ 127 * 268435456 := Nat.mul_le_mul (by omega) h3
 unfold wrap64
 omega
theorem place_up {i : Nat} (hi : i < 5) : wrap64 ((128 : Int) ^ i * 128) = ((128 ^ (i + 1) : Nat) : Int) := by
 have h3 := pow_small hi
 have h2 : (128 : Int) ^ i = ((128 ^ i : Nat) : Int) := by simp
 rw [h2, Nat.pow_succ]
 unfold wrap64
 omega
set_option maxRecDepth 100000 in
set_option maxHeartbeats 4000000 in
theorem rnext_any (s : ByteArray) (hs : s.size ≤ 2000) (p : Nat) (hp : p ≤ 2000) (w : World) :
  Calls Try.prog 29 #[.string s, .int .i64 (p : Int)] w fun e w' => e = .returned (nextV s p) ∧ w' = w := by
 go_enter Try.func29, Try.ntmps29
 go_wp2_with fail
 go_loopw [6, 7, 8] (fun v6 v7 v8 wr => ∃ i m : Nat, v6 = .int .i64 (m : Int) ∧ v7 = .int .i64 ((128 ^ i : Nat) : Int) ∧ v8 = .int .i64 ((p + i : Nat) : Int) ∧ Hid (DecSt s.data.toList p i m) ∧ w = wr)
  (fun _ _ v8 _ => p + 6 - (intOf v8).toNat)
 case atStart => exact ⟨0, 0, rfl, rfl, rfl, Lib.hid (DecSt.zero _ _), rfl⟩
 case round =>
  obtain ⟨i, m, rfl, rfl, rfl, HD, hw⟩ := hrel
  obtain rfl := hw
  have hi5 := HD.out.i5
  by_cases hl : p + i < s.size
  ·by_cases h5 : i < 5
   ·have HBY := Lib.hid (byte_at' s (p + i) hl)
    have d1 : decide (((p + i : Nat) : Int) < (s.size : Int)) = true := by simp; omega
    have d2 : decide (((p + i : Nat) : Int) < (p : Int) + 5) = true := by simp; omega
    go_upto_region 7 with fail
    rw [wrap_byte s[p + i], mul_byte s[p + i] h5, add_byte h5 HD.out.lt (by omega), place_up h5]
    have HLA := Lib.hid (fun h => HD.out.last h5 HBY.out h)
    have HTE := Lib.hid (fun h => HD.out.step h5 HBY.out h)
    clear HBY d1 d2
    obtain ⟨m', hm'⟩ : ∃ m', m + s[p + i].toNat % 128 * 128 ^ i = m' := ⟨_, rfl⟩
    rw [hm'] at HLA HTE ⊢
    clear hm'
    by_cases hb : s[p + i].toNat < 128
    ·have HN := Lib.hid (HLA.out hb)
     have hbd : decide ((s[p + i].toNat : Int) < 128) = true := by simp; omega
     by_cases hm : 999999999 < m'
     ·have hmd : decide ((999999999 : Int) < (m' : Int)) = true := by simp; omega
      have HR := Lib.hid (show nextV s p = _ from nextV_none (by rw [HN.out, if_pos (.inr hm)]))
      by_cases hz : s[p + i].toNat = 0
      ·by_cases h0 : 0 < i
       ·have d3 : decide ((p : Int) < (p : Int) + (i : Int)) = true := by simp; omega
        go_wp2_with fail
        exact bodyPost_ret (v := nextV s p) (by rw [HR.out]; simp [results, Try.results29, go_sem]) rfl ⟨rfl, rfl⟩
       ·have d3 : decide ((p : Int) < (p : Int) + (i : Int)) = false := by simp; omega
        go_wp2_with fail
        exact bodyPost_ret (v := nextV s p) (by rw [HR.out]; simp [results, Try.results29, go_sem]) rfl ⟨rfl, rfl⟩
      ·have hzd : ((s[p + i].toNat : Int) == 0) = false := by simp; omega
       go_wp2_with fail
       exact bodyPost_ret (v := nextV s p) (by rw [HR.out]; simp [results, Try.results29, go_sem]) rfl ⟨rfl, rfl⟩
     ·have hmd : decide ((999999999 : Int) < (m' : Int)) = false := by simp; omega
      by_cases hz : s[p + i].toNat = 0
      ·by_cases h0 : 0 < i
       ·have d3 : decide ((p : Int) < (p : Int) + (i : Int)) = true := by simp; omega
        have HR := Lib.hid (show nextV s p = _ from nextV_none (by rw [HN.out, if_pos (.inl ⟨hz, h0⟩)]))
        go_wp2_with fail
        exact bodyPost_ret (v := nextV s p) (by rw [HR.out]; simp [results, Try.results29, go_sem]) rfl ⟨rfl, rfl⟩
       ·have d3 : decide ((p : Int) < (p : Int) + (i : Int)) = false := by simp; omega
        have HR := Lib.hid (show nextV s p = _ from nextV_some (by rw [HN.out, if_neg (by omega)]))
        go_wp2_with fail
        exact bodyPost_ret (v := nextV s p) (by rw [HR.out]; simp [results, Try.results29, go_sem]) rfl ⟨rfl, rfl⟩
      ·have hzd : ((s[p + i].toNat : Int) == 0) = false := by simp; omega
       have HR := Lib.hid (show nextV s p = _ from nextV_some (by rw [HN.out, if_neg (by omega)]))
       go_wp2_with fail
       exact bodyPost_ret (v := nextV s p) (by rw [HR.out]; simp [results, Try.results29, go_sem]) rfl ⟨rfl, rfl⟩
    ·have hbd : decide ((s[p + i].toNat : Int) < 128) = false := by simp; omega
     go_wp2_with fail
     go_roundw
     case rel => exact ⟨i + 1, m', rfl, rfl, by go_num, Lib.hid (HTE.out hb), trivial⟩
     case measure => simp [intOf]; omega
   ·obtain rfl : i = 5 := by omega
    have d1 : decide (((p + 5 : Nat) : Int) < (s.size : Int)) = true := by simp; omega
    have d2 : decide (((p + 5 : Nat) : Int) < (p : Int) + 5) = false := by simp
    have HR := Lib.hid (show nextV s p = _ from nextV_none HD.out.long)
    go_wp2_with fail
    exact bodyPost_ret (v := nextV s p) (by rw [HR.out]; simp [results, Try.results29, go_sem]) rfl ⟨rfl, rfl⟩
  ·have d1 : decide (((p + i : Nat) : Int) < (s.size : Int)) = false := by simp; omega
   have HR := Lib.hid (show nextV s p = _ from nextV_none (HD.out.short (by rw [List.getElem?_eq_none]; have := len_bytes s; omega)))
   go_wp2_with fail
   exact bodyPost_ret (v := nextV s p) (by rw [HR.out]; simp [results, Try.results29, go_sem]) rfl ⟨rfl, rfl⟩
end Go.Proofs.Ytehgijdjnddfcaa
/- The answer's Unpack. -/
namespace Go.Proofs.Ytehgijdjnddfcaa
open Go.RowKit

theorem run1_none {l : List UInt8} (h : decN5 l 0 = none) : runN l 1 = none := by
 rw [runN, runN]
 dsimp only
 split
 ·rw [h]
 ·rfl
theorem run_next {l : List UInt8} {k p m to' : Nat} {xs : List Int} (hk : runN l k = some (p, xs)) (h : decN5 l p = some (m, to')) : runN l (k + 1) = some (to', xs ++ [(m : Int)]) := by
 have := dec_to h
 rw [runN, hk]
 dsimp only
 rw [if_pos (by omega), h]
theorem run_fails {l : List UInt8} {k p : Nat} {xs : List Int} (hk : runN l k = some (p, xs)) (h : decN5 l p = none) : runN l (k + 1) = none := by
 rw [runN, hk]
 dsimp only
 split
 ·rw [h]
 ·rfl
theorem no_big {s : ByteArray} {m i p : Nat} {n : Int} {sz : List Int} (hi : i < m) (hsz : sz.length = i) (h : runN s.data.toList (i + 1 + 1) = some (p, (m : Int) :: sz ++ [n])) (hn : (s.data.toList.length : Int) < n) : ∀ x, ¬ Packed s x := fun x hx => by
 obtain ⟨q, hq⟩ := packed_first hx
 obtain ⟨p', h1, h2, h3⟩ := hx
 have h' := h
 rw [show i + 1 + 1 = 1 + (i + 1) by omega] at h'
 obtain ⟨q', hq'⟩ := run_pre h'
 rw [hq] at hq'
 have e := congrArg (fun x => (x.map (·.2)).getD []) hq'
 simp at e
 rw [show x.length + 1 = (i + 1 + 1) + (x.length - (i + 1)) by omega] at h2
 obtain ⟨q2, hq2⟩ := run_pre h2
 rw [h] at hq2
 have e2 := congrArg (fun x => (x.map (·.2)).getD []) hq2
 simp at e2
 have hxi : x[i]? = some (x[i]'(by omega)) := List.getElem?_eq_getElem (by omega)
 have e3 := congrArg (fun l => l[i]?) e2.2
 simp only [List.getElem?_append_right (show sz.length ≤ i by omega), hsz, Nat.sub_self, List.getElem?_cons_zero, List.getElem?_map, List.getElem?_take, if_pos (show i < i + 1 by omega), hxi, Option.map_some, Option.some.injEq] at e3
 have h6 := body_len_up hxi
 have h7 := body_le (l := x) (k := i + 1)
 have h5 := congrArg List.length h3
 rw [List.length_drop] at h5
 omega
theorem info_str : (Try.prog.info? 9).map (fun i => (i.zero, i.size, i.bytes)) = some (some (.string ⟨#[]⟩), 1, 16) := by kernel_rfl
theorem elem_str : ElemAt Try.prog 43 9 (.string ⟨#[]⟩) 1 16 := by
 obtain ⟨i0, hi, hz0, hz1, hz2⟩ := info_parts info_str
 exact ⟨i0, Try.underlying43, hi, hz0, hz1, hz2, rfl, by decide⟩
theorem one_str {W : World} {g : Nat} {x : ByteArray} {B : Nat} (hB : g < B) (h : W.cell? ⟨g, 0, none⟩ = some (.string x)) : Reads W B 1 (some ⟨g, 0, none⟩) 1 [.string x] :=
 ⟨rfl, fun _ => ⟨_, rfl, hB, fun j u hu => by
  match j, hu with
  | 0, hu => simp at hu; rw [← hu]; simpa [Addr.add] using h⟩⟩
/-- What Unpack answers, in memory. -/
def UnpOut (s : ByteArray) (w : World) (e : Ending) (W : World) : Prop :=
 ∃ B q o ee, e = .returned (.tuple #[.slice B (List.length o) q, .int .i64 ee]) ∧ UnpIs s o ee ∧ StrsAt W W.heap.size B o.length o ∧ Below w.heap.size w W
set_option maxRecDepth 100000 in
set_option maxHeartbeats 4000000 in
theorem rUnpack_any (s : ByteArray) (hs : s.size ≤ 2000) (w : World) : Calls Try.prog 19 #[.string s] w (UnpOut s w) := by
 by_cases h960 : 960 < s.size
 ·go_enter Try.func19, Try.ntmps19
  go_wp2_with fail
  exact bodyPost_ret (v := .tuple #[.slice none 0 0, .int .i64 113]) (by simp [results, Try.results19, go_sem]) rfl ⟨none, 0, [], 113, rfl, .inl ⟨h960, rfl, rfl⟩, Reads.none_, Below.refl _ _⟩
 ·have hS := Lib.hid h960
  have hlen := len_bytes s
  have HLEN := Lib.hid hlen
  clear hlen
  go_enter Try.func19, Try.ntmps19
  go_wp2_with fail
  refine (rnext_any s hs 0 (by omega) w).mono ?_
  rintro e W1 ⟨rfl, hw⟩
  obtain rfl := hw.symm
  clear hw
  have HNO := Lib.hid (fun (W : World) (hb : Below w.heap.size w W) (h : ∀ x, ¬ Packed s x) => (show UnpOut s w (.returned (.tuple #[.slice none 0 0, .int .i64 111])) W from ⟨none, 0, [], 111, rfl, .inr ⟨hS.out, .inr ⟨rfl, rfl, h⟩⟩, Reads.none_, hb⟩))
  cases hd : decN5 s.data.toList 0 with
  | none =>
   rw [nextV_none hd]
   have HD := Lib.hid (no_first (run1_none hd))
   clear hd
   go_wp2_with fail
   exact bodyPost_ret (v := .tuple #[.slice none 0 0, .int .i64 111]) (by simp [results, Try.results19, go_sem]) rfl (HNO.out _ (Below.refl _ _) HD.out)
  | some x =>
   obtain ⟨m, p0⟩ := x
   rw [nextV_some hd]
   have HR := Lib.hid (show runN s.data.toList 1 = some (p0, [(m : Int)]) from run_next (k := 0) (p := 0) (xs := []) rfl hd)
   have HP0 := Lib.hid (dec_to hd)
   clear hd
   have hp0 : ¬ ((p0 : Int) < 0) := by omega
   by_cases hm : 20 < m
   ·have HD := Lib.hid (no_many HR.out (by omega))
    go_wp2_with fail
    exact bodyPost_ret (v := .tuple #[.slice none 0 0, .int .i64 111]) (by simp [results, Try.results19, go_sem]) rfl (HNO.out _ (Below.refl _ _) HD.out)
   ·have hmd : decide ((20 : Int) < (m : Int)) = false := by simp; omega
    go_wp2_with fail
    go_loopw [5, 6, 7] (fun v5 v6 v7 wr => ∃ (i p : Nat) (B : Option Addr) (q : Nat) (sz : List Int), i ≤ m ∧ v5 = .int .i64 (p : Int) ∧ v6 = .slice B sz.length q ∧ v7 = .int .i64 (i : Int) ∧ Hid (runN s.data.toList (i + 1) = some (p, (m : Int) :: sz) ∧ sz.length = i ∧ Own wr w.heap.size 3 1 B sz.length q (sz.map (Value.int .i64)) ∧ Below w.heap.size w wr))
     (fun _ _ v7 _ => m - (intOf v7).toNat)
    case atStart => exact ⟨0, p0, none, 0, [], by omega, rfl, rfl, rfl, Lib.hid ⟨HR.out, rfl, Own.none_ _ _ _ _, Below.refl _ _⟩⟩
    case round =>
     obtain ⟨i, p, B, q, sz, hi, rfl, rfl, rfl, HS⟩ := hrel
     have hp := (run_small HS.out.1).1
     have hlen := HLEN.out
     have hp2 : p ≤ 2000 := by omega
     clear hlen
     by_cases him : i < m
     ·have hid : decide ((i : Int) < (m : Int)) = true := by simp; omega
      go_wp2_with fail
      refine (rnext_any s hs p hp2 wr).mono ?_
      rintro e W1 ⟨rfl, hw⟩
      obtain rfl := hw.symm
      clear hw
      cases hd : decN5 s.data.toList p with
      | none =>
       rw [nextV_none hd]
       have HD := Lib.hid (no_more HR.out (show i + 1 ≤ m by omega) (run_fails HS.out.1 hd))
       clear hd
       go_wp2_with fail
       exact bodyPost_ret (v := .tuple #[.slice none 0 0, .int .i64 111]) (by simp [results, Try.results19, go_sem]) rfl (HNO.out _ HS.out.2.2.2 HD.out)
      | some x =>
       obtain ⟨n, to'⟩ := x
       rw [nextV_some hd]
       have HR2 := Lib.hid (run_next HS.out.1 hd)
       have HT := Lib.hid (dec_to hd)
       have hto : ¬ ((to' : Int) < 0) := by omega
       clear hd
       by_cases hn : 960 < n
       ·have HD := Lib.hid (no_big him HS.out.2.1 HR2.out (by have := HLEN.out; have := hS.out; omega))
        have hnd : decide ((960 : Int) < (n : Int)) = true := by simp; omega
        go_wp2_with fail
        exact bodyPost_ret (v := .tuple #[.slice none 0 0, .int .i64 111]) (by simp [results, Try.results19, go_sem]) rfl (HNO.out _ HS.out.2.2.2 HD.out)
       ·have hnd : decide ((960 : Int) < (n : Int)) = false := by simp; omega
        have HO := Lib.hid (HS.out.2.2.1.alloc (.cells #[.int .i64 (n : Int)] 3))
        have HOB : Hid (Blk (wr.alloc (.cells #[.int .i64 (n : Int)] 3)) wr.heap.size 3 #[.int .i64 (n : Int)]) := Lib.hid (Blk.new _ _ _)
        have HLE := Lib.hid HS.out.2.2.2.size
        have HSL := Lib.hid (show sz.length ≤ 20 from by have := HS.out.2.1; omega)
        go_wp2_with (first | (at_builtin; refine wpList_append_any _ rfl _ _ rfl elem_int rfl HO.out rfl (one_int (x := (n : Int)) HOB.out.lt (HOB.out.cell 0)) (ints_one _) (by have := HSL.out; unfold maxLen; omega) (by have := HSL.out; omega) (by have := HLE.out; simp; omega) ?_) | fail)
        rintro A8 c8 W8 hown hgr hA8
        have HB8 := Lib.hid (show Below w.heap.size w W8 from (HS.out.2.2.2.alloc HLE.out (.cells #[.int .i64 (n : Int)] 3)).grown hgr (by have := HLE.out; simp; omega) (fun j hj => own_rowS HO.out hj))
        have HO8 := Lib.hid hown
        clear hown hgr hA8
        go_wp2_with fail
        go_roundw
        case rel => exact ⟨i + 1, to', A8, c8, sz ++ [(n : Int)], by omega, rfl, by rw [List.length_append]; rfl, by go_num, Lib.hid ⟨HR2.out, by rw [List.length_append, HS.out.2.1]; rfl, by rw [List.length_append, List.map_append]; exact HO8.out, HB8.out⟩⟩
        case measure => simp [intOf]; omega
     ·have hid : decide ((i : Int) < (m : Int)) = false := by simp; omega
      have him2 : i = m := by omega
      have HR3 := Lib.hid (show runN s.data.toList (m + 1) = some (p, (m : Int) :: sz) from him2 ▸ HS.out.1)
      have HI := Lib.hid (show IntsAt wr wr.heap.size B sz.length sz from HS.out.2.2.1.reads (Nat.le_refl _))
      have HB := Lib.hid HS.out.2.2.2
      have HPL := Lib.hid hp
      have hsl : sz.length ≤ 20 := by have := HS.out.2.1; omega
      clear HS him2 hp
      go_wp2_with fail
      clear him hid hi
      generalize wr = W2 at *
      go_loopw [5, 10, 51] (fun v5 v10 v51 wq => ∃ (at_ : Nat) (C : Option Addr) (r : Nat) (o : List ByteArray), v5 = .int .i64 (at_ : Int) ∧ v10 = .slice C o.length r ∧ v51 = .int .i64 (o.length : Int) ∧ Hid (PieceSt s p sz o at_ ∧ Own wq W2.heap.size 9 1 C o.length r (o.map Value.string) ∧ Below W2.heap.size W2 wq))
       (fun _ _ v51 _ => sz.length - (intOf v51).toNat)
      case atStart => exact ⟨p, none, 0, [], rfl, rfl, rfl, Lib.hid ⟨PieceSt.start HPL.out, Own.none_ _ _ _ _, Below.refl _ _⟩⟩
      case round =>
       obtain ⟨at_, C, r, o, rfl, rfl, rfl, HS⟩ := hrel
       have HIN := Lib.hid HS.out.1.in_
       have hat : at_ ≤ s.size := by have := HIN.out; have := HLEN.out; omega
       have HBW := Lib.hid (HB.out.trans (HS.out.2.2.mono HB.out.size))
       by_cases hlt : o.length < sz.length
       ·obtain ⟨bb, oo, z, hA, hbb, hz, cz⟩ := (HI.out.below HS.out.2.2).cell hlt
        subst hA
        have hz0 := (run_small HR3.out).2.2.2 z (List.mem_cons_of_mem _ (List.mem_of_getElem? hz))
        obtain ⟨n, rfl⟩ : ∃ n : Nat, z = n := ⟨z.toNat, by omega⟩
        have HZ := Lib.hid hz
        have kI : (o.length : Int) < (sz.length : Int) := by omega
        have k0 : (0 : Int) ≤ (o.length : Int) := by omega
        have w1 : wrap64 ((s.size : Int) - (at_ : Int)) = (s.size : Int) - (at_ : Int) := by unfold Go.RowKit.wrap64; omega
        clear hz
        by_cases hfit : at_ + n ≤ s.size
        ·have hfd : decide ((s.size : Int) - (at_ : Int) < (n : Int)) = false := by simp; omega
         have HP2 := Lib.hid (HS.out.1.step HZ.out (by have := HLEN.out; omega))
         have hn9 : n ≤ 960 := by have := hS.out; omega
         have HO := Lib.hid (HS.out.2.1.alloc (.cells #[.string (s.extract at_ (at_ + n))] 9))
         have HOB : Hid (Blk (wr.alloc (.cells #[.string (s.extract at_ (at_ + n))] 9)) wr.heap.size 9 #[.string (s.extract at_ (at_ + n))]) := Lib.hid (Blk.new _ _ _)
         have HLE := Lib.hid HS.out.2.2.size
         have HSL := Lib.hid (show o.length ≤ 20 from by omega)
         go_wp2_with (first | (at_builtin; refine wpList_append_any _ rfl _ _ rfl elem_str rfl HO.out rfl (one_str (x := s.extract at_ (at_ + n)) HOB.out.lt (HOB.out.cell 0)) (by intro u hu; simp at hu; rw [hu]; rfl) (by have := HSL.out; unfold maxLen; omega) (by have := HSL.out; omega) (by have := HLE.out; simp; omega) ?_) | fail)
         rintro A8 c8 W8 hown hgr hA8
         have HB8 := Lib.hid (show Below W2.heap.size W2 W8 from (HS.out.2.2.alloc HLE.out (.cells #[.string (s.extract at_ (at_ + n))] 9)).grown hgr (by have := HLE.out; simp; omega) (fun j hj => own_rowS HO.out hj))
         have HO8 := Lib.hid hown
         clear hown hgr hA8
         go_wp2_with fail
         go_roundw
         case rel => exact ⟨at_ + n, A8, c8, o ++ [s.extract at_ (at_ + n)], by go_num, by rw [List.length_append]; rfl, by rw [List.length_append]; go_num, Lib.hid ⟨HP2.out, by rw [List.length_append, List.map_append]; exact HO8.out, HB8.out⟩⟩
         case measure => simp [intOf]; omega
        ·have hfd : decide ((s.size : Int) - (at_ : Int) < (n : Int)) = true := by simp; omega
         have HD := Lib.hid (HS.out.1.short HR3.out HZ.out (by have := HLEN.out; omega))
         go_wp2_with fail
         exact bodyPost_ret (v := .tuple #[.slice none 0 0, .int .i64 111]) (by simp [results, Try.results19, go_sem]) rfl (HNO.out _ HBW.out HD.out)
       ·have ho : o.length = sz.length := by have := HS.out.1.le; omega
        by_cases he : at_ = s.size
        ·have HD := Lib.hid (HS.out.1.done HR3.out (by omega) ho (by have := HLEN.out; omega))
         have hed : ((at_ : Int) == (s.size : Int)) = true := by simp; omega
         have HO := Lib.hid (show StrsAt wr wr.heap.size C o.length o from HS.out.2.1.reads (Nat.le_refl _))
         go_wp2_with fail
         exact bodyPost_ret (v := .tuple #[.slice C o.length r, .int .i64 0]) (by simp [results, Try.results19, go_sem]) rfl ⟨C, r, o, 0, rfl, .inr ⟨hS.out, .inl ⟨rfl, HD.out⟩⟩, HO.out, HBW.out⟩
        ·have HD := Lib.hid (HS.out.1.left HR3.out ho (by have := HLEN.out; omega))
         have hed : ((at_ : Int) == (s.size : Int)) = false := by simp; omega
         clear ho
         go_wp2_with fail
         exact bodyPost_ret (v := .tuple #[.slice none 0 0, .int .i64 111]) (by simp [results, Try.results19, go_sem]) rfl (HNO.out _ HBW.out HD.out)
end Go.Proofs.Ytehgijdjnddfcaa
/- book.Unpack's closure: what it knows in its first loop. -/
namespace Go.Proofs.Ytehgijdjnddfcaa
open Go.RowKit

/-- The boxes: sizes, rest, many; all below is as it was. -/
structure UnpM (w : World) (many : Int) (sz : List Int) (rest : ByteArray) (W : World) : Prop where
 ex : ∃ B q, Blk W w.heap.size 36 #[.slice B sz.length q] ∧ Own W (w.heap.size + 4) 3 1 B sz.length q (sz.map (Value.int .i64))
 rest : Blk W (w.heap.size + 1) 9 #[.string rest]
 many : Blk W (w.heap.size + 2) 3 #[.int .i64 many]
 bel : Below w.heap.size w W
 le : w.heap.size + 4 ≤ W.heap.size
section
variable {w W W' : World} {many : Int} {sz : List Int} {rest : ByteArray}
theorem UnpM.shut (h : UnpM w many sz rest W) (hs : Shut (w.heap.size + 4) W W') : UnpM w many sz rest W' := by
 obtain ⟨B, q, h1, h2⟩ := h.ex
 refine ⟨⟨B, q, hs.blk h1, h2.1, ?_⟩, hs.blk h.rest, hs.blk h.many, h.bel.trans (hs.below.mono (by omega)), Nat.le_trans h.le hs.below.size⟩
 rcases h2.2 with h' | ⟨g, cap', cur, hv, hb, hgg, hr⟩
 ·exact .inl h'
 ·exact .inr ⟨g, cap', cur, hv, hb, hs.cells _ _ _ _ hgg, hr⟩
theorem UnpM.box (h : UnpM w many sz rest W) (k : W.grownBy W' (some (w.heap.size + 3))) : UnpM w many sz rest W' := by
 obtain ⟨B, q, h1, h2⟩ := h.ex
 have ne : ∀ g, g < w.heap.size + 3 → some g ≠ some (w.heap.size + 3) := fun g hg e => by have := Option.some.inj e; omega
 refine ⟨⟨B, q, h1.grown k (ne _ (by omega)), h2.grown k (fun a ha e => ?_)⟩, h.rest.grown k (ne _ (by omega)), h.many.grown k (ne _ (by omega)), h.bel.grown k (by have := h.le; omega) (fun j e => by have := Option.some.inj e; omega), Nat.le_trans h.le k.size⟩
 have h3 := (h2.lt ha).1
 have h4 : a.block = w.heap.size + 3 := Option.some.inj e
 omega
end
/-- How far the reading is. -/
def UnpSt (s : ByteArray) (pre : List NumX) (many : Int) (sz : List Int) (rest : ByteArray) : Prop :=
 (pre = [] ∧ many = -1 ∧ sz = [] ∧ rest = s) ∨
  (∃ m p : Nat, many = (m : Int) ∧ m ≤ 20 ∧ sz.length < m ∧ numInts pre = (m : Int) :: sz ∧ runN s.data.toList (sz.length + 1) = some (p, (m : Int) :: sz) ∧ rest = s.extract p s.size)
/-- All sizes are read. -/
def UnpAll (s : ByteArray) (many : Int) (sz : List Int) (rest : ByteArray) : Prop :=
 ∃ m p : Nat, many = (m : Int) ∧ m ≤ 20 ∧ sz.length = m ∧ runN s.data.toList (m + 1) = some (p, (m : Int) :: sz) ∧ rest = s.extract p s.size
def UnpI (s : ByteArray) (w : World) (pre : List NumX) (W : World) : Prop := ∃ many sz rest, UnpM w many sz rest W ∧ UnpSt s pre many sz rest
def UnpX (s : ByteArray) (w : World) (id : Nat) (pre : List NumX) (W : World) : Prop := id = 0 ∧ ∃ many sz rest, UnpM w many sz rest W ∧ UnpAll s many sz rest
def UnpP (s : ByteArray) (w : World) (pre : List NumX) (ch : List PanicEntry) (W : World) : Prop := ch = noP 111 ∧ (∀ x, ¬ Packed s x) ∧ Below w.heap.size w W
theorem run_of_num {l : List UInt8} {p : Nat} {xs : List Int} (h : NumAt l p xs) : runN l xs.length = some (p, xs) := by
 obtain ⟨k, hk⟩ := h
 have := (run_small hk).2.2.1
 rw [this]
 exact hk
/-- The first number. -/
theorem st_first {s : ByteArray} {n to' : Nat} (h : numNx s [] (n, to')) : runN s.data.toList 1 = some (to', [(n : Int)]) := run_of_num h
theorem st_next {s : ByteArray} {pre : List NumX} {n to' m : Nat} {sz : List Int} (h : numNx s pre (n, to')) (hp : numInts pre = (m : Int) :: sz) : numInts (pre ++ [(n, to')]) = (m : Int) :: (sz ++ [(n : Int)]) ∧ runN s.data.toList (sz.length + 1 + 1) = some (to', (m : Int) :: (sz ++ [(n : Int)])) := by
 have e : numInts (pre ++ [(n, to')]) = (m : Int) :: (sz ++ [(n : Int)]) := by
  unfold numInts at *
  rw [List.map_append, hp]
  rfl
 refine ⟨e, ?_⟩
 have h2 := run_of_num h
 rw [e] at h2
 rw [List.length_cons, List.length_append, List.length_singleton] at h2
 exact h2
/-- Where the bytes end, or are none, before all sizes are read: no packed file. -/
theorem st_fails {s : ByteArray} {xs : List NumX} {many : Int} {sz : List Int} {rest : ByteArray} {p : Nat} (h : UnpSt s xs many sz rest) (hn : NumAt s.data.toList p (numInts xs)) (hd : p = s.data.toList.length ∨ decN5 s.data.toList p = none) : ∀ x, ¬ Packed s x := by
 have hno : ∀ {k : Nat} {ys : List Int}, runN s.data.toList k = some (p, ys) → runN s.data.toList (k + 1) = none := fun {k ys} hk => by
  rw [runN, hk]
  dsimp only
  split
  ·rcases hd with e | e
   ·omega
   ·rw [e]
  ·rfl
 have hr := run_of_num hn
 rcases h with ⟨rfl, _⟩ | ⟨m, p', rfl, _, hlt, e, _, _⟩
 ·exact no_first (hno hr)
 ·rw [e, List.length_cons] at hr
  have h1 := hr
  rw [Nat.add_comm] at h1
  obtain ⟨q, hq⟩ := run_pre h1
  exact no_more (m := m) hq (by omega) (hno hr)
end Go.Proofs.Ytehgijdjnddfcaa
/- book.Unpack's closure: the region that takes one piece off. -/
namespace Go.Proofs.Ytehgijdjnddfcaa
open Go.RowKit

/-- In the loop over the sizes. -/
structure UnpL (s : ByteArray) (w V : World) (gr D at_ : Nat) (sz : List Int) (B C : Option Addr) (r : Nat) (o : List ByteArray) (W : World) : Prop where
 l : Blk W gr 43 #[.slice C o.length r]
 own : Own W V.heap.size 9 1 C o.length r (o.map Value.string)
 rest : Blk W (w.heap.size + 1) 9 #[.string (s.extract at_ s.size)]
 sizes : IntsAt W V.heap.size B sz.length sz
 mark : W.heap[D]? = some (.deferred (some []))
 gr : w.grownBy W (some gr)
 le : V.heap.size ≤ W.heap.size
inductive FrQ (v0 v1 v2 v3 v4 v35 v36 v37 : Value) (ds : List Deferred) : Act → Prop
 | mk (u5 u6 u7 u8 u9 u10 u11 u12 u13 u14 u15 u16 u17 u18 u19 u20 u21 u22 u23 u24 u25 u26 u27 u28 u29 u30 u31 u32 u33 u34 u38 u39 u40 u41 u42 u43 u44 u45 u46 u47 u48 u49 u50 u51 u52 u53 u54 u55 u56 u57 u58 : Value) :
  FrQ v0 v1 v2 v3 v4 v35 v36 v37 ds { tmps := #[v0, v1, v2, v3, v4, u5, u6, u7, u8, u9, u10, u11, u12, u13, u14, u15, u16, u17, u18, u19, u20, u21, u22, u23, u24, u25, u26, u27, u28, u29, u30, u31, u32, u33, u34, v35, v36, v37, u38, u39, u40, u41, u42, u43, u44, u45, u46, u47, u48, u49, u50, u51, u52, u53, u54, u55, u56, u57, u58], defers := ds }

/-- While the pieces' region is carried out in any order: 4 (the one piece's row), 5 (append), 9 (the list's box), 10 (the rest's box). -/
structure PcR (w V : World) (gr D : Nat) (sz : List Int) (B C : Option Addr) (r k : Nat) (o : List ByteArray) (y : ByteArray) (b4 b5 b9 b10 : Bool) (p : Nat) (A8 : Option Addr) (c8 : Nat) (W : World) : Prop where
 le : V.heap.size ≤ W.heap.size
 sizes : IntsAt W V.heap.size B sz.length sz
 mark : W.heap[D]? = some (.deferred (some []))
 ow : w.grownBy W (some gr)
 l0 : b9 = false → Blk W gr 43 #[.slice C o.length r]
 l1 : b9 = true → Blk W gr 43 #[.slice A8 (o.length + 1) c8]
 r0 : b10 = false → Blk W (w.heap.size + 1) 9 #[.string y]
 r1 : b10 = true → Blk W (w.heap.size + 1) 9 #[.string (y.extract k y.size)]
 own0 : b5 = false → Own W V.heap.size 9 1 C o.length r (o.map Value.string)
 own1 : b5 = true → Own W V.heap.size 9 1 A8 (o.length + 1) c8 (o.map Value.string ++ [.string (y.extract 0 k)])
 pc : b4 = true → b5 = false → Blk W p 9 #[.string (y.extract 0 k)]
section
variable {w V W : World} {gr D : Nat} {sz : List Int} {B C A8 : Option Addr} {r k p c8 : Nat} {o : List ByteArray} {y : ByteArray} {b4 b5 b9 b10 : Bool}
theorem Blk.not_mark {W : World} {g D : Nat} {t : TypeId} {cs : Array Value} {x : Option (List Deferred)} (h : Blk W g t cs) (hm : W.heap[D]? = some (.deferred x)) : g ≠ D := fun e => by
 subst e
 unfold Blk at h
 rw [h] at hm
 cases hm
theorem heap_setCell_keep {W : World} {q D : Nat} {ob : Obj} {v : Value} (h : W.heap[D]? = some ob) (hne : q ≠ D) : (W.setCell ⟨q, 0, none⟩ v).heap[D]? = some ob := (Below.heap_setCell W ⟨q, 0, none⟩ v D (Ne.symm hne)).trans h
theorem ints_setCell {W : World} {Bd n q : Nat} {B : Option Addr} {l : List Int} (h : IntsAt W Bd B n l) (hB : ∀ a, B = some a → q ≠ a.block) (v : Value) : IntsAt (W.setCell ⟨q, 0, none⟩ v) Bd B n l :=
 ⟨h.1, fun hn => by
  obtain ⟨ad, e, hb, hc⟩ := h.2 hn
  refine ⟨ad, e, hb, fun j u hu => ?_⟩
  have hne := hB ad e
  rw [World.cell?_of_block (w := W) (by rw [block_of_add]; exact Below.heap_setCell W ⟨q, 0, none⟩ v ad.block (Ne.symm hne))]
  exact hc j u hu⟩
theorem PcR.start {s : ByteArray} {at_ : Nat} (h : UnpL s w V gr D at_ sz B C r o W) (hy : s.extract at_ s.size = y) : PcR w V gr D sz B C r k o y false false false false p A8 c8 W.drew :=
 ⟨h.le, h.sizes, h.mark, grown_drew h.gr 1, fun _ => h.l, (fun e => by cases e), fun _ => hy ▸ h.rest, (fun e => by cases e), fun _ => h.own, (fun e => by cases e), (fun e => by cases e)⟩
theorem PcR.piece (h : PcR w V gr D sz B C r k o y b4 b5 b9 b10 p A8 c8 W) (h5 : b5 = false) : PcR w V gr D sz B C r k o y true b5 b9 b10 W.heap.size A8 c8 (W.alloc (.cells #[.string (y.extract 0 k)] 9)) := by
 have hb : Below W.heap.size W (W.alloc (.cells #[.string (y.extract 0 k)] 9)) := (Below.refl _ _).alloc (Nat.le_refl _) _
 refine ⟨Nat.le_trans h.le hb.size, h.sizes.below (hb.mono h.le), ?_, grown_alloc h.ow _, fun e => (h.l0 e).alloc _, fun e => (h.l1 e).alloc _, fun e => (h.r0 e).alloc _, fun e => (h.r1 e).alloc _, fun e => (h.own0 e).alloc _, fun e => (h.own1 e).alloc _, fun _ _ => Blk.new _ _ _⟩
 exact (hb.block D (Array.getElem?_eq_some_iff.1 h.mark).1).trans h.mark
theorem PcR.app {W' : World} {A9 : Option Addr} {c9 : Nat} (h : PcR w V gr D sz B C r k o y b4 b5 b9 b10 p A8 c8 W) (h5 : b5 = false) (h9 : b9 = false) (h10 : b10 = false) (hw : w.heap.size + 4 ≤ V.heap.size) (hgr : gr < w.heap.size) (hD : D < V.heap.size)
  (hO : Own W' V.heap.size 9 1 A9 (o.length + 1) c9 (o.map Value.string ++ [.string (y.extract 0 k)])) (hg : W.grownBy W' (C.map (·.block))) : PcR w V gr D sz B C r k o y b4 true b9 b10 p A9 c9 W' := by
 have hrow : ∀ j, C.map (·.block) = some j → V.heap.size ≤ j := fun j e => own_rowS (h.own0 h5) e
 have ne : ∀ g, g < V.heap.size → some g ≠ C.map (·.block) := fun g hgl e => by have := hrow g e.symm; omega
 have hV : Below V.heap.size W W' := (Below.refl _ _).grown hg h.le hrow
 exact ⟨Nat.le_trans h.le hg.size, h.sizes.below hV, (hV.block D hD).trans h.mark, grown_belowB h.ow hV (by omega), fun e => (h.l0 e).grown hg (ne _ (by omega)), fun e => absurd (h9.symm.trans e) (by decide), fun e => (h.r0 e).grown hg (ne _ (by omega)), fun e => absurd (h10.symm.trans e) (by decide), (fun e => by cases e), fun _ => hO, fun _ e => by cases e⟩
theorem PcR.box (h : PcR w V gr D sz B C r k o y b4 b5 b9 b10 p A8 c8 W) (h5 : b5 = true) (h9 : b9 = false) (hw : w.heap.size + 4 ≤ V.heap.size) (hgr : gr < w.heap.size) (hB : ∀ a, B = some a → w.heap.size + 4 ≤ a.block) : PcR w V gr D sz B C r k o y b4 b5 true b10 p A8 c8 (W.setCell ⟨gr, 0, none⟩ (.slice A8 (o.length + 1) c8)) :=
 ⟨by simpa [World.setCell] using h.le, ints_setCell h.sizes (fun a e => by have := hB a e; omega) _, heap_setCell_keep h.mark ((h.l0 h9).not_mark h.mark), grown_setCell h.ow (p := ⟨gr, 0, none⟩) (.inl rfl) _, (fun e => by cases e), fun _ => (h.l0 h9).set_ 0 (.slice A8 (o.length + 1) c8), fun e => (h.r0 e).far (p := ⟨gr, 0, none⟩) (by dsimp only; omega) _, fun e => (h.r1 e).far (p := ⟨gr, 0, none⟩) (by dsimp only; omega) _, fun e => absurd (h5.symm.trans e) (by decide), fun e => own_setCell (h.own1 e) (by dsimp only; omega) _, fun _ e => absurd (h5.symm.trans e) (by decide)⟩
theorem PcR.rest (h : PcR w V gr D sz B C r k o y b4 b5 b9 b10 p A8 c8 W) (h5 : b5 = true) (h10 : b10 = false) (hw : w.heap.size + 4 ≤ V.heap.size) (hgr : gr < w.heap.size) (hB : ∀ a, B = some a → w.heap.size + 4 ≤ a.block) : PcR w V gr D sz B C r k o y b4 b5 b9 true p A8 c8 (W.setCell ⟨w.heap.size + 1, 0, none⟩ (.string (y.extract k y.size))) :=
 ⟨by simpa [World.setCell] using h.le, ints_setCell h.sizes (fun a e => by have := hB a e; omega) _, heap_setCell_keep h.mark ((h.r0 h10).not_mark h.mark), grown_setCell h.ow (p := ⟨w.heap.size + 1, 0, none⟩) (.inr (Nat.le_succ _)) _, fun e => (h.l0 e).far (p := ⟨w.heap.size + 1, 0, none⟩) (by dsimp only; omega) _, fun e => (h.l1 e).far (p := ⟨w.heap.size + 1, 0, none⟩) (by dsimp only; omega) _, (fun e => by cases e), fun _ => (h.r0 h10).set_ 0 (.string (y.extract k y.size)), fun e => absurd (h5.symm.trans e) (by decide), fun e => own_setCell (h.own1 e) (by dsimp only; omega) _, fun _ e => absurd (h5.symm.trans e) (by decide)⟩
theorem PcR.done {s : ByteArray} {at_ : Nat} (h : PcR w V gr D sz B C r k o (s.extract at_ s.size) true true true true p A8 c8 W) (hk : at_ + k ≤ s.size) : UnpL s w V gr D (at_ + k) sz B A8 c8 (o ++ [s.extract at_ (at_ + k)]) W := by
 have e1 : (s.extract at_ s.size).extract 0 k = s.extract at_ (at_ + k) := by
  rw [ByteArray.extract_extract]
  congr 1
  omega
 have e2 : (s.extract at_ s.size).extract k (s.extract at_ s.size).size = s.extract (at_ + k) s.size := by
  rw [ByteArray.extract_extract, ByteArray.size_extract]
  congr 1
  omega
 refine ⟨by rw [List.length_append]; exact h.l1 rfl, ?_, e2 ▸ h.r1 rfl, h.sizes, h.mark, h.ow, h.le⟩
 rw [List.length_append, List.map_append, ← e1]
 exact h.own1 rfl
end
end Go.Proofs.Ytehgijdjnddfcaa
/- book.Unpack's closure. -/
namespace Go.Proofs.Ytehgijdjnddfcaa
open Go.RowKit
attribute [local go_sem] Oper.semAt_some thereF_round

def UnpDo (s : ByteArray) (w : World) (gr : Nat) (e : Ending) (W : World) : Prop :=
 ((e = .returned (.tuple #[]) ∧ ∃ B q o, Blk W gr 43 #[.slice B (List.length o) q] ∧ Own W (w.heap.size + 4) 9 1 B o.length q (o.map Value.string) ∧ Packed s o) ∨
  (e = .panicked (noP 111) ∧ ∀ x, ¬ Packed s x)) ∧ w.grownBy W (some gr)
inductive FrU (v0 v1 v2 v3 v4 v5 v6 : Value) : Act → Prop
 | mk (u7 u8 u9 u10 u11 u12 u13 u14 u15 u16 u17 u18 u19 u20 u21 u22 u23 u24 u25 u26 u27 u28 u29 u30 u31 u32 u33 u34 u35 u36 u37 u38 u39 u40 u41 u42 u43 u44 u45 u46 u47 u48 u49 u50 u51 u52 u53 u54 u55 u56 u57 u58 : Value) :
  FrU v0 v1 v2 v3 v4 v5 v6 { tmps := #[v0, v1, v2, v3, v4, v5, v6, u7, u8, u9, u10, u11, u12, u13, u14, u15, u16, u17, u18, u19, u20, u21, u22, u23, u24, u25, u26, u27, u28, u29, u30, u31, u32, u33, u34, u35, u36, u37, u38, u39, u40, u41, u42, u43, u44, u45, u46, u47, u48, u49, u50, u51, u52, u53, u54, u55, u56, u57, u58], defers := [] }
theorem numbers_F (n : Nat) (s : ByteArray) (w : World) :
  CallsIn (thereF Try.prog) n Try.prog 28 #[.string s] w fun e w' => e = .returned (.func (.func 37) #[] #[.pointer (some ⟨w.heap.size, 0, none⟩)]) ∧ w' = w.alloc (.cells #[.string s] 9) := by
 have hmf : ∀ (fn : Fn) (first cap : Array Value) (w : World), (Instr.makeFunc fn first cap).run Try.prog w = .ok (.func fn first cap) w := fun _ _ _ _ => rfl
 refine callsIn_of_wp Try.func28 rfl (there_of Try.func28) ?_ rfl
 simp only [Try.ntmps28, List.size_toArray, List.length_cons, List.length_nil, Nat.reduceAdd, Nat.reduceSub, Array.replicate_succ, Array.replicate_zero, List.push_toArray, List.append_toArray, List.nil_append, List.cons_append]
 gi_wp2
 exact bodyPost_ret (v := .func (.func 37) #[] #[.pointer (some ⟨w.heap.size, 0, none⟩)]) (by simp [results, Try.results28, go_sem]) rfl ⟨rfl, rfl⟩
section
variable {w W : World} {many : Int} {sz : List Int} {rest : ByteArray}
theorem UnpM.own_far (h : UnpM w many sz rest W) {g : Nat} (hg : g < w.heap.size + 4) (hb : w.heap.size ≤ g) (v : Value) {B : Option Addr} {q : Nat} (h2 : Own W (w.heap.size + 4) 3 1 B sz.length q (sz.map (Value.int .i64))) : Own (W.setCell ⟨g, 0, none⟩ v) (w.heap.size + 4) 3 1 B sz.length q (sz.map (Value.int .i64)) := own_setCell h2 (by dsimp only; omega) v
theorem UnpM.setMany (h : UnpM w many sz rest W) (v : Int) : UnpM w v sz rest (W.setCell ⟨w.heap.size + 1 + 1, 0, none⟩ (.int .i64 v)) := by
 obtain ⟨B, q, h1, h2⟩ := h.ex
 exact ⟨⟨B, q, h1.far (p := ⟨w.heap.size + 1 + 1, 0, none⟩) (by dsimp only; omega) _, h.own_far (by omega) (by omega) _ h2⟩, h.rest.far (p := ⟨w.heap.size + 1 + 1, 0, none⟩) (by dsimp only; omega) _, h.many.set_ 0 (.int .i64 v),
  h.bel.setCell (p := ⟨w.heap.size + 1 + 1, 0, none⟩) (by dsimp only; omega) _, by simpa [World.setCell] using h.le⟩
theorem UnpM.setRest (h : UnpM w many sz rest W) (v : ByteArray) : UnpM w many sz v (W.setCell ⟨w.heap.size + 1, 0, none⟩ (.string v)) := by
 obtain ⟨B, q, h1, h2⟩ := h.ex
 exact ⟨⟨B, q, h1.far (p := ⟨w.heap.size + 1, 0, none⟩) (by dsimp only; omega) _, h.own_far (by omega) (by omega) _ h2⟩, h.rest.set_ 0 (.string v), h.many.far (p := ⟨w.heap.size + 1, 0, none⟩) (by dsimp only; omega) _,
  h.bel.setCell (p := ⟨w.heap.size + 1, 0, none⟩) (by dsimp only; omega) _, by simpa [World.setCell] using h.le⟩
end
theorem rest_ne {s : ByteArray} {p : Nat} (h : p < s.size) : (s.extract p s.size).toList.isEmpty = false := by
 rw [ByteArray.toList_eq]
 cases h' : (s.extract p s.size).data.toList with
 | nil =>
  have h2 := congrArg List.length h'
  rw [len_bytes, ByteArray.size_extract] at h2
  simp at h2
  omega
 | cons a b => rfl
theorem callsIn_round {F : Fence} {l n : Nat} {P : Program} {f : FuncId} {args : Array Value} {w : World} {R : Ending → World → Prop} (h : CallsIn F n P f args w R) : CallsIn (F.inRound l) n P f args w R := h
/-- A size appended, stored; the rest stored. -/
theorem UnpM.push {w W W8 : World} {many : Int} {sz : List Int} {rest r2 : ByteArray} {x : Int} {B A8 : Option Addr} {q c8 : Nat} (h : UnpM w many sz rest W) (h1 : Blk W w.heap.size 36 #[.slice B sz.length q]) (h2 : Own W (w.heap.size + 4) 3 1 B sz.length q (sz.map (Value.int .i64)))
  (hO : Own W8 (w.heap.size + 4) 3 1 A8 (sz.length + 1) c8 (sz.map (Value.int .i64) ++ [.int .i64 x])) (hg : (W.alloc (.cells #[.int .i64 x] 3)).grownBy W8 (B.map (·.block))) :
  Blk W8 w.heap.size 36 #[.slice B sz.length q] ∧ Blk W8 (w.heap.size + 1) 9 #[.string rest] ∧ Blk W8 (w.heap.size + 2) 3 #[.int .i64 many] ∧
  UnpM w many (sz ++ [x]) r2 ((W8.setCell ⟨w.heap.size, 0, none⟩ (.slice A8 (sz.length + 1) c8)).setCell ⟨w.heap.size + 1, 0, none⟩ (.string r2)) ∧
  KeepsFrom (w.heap.size + 4) W ((W8.setCell ⟨w.heap.size, 0, none⟩ (.slice A8 (sz.length + 1) c8)).setCell ⟨w.heap.size + 1, 0, none⟩ (.string r2)) ∧
  keepS (w.heap.size + 3) W ((W8.setCell ⟨w.heap.size, 0, none⟩ (.slice A8 (sz.length + 1) c8)).setCell ⟨w.heap.size + 1, 0, none⟩ (.string r2)) := by
 have hal : Below W.heap.size W (W.alloc (.cells #[.int .i64 x] 3)) := (Below.refl _ _).alloc (Nat.le_refl _) _
 have hrow : ∀ j, B.map (·.block) = some j → w.heap.size + 4 ≤ j := fun j e => own_rowS h2 e
 have ne : ∀ g, g < w.heap.size + 4 → some g ≠ B.map (·.block) := fun g hgl e => by have := hrow g e.symm; omega
 have b1 := (h1.alloc (.cells #[.int .i64 x] 3)).grown hg (ne _ (by omega))
 have b2 := (h.rest.alloc (.cells #[.int .i64 x] 3)).grown hg (ne _ (by omega))
 have b3 := (h.many.alloc (.cells #[.int .i64 x] 3)).grown hg (ne _ (by omega))
 have hbel : Below w.heap.size w W8 := (h.bel.alloc h.bel.size (.cells #[.int .i64 x] 3)).grown hg (by have := h.bel.size; simp; omega) (fun j e => by have := hrow j e; omega)
 have hle : w.heap.size + 4 ≤ W8.heap.size := Nat.le_trans h.le (Nat.le_trans hal.size hg.size)
 refine ⟨b1, b2, b3, ⟨⟨A8, c8, ?_, ?_⟩, ?_, ?_, ?_, by simpa [World.setCell] using hle⟩, ?_, ?_⟩
 ·rw [List.length_append]
  exact (b1.set_ 0 (.slice A8 (sz.length + 1) c8)).far (p := ⟨w.heap.size + 1, 0, none⟩) (by dsimp only; omega) _
 ·rw [List.length_append, List.map_append]
  exact own_setCell (own_setCell hO (by dsimp only; omega) _) (by dsimp only; omega) _
 ·exact (b2.far (p := ⟨w.heap.size, 0, none⟩) (by dsimp only; omega) _).set_ 0 (.string r2)
 ·exact (b3.far (p := ⟨w.heap.size, 0, none⟩) (by dsimp only; omega) _).far (p := ⟨w.heap.size + 1, 0, none⟩) (by dsimp only; omega) _
 ·exact (hbel.setCell (p := ⟨w.heap.size, 0, none⟩) (Nat.le_refl _) _).setCell (p := ⟨w.heap.size + 1, 0, none⟩) (by dsimp only; omega) _
 ·exact (((keepsFrom_below hal).trans (keepsFrom_grown hg (own_blk (h2.alloc _)))).trans (keepsFrom_setCell _ _ _ _)).trans (keepsFrom_setCell _ _ _ _)
 ·intro cs hb
  exact (((hb.alloc _).grown hg (ne _ (by omega))).far (p := ⟨w.heap.size, 0, none⟩) (by dsimp only; omega) _).far (p := ⟨w.heap.size + 1, 0, none⟩) (by dsimp only; omega) _
set_option maxRecDepth 100000 in
set_option maxHeartbeats 4000000 in
theorem unp1_in (n : Nat) (hn : 6 ≤ n) (s : ByteArray) (hs : s.size ≤ 960) (gs gr : Nat) (w : World) (hS : Blk w gs 9 #[.string s]) (hL : Blk w gr 43 #[.slice none 0 0]) (hne : gs ≠ gr) :
  CallsIn (thereF Try.prog) n Try.prog 31 #[.pointer (some ⟨gs, 0, none⟩), .pointer (some ⟨gr, 0, none⟩)] w (UnpDo s w gr) := by
 have hmf : ∀ (fn : Fn) (first cap : Array Value) (w : World), (Instr.makeFunc fn first cap).run Try.prog w = .ok (.func fn first cap) w := fun _ _ _ _ => rfl
 have hEn : ∀ args W, (callFunc 37 args).run Try.prog W = .ok (.enter 37 args) W := fun args W => by simp [go_sem]
 refine callsIn_of_wp_marks Try.func31 rfl (there_of Try.func31) ?_ rfl
 simp only [Try.ntmps31, List.size_toArray, List.length_cons, List.length_nil, Nat.reduceAdd, Nat.reduceSub, Array.replicate_succ, Array.replicate_zero, List.push_toArray, List.append_toArray, List.nil_append, List.cons_append]
 have c0 := hS.cell 0
 have c1 := hS.lt
 have l1 := hL.lt
 have HX := Lib.hid (Lay.three w 36 #[.slice none 0 0] 9 #[.string s] 3 #[.int .i64 (-1)])
 gi_upto_region 2 with fail
 have HZ := Lib.hid (show (((w.alloc (.cells #[.slice none 0 0] 36)).alloc (.cells #[.string s] 9)).alloc (.cells #[.int .i64 (-1)] 3)).heap.size = w.heap.size + 3 from by simp)
 generalize ((w.alloc (.cells #[.slice none 0 0] 36)).alloc (.cells #[.string s] 9)).alloc (.cells #[.int .i64 (-1)] 3) = W3 at *
 have HS3 := Lib.hid (hS.below HX.out.1 hS.lt)
 have HL := Lib.hid hL
 clear c0 c1 l1 hS hL
 have c0 := HS3.out.cell 0
 have c1 := HS3.out.lt
 gi_wp2
 refine ⟨there_of Try.func28, fun _ => by omega, (numbers_F _ s W3).mono ?_⟩
 rintro e W4 ⟨rfl, hw4⟩
 have HB4 := Lib.hid (show Blk W4 W3.heap.size 9 #[.string s] from hw4 ▸ Blk.new W3 _ _)
 have HZ4 := Lib.hid (show W4.heap.size = w.heap.size + 4 from by rw [hw4]; simp; exact HZ.out)
 have hb34 : Below W3.heap.size W3 W4 := by rw [hw4]; exact (Below.refl _ _).alloc (Nat.le_refl _) _
 have HM4 := Lib.hid (show UnpM w (-1) [] s W4 from
  ⟨⟨none, 0, (HX.out.blk 0 rfl).below hb34 (HX.out.lt 0 rfl), Own.none_ _ _ _ _⟩, (HX.out.blk 1 rfl).below hb34 (HX.out.lt 1 rfl), (HX.out.blk 2 rfl).below hb34 (HX.out.lt 2 rfl), HX.out.1.trans (hb34.mono HX.out.1.size), by rw [HZ4.out]; exact Nat.le_refl _⟩)
 rw [HZ.out] at HB4
 have HZ3 := Lib.hid HZ.out
 clear hw4 hb34 HX HS3 c0 c1
 gi_wp2
 rw [HZ3.out]
 have HZE := HZ4.out
 refine wpIn_rangeFull (fun f hf => there_all hf) rfl (by omega) (gf := 37) (lb := #[.pointer (some ⟨w.heap.size + 3, 0, none⟩)]) rfl (there_of Try.func37) hEn (row := some (w.heap.size + 3)) (fun k e => by have := Option.some.inj e; omega)
  (numbers1_full (n - 1) (by omega) s (by unfold maxLen; omega) (w.heap.size + 3) W4 HB4.out) keepS_trans
  (fun W l o o' hl ho hc hw cs hb => (World.putObj_heap_other (by omega)).trans hb) (fun _ => rfl)
  (UnpI s w) (UnpX s w) (UnpP s w)
  (ownFrom_shut (fun xs W h => by obtain ⟨_, _, _, h, _⟩ := h; rw [HZE]; exact h.le) (fun xs W W' h hs => by obtain ⟨a, b, c, h1, h2⟩ := h; rw [HZE] at hs; exact ⟨a, b, c, h1.shut hs, h2⟩))
  (fun id => ownFrom_shut (fun xs W h => by obtain ⟨_, _, _, _, h, _⟩ := h; rw [HZE]; exact h.le) (fun xs W W' h hs => by obtain ⟨e, a, b, c, h1, h2⟩ := h; rw [HZE] at hs; exact ⟨e, a, b, c, h1.shut hs, h2⟩))
  (fun xs A B h k => by obtain ⟨a, b, c, h1, h2⟩ := h; exact ⟨a, b, c, h1.box k, h2⟩) ⟨-1, [], s, HM4.out, .inl ⟨rfl, rfl, rfl, rfl⟩⟩
  (fun y a' Wr => FrU (.pointer (some ⟨gs, 0, none⟩)) (.pointer (some ⟨gr, 0, none⟩)) (.pointer (some ⟨w.heap.size, 0, none⟩)) (.pointer (some ⟨w.heap.size + 1, 0, none⟩)) (.pointer (some ⟨w.heap.size + 1 + 1, 0, none⟩)) (.int .i64 (y.1 : Int)) (.string (s.extract y.2 s.size)) a')
  (fun y a' => ownFrom_pure _ _) ?assign ?body ?fall ?panic ?stop ?done
 case assign =>
  intro l' pre x W K hI hN hK
  unfold numEnc
  clear HZE
  gi_wp2
  exact hK _ _ (KeepsFrom.refl _ _) (fun _ h => h) hI (by constructor)
 case body =>
  rintro l' pre ⟨x, to'⟩ a' W hI hN ha'
  cases ha'
  obtain ⟨many, sz, rest, hM, hSt⟩ := hI
  obtain ⟨B, q, h1, h2⟩ := hM.ex
  have HM := Lib.hid hM
  have HN := Lib.hid hN
  have H1 := Lib.hid h1
  have H2 := Lib.hid h2
  have x0 := h1.cell 0
  have x1 := h1.frozen 0
  have xl := h1.lt
  have y0 := hM.many.cell 0
  have y1 := hM.many.frozen 0
  have yl := hM.many.lt
  have z0 := hM.rest.cell 0
  have z1 := hM.rest.frozen 0
  have zl := hM.rest.lt
  dsimp only at *
  rcases hSt with ⟨rfl, rfl, rfl, rfl⟩ | ⟨m, p, rfl, hm20, hlt, hpre, hrun, rfl⟩
  ·have HF := Lib.hid (st_first hN)
   clear h1 h2 hM hN
   by_cases hx : x ≤ 20
   ·have hxd : decide ((x : Int) ≤ 20) = true := by simp; omega
    gi_wp2
    refine ⟨there_of Try.func32, fun _ => by omega, callsIn_round ((must_okF _ 111 _).mono ?_)⟩
    rintro e W9 ⟨rfl, hw⟩
    obtain rfl := hw.symm
    have HM2 := Lib.hid ((HM.out.setMany (x : Int)).setRest (rest.extract to' rest.size))
    have HK2 := Lib.hid (show KeepsFrom (w.heap.size + 4) W ((W.setCell ⟨w.heap.size + 1 + 1, 0, none⟩ (.int .i64 (x : Int))).setCell ⟨w.heap.size + 1, 0, none⟩ (.string (rest.extract to' rest.size))) from (keepsFrom_setCell _ W _ _).trans (keepsFrom_setCell _ _ _ _))
    by_cases hx0 : x = 0
    ·subst hx0
     gi_wp2
     exact ⟨HZ4.out ▸ HK2.out, rfl, _, _, _, HM2.out, 0, to', rfl, by omega, rfl, HF.out, rfl⟩
    ·have hxe : ((0 : Int) == (x : Int)) = false := by simp; omega
     gi_wp2
     exact ⟨HZ4.out ▸ HK2.out, fun cs h => (h.far (p := ⟨w.heap.size + 1 + 1, 0, none⟩) (by dsimp only; omega) _).far (p := ⟨w.heap.size + 1, 0, none⟩) (by dsimp only; omega) _, _, _, _, HM2.out, .inr ⟨x, to', rfl, hx, by simp; omega, rfl, HF.out, rfl⟩⟩
   ·have hxd : decide ((x : Int) ≤ 20) = false := by simp; omega
    gi_wp2
    refine ⟨there_of Try.func32, fun _ => by omega, callsIn_round ((must_noF _ 111 _).mono ?_)⟩
    rintro e W9 ⟨rfl, hw⟩
    obtain rfl := hw.symm
    exact ⟨rfl, HZ4.out ▸ keepsFrom_setCell _ W _ _, rfl, no_many HF.out (by omega), (HM.out.setMany (x : Int)).bel⟩
  ·have HR := Lib.hid (st_next hN hpre)
   have HLT := Lib.hid hlt
   have HO := Lib.hid (h2.alloc (.cells #[.int .i64 (x : Int)] 3))
   have HOB : Hid (Blk (W.alloc (.cells #[.int .i64 (x : Int)] 3)) W.heap.size 3 #[.int .i64 (x : Int)]) := Lib.hid (Blk.new _ _ _)
   have HLE := Lib.hid hM.le
   have hmn : ¬ ((m : Int) < 0) := by omega
   clear h1 h2 hM hN hpre hrun y1 z0
   gi_wp2_with (first | (gi_at_builtin; refine wpListIn_append_any rfl (.tmp 14) (.tmp 16) (by rfl) elem_int rfl HO.out rfl (one_int (x := (x : Int)) HOB.out.lt (HOB.out.cell 0)) (ints_one _) (by have := HLT.out; unfold maxLen; omega) (by have := HLT.out; omega) (by have := HLE.out; simp; omega) ?_) | fail)
   rintro A8 c8 W8 hown hgr hA8
   obtain ⟨b1, b2, b3, hM2, hK2, hS2⟩ := HM.out.push (r2 := s.extract to' s.size) H1.out H2.out hown hgr
   have HM2 := Lib.hid hM2
   have HK2 := Lib.hid hK2
   have HS2 := Lib.hid hS2
   clear x0 x1 xl y0 yl z1 zl
   have x0 := b1.cell 0
   have x1 := b1.frozen 0
   have xl := b1.lt
   have y0 := b3.cell 0
   have yl := b3.lt
   have z0 := b2.cell 0
   have z1 := b2.frozen 0
   have zl := b2.lt
   clear b1 b2 b3 hM2 hK2 hS2 hown hgr hA8
   by_cases he : sz.length + 1 = m
   ·have hed : ((sz.length : Int) + 1 == (m : Int)) = true := by simp; omega
    have HE := Lib.hid he
    clear he
    gi_wp2
    exact ⟨HZ4.out ▸ HK2.out, rfl, _, _, _, HM2.out, m, to', rfl, hm20, by rw [List.length_append]; exact HE.out, by have h := HR.out.2; rw [HE.out] at h; exact h, rfl⟩
   ·have hed : ((sz.length : Int) + 1 == (m : Int)) = false := by simp; omega
    gi_wp2
    exact ⟨HZ4.out ▸ HK2.out, HS2.out, _, _, _, HM2.out, .inr ⟨m, to', rfl, hm20, by rw [List.length_append]; have := HLT.out; simp; omega, HR.out.1, by rw [List.length_append]; exact HR.out.2, rfl⟩⟩
 case fall =>
  rintro D ch xs W hD hS hI hK
  have hmk : Marks w.heap.size W [{ target := .collected D, args := #[] }] := ⟨⟨D, by omega, rfl, hK, by simp⟩, trivial⟩
  obtain ⟨many, sz, rest, h1, h2⟩ := hI
  rcases hS with ⟨h, _⟩ | ⟨h, p, h3, h4, h5⟩
  ·cases h
  ·cases h
   refine leaves_marksU (by simp) _ _ hmk fun w' hsh => ?_
   exact ⟨.inr ⟨rfl, st_fails h2 h3 (.inr h5)⟩, grown_of_below (h1.bel.trans hsh.below) _⟩
 case panic =>
  rintro D ch xs W hD ⟨rfl, h1, h2⟩ hK
  have hmk : Marks w.heap.size W [{ target := .collected D, args := #[] }] := ⟨⟨D, by omega, rfl, hK, by simp⟩, trivial⟩
  refine leaves_marksU (by simp) _ _ hmk fun w' hsh => ?_
  exact ⟨.inr ⟨rfl, h1⟩, grown_of_below (h2.trans hsh.below) _⟩
 case stop =>
  rintro D id xs W hD ⟨rfl, many, sz, rest, hM, m, p, rfl, hm20, hlen, hrun, rfl⟩ hK
  obtain ⟨B, q, h1, h2⟩ := hM.ex
  have HM := Lib.hid hM
  have HR := Lib.hid hrun
  have HLEN := Lib.hid hlen
  have hq : ((sz.length : Int) == (m : Int)) = true := by simp; omega
  have HDW := Lib.hid (show D < W.heap.size from (Array.getElem?_eq_some_iff.1 hK).1)
  have HL0 := Lib.hid (show UnpL s w W gr D p sz B none 0 [] W from ⟨HL.out.below hM.bel HL.out.lt, Own.none_ _ _ _ _, hM.rest, h2.reads (Nat.le_refl _), hK, grown_of_below hM.bel _, Nat.le_refl _⟩)
  have x0 := h1.cell 0
  have xl := h1.lt
  have y0 := hM.many.cell 0
  have yl := hM.many.lt
  have HBL := Lib.hid (show ∀ a, B = some a → w.heap.size + 4 ≤ a.block from fun a e => (h2.lt e).1)
  have hgr := HL.out.lt
  clear hM hrun hlen h1 h2 hK
  gi_wp2
  refine ⟨there_of Try.func32, fun _ => by omega, (must_okF _ 111 W).mono ?_⟩
  rintro e W9 ⟨rfl, hw⟩
  obtain rfl := hw.symm
  clear hw
  gi_wp2
  clear x0 xl y0 yl hq
  refine wpIn_loop (fun a W' => ∃ (at_ : Nat) (C : Option Addr) (r : Nat) (o : List ByteArray), Hid (PieceSt s p sz o at_ ∧ UnpL s w W gr D at_ sz B C r o W') ∧ FrQ (.pointer (some ⟨gs, 0, none⟩)) (.pointer (some ⟨gr, 0, none⟩)) (.pointer (some ⟨w.heap.size, 0, none⟩)) (.pointer (some ⟨w.heap.size + 1, 0, none⟩)) (.pointer (some ⟨w.heap.size + 1 + 1, 0, none⟩)) (.slice B sz.length q) (.int .i64 (sz.length : Int)) (.int .i64 (o.length : Int)) [{ target := .collected D, args := #[] }] a)
   (fun a _ => sz.length - (intOf (a.tmps.getD 37 undef)).toNat) ?_ ?_
  ·exact ⟨p, none, 0, [], Lib.hid ⟨PieceSt.start (run_small HR.out).1, HL0.out⟩, by constructor⟩
  rintro a W2 ⟨at_, C, r, o, HS, hfr⟩
  obtain ⟨u5, u6, u7, u8, u9, u10, u11, u12, u13, u14, u15, u16, u17, u18, u19, u20, u21, u22, u23, u24, u25, u26, u27, u28, u29, u30, u31, u32, u33, u34, u38, u39, u40, u41, u42, u43, u44, u45, u46, u47, u48, u49, u50, u51, u52, u53, u54, u55, u56, u57, u58⟩ := hfr
  have hat : at_ ≤ s.size := by have := HS.out.1.in_; have := len_bytes s; omega
  by_cases hlt : o.length < sz.length
  ·obtain ⟨bb, oo, z, hA, hbb, hz, cz⟩ := HS.out.2.sizes.cell hlt
   subst hA
   have hz0 := (run_small HR.out).2.2.2 z (List.mem_cons_of_mem _ (List.mem_of_getElem? hz))
   obtain ⟨k, rfl⟩ : ∃ k : Nat, z = k := ⟨z.toNat, by omega⟩
   have HZ := Lib.hid hz
   have r0 := HS.out.2.rest.cell 0
   have rl := HS.out.2.rest.lt
   have kI : (o.length : Int) < (sz.length : Int) := by omega
   have k0 : (0 : Int) ≤ (o.length : Int) := by omega
   clear hz
   have HBW := Lib.hid HS.out.2.gr
   by_cases hfit : at_ + k ≤ s.size
   ·have hfd : decide ((k : Int) ≤ ((s.extract at_ s.size).size : Int)) = true := by rw [ByteArray.size_extract]; simp; omega
    have hfd2 : decide ((k : Int) ≤ ((s.size - at_ : Nat) : Int)) = true := by simp; omega
    gi_wp2
    refine ⟨there_of Try.func32, fun _ => by omega, ?_⟩
    rw [show decide (k ≤ s.size - at_) = true from by simp; omega]
    refine (must_okF _ 111 W2).mono ?_
    rintro e W9 ⟨rfl, hw⟩
    obtain rfl := hw.symm
    clear hw hfd hfd2 r0 rl
    have HP2 := Lib.hid (HS.out.1.step HZ.out (by have := len_bytes s; omega))
    have HSL := Lib.hid (show o.length ≤ 20 from by have := HLEN.out; omega)
    have hext : (s.extract at_ s.size).size = s.size - at_ := by rw [ByteArray.size_extract]; omega
    gi_upto_region 16 with fail
    obtain ⟨y, hy⟩ : ∃ y, s.extract at_ s.size = y := ⟨_, rfl⟩
    rw [hy] at hext
    have HY := Lib.hid hy
    have HRS := Lib.hid (show Blk W2 (w.heap.size + 1) 9 #[.string y] from hy ▸ HS.out.2.rest)
    have hky : k ≤ y.size := by omega
    have hkyi : (k : Int) ≤ (y.size : Int) := by omega
    have HLE2 := Lib.hid HS.out.2.le
    have HGW := Lib.hid (show gr < W.heap.size ∧ w.heap.size + 4 ≤ W.heap.size from ⟨by have := HM.out.le; omega, HM.out.le⟩)
    have HHB := Lib.hid hat
    clear hy hext
    refine wpIn_region_stepsD (by kernel_rfl) (by kernel_rfl) (fun σ : (Nat × Option Addr × Nat) × (Nat → Value) => { tmps := #[.pointer (some ⟨gs, 0, none⟩), .pointer (some ⟨gr, 0, none⟩), .pointer (some ⟨w.heap.size, 0, none⟩), .pointer (some ⟨w.heap.size + 1, 0, none⟩), .pointer (some ⟨w.heap.size + 1 + 1, 0, none⟩), u5, u6, u7, .int .i64 (k : Int), u9, u10, u11, u12, u13, u14, u15, u16, u17, u18, u19, u20, u21, u22, u23, u24, u25, u26, u27, u28, u29, u30, u31, u32, u33, u34, .slice (some ⟨bb, oo, none⟩) sz.length q, .int .i64 (sz.length : Int), .int .i64 (o.length : Int), .bool true, .pointer (some ⟨bb, oo + o.length, none⟩), .int .i64 (k : Int), .int .i64 (k : Int), .string (s.extract at_ s.size), .int .i64 ((s.size - at_ : Nat) : Int), .bool true, .tuple #[], σ.2 46, σ.2 47, σ.2 48, σ.2 49, σ.2 50, σ.2 51, σ.2 52, σ.2 53, σ.2 54, u55, u56, u57, u58], defers := [{ target := .collected D, args := #[] }] })
     (fun L σ Wq => PcR w W gr D sz (some ⟨bb, oo, none⟩) C r k o y (L 4) (L 5) (L 9) (L 10) σ.1.1 σ.1.2.1 σ.1.2.2 Wq ∧ (L 0 = true → σ.2 46 = .slice C o.length r) ∧ (L 1 = true → σ.2 47 = .string y) ∧ (L 2 = true → σ.2 48 = .int .i64 (k : Int)) ∧ (L 3 = true → σ.2 49 = .string (y.extract 0 k)) ∧ (L 4 = true → σ.2 50 = .slice (some ⟨σ.1.1, 0, none⟩) 1 1) ∧ (L 5 = true → σ.2 51 = .slice σ.1.2.1 (o.length + 1) σ.1.2.2) ∧ (L 6 = true → σ.2 52 = .string y) ∧ (L 7 = true → σ.2 53 = .int .i64 (k : Int)) ∧ (L 8 = true → σ.2 54 = .string (y.extract k y.size)))
     ((0, none, 0), fun k => match k with | 46 => u46 | 47 => u47 | 48 => u48 | 49 => u49 | 50 => u50 | 51 => u51 | 52 => u52 | 53 => u53 | 54 => u54 | _ => undef) rfl ?_ ?_ ?_
    ·exact ⟨PcR.start HS.out.2 HY.out, (fun h => by cases h), (fun h => by cases h), (fun h => by cases h), (fun h => by cases h), (fun h => by cases h), (fun h => by cases h), (fun h => by cases h), (fun h => by cases h), (fun h => by cases h)⟩
    ·refine ⟨?_, ?_, ?_, ?_, ?_, ?_, ?_, ?_, ?_, ?_, ?_, trivial⟩
     ·rintro L ⟨gh, sg⟩ Wq hu hd hdn ⟨pq, f0, f1, f2, f3, f4, f5, f6, f7, f8⟩ K Q hK
      try dsimp only at pq f0 f1 f2 f3 f4 f5 f6 f7 f8 ⊢
      have h9 : L 9 = false := by
       cases hc : L 9 with
       | false => rfl
       | true => exact hdn.no 9 0 hc rfl hu
      have c0 := (pq.l0 h9).cell 0
      have cl := (pq.l0 h9).lt
      have HF := Lib.hid (show PcR w W gr D sz (some ⟨bb, oo, none⟩) C r k o y (L 4) (L 5) (L 9) (L 10) gh.1 gh.2.1 gh.2.2 Wq ∧ (L 0 = true → sg 46 = .slice C o.length r) ∧ (L 1 = true → sg 47 = .string y) ∧ (L 2 = true → sg 48 = .int .i64 (k : Int)) ∧ (L 3 = true → sg 49 = .string (y.extract 0 k)) ∧ (L 4 = true → sg 50 = .slice (some ⟨gh.1, 0, none⟩) 1 1) ∧ (L 5 = true → sg 51 = .slice gh.2.1 (o.length + 1) gh.2.2) ∧ (L 6 = true → sg 52 = .string y) ∧ (L 7 = true → sg 53 = .int .i64 (k : Int)) ∧ (L 8 = true → sg 54 = .string (y.extract k y.size)) from ⟨pq, f0, f1, f2, f3, f4, f5, f6, f7, f8⟩)
      clear f8 f7 f6 f5 f4 f3 f2 f1 f0 pq hd
      try simp only
      gi_wp2
      obtain ⟨pq, f0, f1, f2, f3, f4, f5, f6, f7, f8⟩ := HF.out
      exact hK (gh, (upd sg 46 (.slice C o.length r))) _ ⟨pq, (fun _ => rfl), f1, f2, f3, f4, f5, f6, f7, f8⟩
     ·rintro L ⟨gh, sg⟩ Wq hu hd hdn ⟨pq, f0, f1, f2, f3, f4, f5, f6, f7, f8⟩ K Q hK
      try dsimp only at pq f0 f1 f2 f3 f4 f5 f6 f7 f8 ⊢
      have h10 : L 10 = false := by
       cases hc : L 10 with
       | false => rfl
       | true => exact hdn.no 10 1 hc rfl hu
      have c0 := (pq.r0 h10).cell 0
      have cl := (pq.r0 h10).lt
      have HF := Lib.hid (show PcR w W gr D sz (some ⟨bb, oo, none⟩) C r k o y (L 4) (L 5) (L 9) (L 10) gh.1 gh.2.1 gh.2.2 Wq ∧ (L 0 = true → sg 46 = .slice C o.length r) ∧ (L 1 = true → sg 47 = .string y) ∧ (L 2 = true → sg 48 = .int .i64 (k : Int)) ∧ (L 3 = true → sg 49 = .string (y.extract 0 k)) ∧ (L 4 = true → sg 50 = .slice (some ⟨gh.1, 0, none⟩) 1 1) ∧ (L 5 = true → sg 51 = .slice gh.2.1 (o.length + 1) gh.2.2) ∧ (L 6 = true → sg 52 = .string y) ∧ (L 7 = true → sg 53 = .int .i64 (k : Int)) ∧ (L 8 = true → sg 54 = .string (y.extract k y.size)) from ⟨pq, f0, f1, f2, f3, f4, f5, f6, f7, f8⟩)
      clear f8 f7 f6 f5 f4 f3 f2 f1 f0 pq hd
      try simp only
      gi_wp2
      obtain ⟨pq, f0, f1, f2, f3, f4, f5, f6, f7, f8⟩ := HF.out
      exact hK (gh, (upd sg 47 (.string y))) _ ⟨pq, f0, (fun _ => rfl), f2, f3, f4, f5, f6, f7, f8⟩
     ·rintro L ⟨gh, sg⟩ Wq hu hd hdn ⟨pq, f0, f1, f2, f3, f4, f5, f6, f7, f8⟩ K Q hK
      try dsimp only at pq f0 f1 f2 f3 f4 f5 f6 f7 f8 ⊢
      have HF := Lib.hid (show PcR w W gr D sz (some ⟨bb, oo, none⟩) C r k o y (L 4) (L 5) (L 9) (L 10) gh.1 gh.2.1 gh.2.2 Wq ∧ (L 0 = true → sg 46 = .slice C o.length r) ∧ (L 1 = true → sg 47 = .string y) ∧ (L 2 = true → sg 48 = .int .i64 (k : Int)) ∧ (L 3 = true → sg 49 = .string (y.extract 0 k)) ∧ (L 4 = true → sg 50 = .slice (some ⟨gh.1, 0, none⟩) 1 1) ∧ (L 5 = true → sg 51 = .slice gh.2.1 (o.length + 1) gh.2.2) ∧ (L 6 = true → sg 52 = .string y) ∧ (L 7 = true → sg 53 = .int .i64 (k : Int)) ∧ (L 8 = true → sg 54 = .string (y.extract k y.size)) from ⟨pq, f0, f1, f2, f3, f4, f5, f6, f7, f8⟩)
      clear f8 f7 f6 f5 f4 f3 f2 f1 f0 pq hd
      try simp only
      gi_wp2
      obtain ⟨pq, f0, f1, f2, f3, f4, f5, f6, f7, f8⟩ := HF.out
      exact hK (gh, (upd sg 48 (.int .i64 (k : Int)))) _ ⟨pq, f0, f1, (fun _ => rfl), f3, f4, f5, f6, f7, f8⟩
     ·rintro L ⟨gh, sg⟩ Wq hu hd hdn ⟨pq, f0, f1, f2, f3, f4, f5, f6, f7, f8⟩ K Q hK
      try dsimp only at pq f0 f1 f2 f3 f4 f5 f6 f7 f8 ⊢
      have e1 := f1 (hd.at_ 1 rfl)
      have e2 := f2 (hd.at_ 2 rfl)
      have HF := Lib.hid (show PcR w W gr D sz (some ⟨bb, oo, none⟩) C r k o y (L 4) (L 5) (L 9) (L 10) gh.1 gh.2.1 gh.2.2 Wq ∧ (L 0 = true → sg 46 = .slice C o.length r) ∧ (L 1 = true → sg 47 = .string y) ∧ (L 2 = true → sg 48 = .int .i64 (k : Int)) ∧ (L 3 = true → sg 49 = .string (y.extract 0 k)) ∧ (L 4 = true → sg 50 = .slice (some ⟨gh.1, 0, none⟩) 1 1) ∧ (L 5 = true → sg 51 = .slice gh.2.1 (o.length + 1) gh.2.2) ∧ (L 6 = true → sg 52 = .string y) ∧ (L 7 = true → sg 53 = .int .i64 (k : Int)) ∧ (L 8 = true → sg 54 = .string (y.extract k y.size)) from ⟨pq, f0, f1, f2, f3, f4, f5, f6, f7, f8⟩)
      clear f8 f7 f6 f5 f4 f3 f2 f1 f0 pq hd
      try simp only at e1 e2 ⊢
      gi_wp2
      obtain ⟨pq, f0, f1, f2, f3, f4, f5, f6, f7, f8⟩ := HF.out
      exact hK (gh, (upd (upd (upd sg 47 (.string y)) 48 (.int .i64 (k : Int))) 49 (.string (y.extract 0 k)))) _ ⟨pq, f0, (fun _ => rfl), (fun _ => rfl), (fun _ => rfl), f4, f5, f6, f7, f8⟩
     ·rintro L ⟨gh, sg⟩ Wq hu hd hdn ⟨pq, f0, f1, f2, f3, f4, f5, f6, f7, f8⟩ K Q hK
      try dsimp only at pq f0 f1 f2 f3 f4 f5 f6 f7 f8 ⊢
      have e3 := f3 (hd.at_ 3 rfl)
      have h5 : L 5 = false := by
       cases hc : L 5 with
       | false => rfl
       | true => exact hdn.no 5 4 hc rfl hu
      have HF := Lib.hid (show PcR w W gr D sz (some ⟨bb, oo, none⟩) C r k o y (L 4) (L 5) (L 9) (L 10) gh.1 gh.2.1 gh.2.2 Wq ∧ (L 0 = true → sg 46 = .slice C o.length r) ∧ (L 1 = true → sg 47 = .string y) ∧ (L 2 = true → sg 48 = .int .i64 (k : Int)) ∧ (L 3 = true → sg 49 = .string (y.extract 0 k)) ∧ (L 4 = true → sg 50 = .slice (some ⟨gh.1, 0, none⟩) 1 1) ∧ (L 5 = true → sg 51 = .slice gh.2.1 (o.length + 1) gh.2.2) ∧ (L 6 = true → sg 52 = .string y) ∧ (L 7 = true → sg 53 = .int .i64 (k : Int)) ∧ (L 8 = true → sg 54 = .string (y.extract k y.size)) from ⟨pq, f0, f1, f2, f3, f4, f5, f6, f7, f8⟩)
      clear f8 f7 f6 f5 f4 f3 f2 f1 f0 pq hd
      try simp only at e3 ⊢
      gi_wp2
      obtain ⟨pq, f0, f1, f2, f3, f4, f5, f6, f7, f8⟩ := HF.out
      exact hK ((Wq.heap.size, gh.2), (upd (upd sg 49 (.string (y.extract 0 k))) 50 (.slice (some ⟨Wq.heap.size, 0, none⟩) 1 1))) _ ⟨(pq.piece h5), f0, f1, f2, (fun _ => rfl), (fun _ => rfl), f5, f6, f7, f8⟩
     ·rintro L ⟨gh, sg⟩ Wq hu hd hdn ⟨pq, f0, f1, f2, f3, f4, f5, f6, f7, f8⟩ K Q hK
      try dsimp only at pq f0 f1 f2 f3 f4 f5 f6 f7 f8 ⊢
      have e0 := f0 (hd.at_ 0 rfl)
      have e4 := f4 (hd.at_ 4 rfl)
      have d4 := hd.at_ 4 rfl
      have h9 : L 9 = false := by
       cases hc : L 9 with
       | false => rfl
       | true => exact hdn.no 9 5 hc rfl hu
      have h10 : L 10 = false := by
       cases hc : L 10 with
       | false => rfl
       | true => exact hdn.no 10 5 hc rfl hu
      have HO := Lib.hid (pq.own0 hu)
      have HPC := Lib.hid (pq.pc d4 hu)
      have HLE := Lib.hid pq.le
      have HF := Lib.hid (show PcR w W gr D sz (some ⟨bb, oo, none⟩) C r k o y (L 4) (L 5) (L 9) (L 10) gh.1 gh.2.1 gh.2.2 Wq ∧ (L 0 = true → sg 46 = .slice C o.length r) ∧ (L 1 = true → sg 47 = .string y) ∧ (L 2 = true → sg 48 = .int .i64 (k : Int)) ∧ (L 3 = true → sg 49 = .string (y.extract 0 k)) ∧ (L 4 = true → sg 50 = .slice (some ⟨gh.1, 0, none⟩) 1 1) ∧ (L 5 = true → sg 51 = .slice gh.2.1 (o.length + 1) gh.2.2) ∧ (L 6 = true → sg 52 = .string y) ∧ (L 7 = true → sg 53 = .int .i64 (k : Int)) ∧ (L 8 = true → sg 54 = .string (y.extract k y.size)) from ⟨pq, f0, f1, f2, f3, f4, f5, f6, f7, f8⟩)
      clear f8 f7 f6 f5 f4 f3 f2 f1 f0 pq hd
      try simp only at e0 e4 ⊢
      gi_wp2_with (first | (gi_at_builtin; refine wpListIn_append_any rfl (.tmp 46) (.tmp 50) (by rfl) elem_str e0 HO.out e4 (one_str HPC.out.lt (HPC.out.cell 0)) (by simp [Value.oneCell']) (by have := HSL.out; unfold maxLen; omega) (by have := HSL.out; omega) HLE.out ?_) | fail)
      rintro A9 c9 W9 hown9 hgr9 hA9
      gi_wp2
      obtain ⟨pq, f0, f1, f2, f3, f4, f5, f6, f7, f8⟩ := HF.out
      exact hK ((gh.1, A9, c9), (upd (upd (upd sg 46 (.slice C o.length r)) 50 (.slice (some ⟨gh.1, 0, none⟩) 1 1)) 51 (.slice A9 (o.length + 1) c9))) _ ⟨(pq.app hu h9 h10 HGW.out.2 hgr (by have := HDW.out; omega) hown9 hgr9), (fun _ => rfl), f1, f2, f3, (fun _ => rfl), (fun _ => rfl), f6, f7, f8⟩
     ·rintro L ⟨gh, sg⟩ Wq hu hd hdn ⟨pq, f0, f1, f2, f3, f4, f5, f6, f7, f8⟩ K Q hK
      try dsimp only at pq f0 f1 f2 f3 f4 f5 f6 f7 f8 ⊢
      have h10 : L 10 = false := by
       cases hc : L 10 with
       | false => rfl
       | true => exact hdn.no 10 6 hc rfl hu
      have c0 := (pq.r0 h10).cell 0
      have cl := (pq.r0 h10).lt
      have HF := Lib.hid (show PcR w W gr D sz (some ⟨bb, oo, none⟩) C r k o y (L 4) (L 5) (L 9) (L 10) gh.1 gh.2.1 gh.2.2 Wq ∧ (L 0 = true → sg 46 = .slice C o.length r) ∧ (L 1 = true → sg 47 = .string y) ∧ (L 2 = true → sg 48 = .int .i64 (k : Int)) ∧ (L 3 = true → sg 49 = .string (y.extract 0 k)) ∧ (L 4 = true → sg 50 = .slice (some ⟨gh.1, 0, none⟩) 1 1) ∧ (L 5 = true → sg 51 = .slice gh.2.1 (o.length + 1) gh.2.2) ∧ (L 6 = true → sg 52 = .string y) ∧ (L 7 = true → sg 53 = .int .i64 (k : Int)) ∧ (L 8 = true → sg 54 = .string (y.extract k y.size)) from ⟨pq, f0, f1, f2, f3, f4, f5, f6, f7, f8⟩)
      clear f8 f7 f6 f5 f4 f3 f2 f1 f0 pq hd
      try simp only
      gi_wp2
      obtain ⟨pq, f0, f1, f2, f3, f4, f5, f6, f7, f8⟩ := HF.out
      exact hK (gh, (upd sg 52 (.string y))) _ ⟨pq, f0, f1, f2, f3, f4, f5, (fun _ => rfl), f7, f8⟩
     ·rintro L ⟨gh, sg⟩ Wq hu hd hdn ⟨pq, f0, f1, f2, f3, f4, f5, f6, f7, f8⟩ K Q hK
      try dsimp only at pq f0 f1 f2 f3 f4 f5 f6 f7 f8 ⊢
      have HF := Lib.hid (show PcR w W gr D sz (some ⟨bb, oo, none⟩) C r k o y (L 4) (L 5) (L 9) (L 10) gh.1 gh.2.1 gh.2.2 Wq ∧ (L 0 = true → sg 46 = .slice C o.length r) ∧ (L 1 = true → sg 47 = .string y) ∧ (L 2 = true → sg 48 = .int .i64 (k : Int)) ∧ (L 3 = true → sg 49 = .string (y.extract 0 k)) ∧ (L 4 = true → sg 50 = .slice (some ⟨gh.1, 0, none⟩) 1 1) ∧ (L 5 = true → sg 51 = .slice gh.2.1 (o.length + 1) gh.2.2) ∧ (L 6 = true → sg 52 = .string y) ∧ (L 7 = true → sg 53 = .int .i64 (k : Int)) ∧ (L 8 = true → sg 54 = .string (y.extract k y.size)) from ⟨pq, f0, f1, f2, f3, f4, f5, f6, f7, f8⟩)
      clear f8 f7 f6 f5 f4 f3 f2 f1 f0 pq hd
      try simp only
      gi_wp2
      obtain ⟨pq, f0, f1, f2, f3, f4, f5, f6, f7, f8⟩ := HF.out
      exact hK (gh, (upd sg 53 (.int .i64 (k : Int)))) _ ⟨pq, f0, f1, f2, f3, f4, f5, f6, (fun _ => rfl), f8⟩
     ·rintro L ⟨gh, sg⟩ Wq hu hd hdn ⟨pq, f0, f1, f2, f3, f4, f5, f6, f7, f8⟩ K Q hK
      try dsimp only at pq f0 f1 f2 f3 f4 f5 f6 f7 f8 ⊢
      have e6 := f6 (hd.at_ 6 rfl)
      have e7 := f7 (hd.at_ 7 rfl)
      have HF := Lib.hid (show PcR w W gr D sz (some ⟨bb, oo, none⟩) C r k o y (L 4) (L 5) (L 9) (L 10) gh.1 gh.2.1 gh.2.2 Wq ∧ (L 0 = true → sg 46 = .slice C o.length r) ∧ (L 1 = true → sg 47 = .string y) ∧ (L 2 = true → sg 48 = .int .i64 (k : Int)) ∧ (L 3 = true → sg 49 = .string (y.extract 0 k)) ∧ (L 4 = true → sg 50 = .slice (some ⟨gh.1, 0, none⟩) 1 1) ∧ (L 5 = true → sg 51 = .slice gh.2.1 (o.length + 1) gh.2.2) ∧ (L 6 = true → sg 52 = .string y) ∧ (L 7 = true → sg 53 = .int .i64 (k : Int)) ∧ (L 8 = true → sg 54 = .string (y.extract k y.size)) from ⟨pq, f0, f1, f2, f3, f4, f5, f6, f7, f8⟩)
      clear f8 f7 f6 f5 f4 f3 f2 f1 f0 pq hd
      try simp only at e6 e7 ⊢
      gi_wp2
      obtain ⟨pq, f0, f1, f2, f3, f4, f5, f6, f7, f8⟩ := HF.out
      exact hK (gh, (upd (upd (upd sg 52 (.string y)) 53 (.int .i64 (k : Int))) 54 (.string (y.extract k y.size)))) _ ⟨pq, f0, f1, f2, f3, f4, f5, (fun _ => rfl), (fun _ => rfl), (fun _ => rfl)⟩
     ·rintro L ⟨gh, sg⟩ Wq hu hd hdn ⟨pq, f0, f1, f2, f3, f4, f5, f6, f7, f8⟩ K Q hK
      try dsimp only at pq f0 f1 f2 f3 f4 f5 f6 f7 f8 ⊢
      have e5 := f5 (hd.at_ 5 rfl)
      have d5 := hd.at_ 5 rfl
      have c0 := (pq.l0 hu).cell 0
      have c1 := (pq.l0 hu).frozen 0
      have cl := (pq.l0 hu).lt
      have HF := Lib.hid (show PcR w W gr D sz (some ⟨bb, oo, none⟩) C r k o y (L 4) (L 5) (L 9) (L 10) gh.1 gh.2.1 gh.2.2 Wq ∧ (L 0 = true → sg 46 = .slice C o.length r) ∧ (L 1 = true → sg 47 = .string y) ∧ (L 2 = true → sg 48 = .int .i64 (k : Int)) ∧ (L 3 = true → sg 49 = .string (y.extract 0 k)) ∧ (L 4 = true → sg 50 = .slice (some ⟨gh.1, 0, none⟩) 1 1) ∧ (L 5 = true → sg 51 = .slice gh.2.1 (o.length + 1) gh.2.2) ∧ (L 6 = true → sg 52 = .string y) ∧ (L 7 = true → sg 53 = .int .i64 (k : Int)) ∧ (L 8 = true → sg 54 = .string (y.extract k y.size)) from ⟨pq, f0, f1, f2, f3, f4, f5, f6, f7, f8⟩)
      clear f8 f7 f6 f5 f4 f3 f2 f1 f0 pq hd
      try simp only at e5 ⊢
      gi_wp2
      obtain ⟨pq, f0, f1, f2, f3, f4, f5, f6, f7, f8⟩ := HF.out
      exact hK (gh, (upd sg 51 (.slice gh.2.1 (o.length + 1) gh.2.2))) _ ⟨(pq.box d5 hu HGW.out.2 hgr HBL.out), f0, f1, f2, f3, f4, (fun _ => rfl), f6, f7, f8⟩
     ·rintro L ⟨gh, sg⟩ Wq hu hd hdn ⟨pq, f0, f1, f2, f3, f4, f5, f6, f7, f8⟩ K Q hK
      try dsimp only at pq f0 f1 f2 f3 f4 f5 f6 f7 f8 ⊢
      have e8 := f8 (hd.at_ 8 rfl)
      have d5 := hd.at_ 5 rfl
      have c0 := (pq.r0 hu).cell 0
      have c1 := (pq.r0 hu).frozen 0
      have cl := (pq.r0 hu).lt
      have HF := Lib.hid (show PcR w W gr D sz (some ⟨bb, oo, none⟩) C r k o y (L 4) (L 5) (L 9) (L 10) gh.1 gh.2.1 gh.2.2 Wq ∧ (L 0 = true → sg 46 = .slice C o.length r) ∧ (L 1 = true → sg 47 = .string y) ∧ (L 2 = true → sg 48 = .int .i64 (k : Int)) ∧ (L 3 = true → sg 49 = .string (y.extract 0 k)) ∧ (L 4 = true → sg 50 = .slice (some ⟨gh.1, 0, none⟩) 1 1) ∧ (L 5 = true → sg 51 = .slice gh.2.1 (o.length + 1) gh.2.2) ∧ (L 6 = true → sg 52 = .string y) ∧ (L 7 = true → sg 53 = .int .i64 (k : Int)) ∧ (L 8 = true → sg 54 = .string (y.extract k y.size)) from ⟨pq, f0, f1, f2, f3, f4, f5, f6, f7, f8⟩)
      clear f8 f7 f6 f5 f4 f3 f2 f1 f0 pq hd
      try simp only at e8 ⊢
      gi_wp2
      obtain ⟨pq, f0, f1, f2, f3, f4, f5, f6, f7, f8⟩ := HF.out
      exact hK (gh, (upd sg 54 (.string (y.extract k y.size)))) _ ⟨(pq.rest d5 hu HGW.out.2 hgr HBL.out), f0, f1, f2, f3, f4, f5, f6, f7, (fun _ => rfl)⟩
    ·rintro L ⟨gh, sg⟩ Wq hall ⟨pq, f0, f1, f2, f3, f4, f5, f6, f7, f8⟩
     rw [hall 4 (by decide), hall 5 (by decide), hall 9 (by decide), hall 10 (by decide), ← HY.out] at pq
     have HN := Lib.hid (pq.done hfit)
     have HIN := Lib.hid (show ((o ++ [s.extract at_ (at_ + k)]).length : Int) = (o.length : Int) + 1 from by rw [List.length_append]; simp)
     clear f0 f1 f2 f3 f4 f5 f6 f7 f8 pq
     try simp only
     gi_wp2
     have hwr : wrap64 ((o.length : Int) + 1) = ((o ++ [s.extract at_ (at_ + k)]).length : Int) := by
      rw [HIN.out]
      have := HSL.out
      unfold wrap64
      omega
     rw [hwr]
     refine ⟨⟨at_ + k, _, _, o ++ [s.extract at_ (at_ + k)], Lib.hid ⟨HP2.out, HN.out⟩, by constructor⟩, ?_⟩
     have h1 := HIN.out
     simp only [intOf]
     omega
   ·have hfd : decide ((k : Int) ≤ ((s.extract at_ s.size).size : Int)) = false := by rw [ByteArray.size_extract]; simp; omega
    have hfd2 : decide ((k : Int) ≤ ((s.size - at_ : Nat) : Int)) = false := by simp; omega
    have HNO := Lib.hid (HS.out.1.short HR.out HZ.out (by have := len_bytes s; omega))
    have HMK := Lib.hid (show Marks w.heap.size W2 [{ target := .collected D, args := #[] }] from ⟨⟨D, by omega, rfl, HS.out.2.mark, by simp⟩, trivial⟩)
    gi_wp2
    refine ⟨there_of Try.func32, fun _ => by omega, ?_⟩
    rw [show decide (k ≤ s.size - at_) = false from by simp; omega]
    refine (must_noF _ 111 W2).mono ?_
    rintro e W9 ⟨rfl, hw⟩
    obtain rfl := hw.symm
    refine leaves_marksU (by simp) _ _ HMK.out fun w' hsh => ?_
    exact ⟨.inr ⟨rfl, HNO.out⟩, grown_belowB HBW.out hsh.below (Nat.le_refl _)⟩
  ·have ho : o.length = sz.length := by have := HS.out.1.le; omega
   have HBW := Lib.hid HS.out.2.gr
   have HMK := Lib.hid (show Marks w.heap.size W2 [{ target := .collected D, args := #[] }] from ⟨⟨D, by omega, rfl, HS.out.2.mark, by simp⟩, trivial⟩)
   have r0 := HS.out.2.rest.cell 0
   have rl := HS.out.2.rest.lt
   by_cases he : at_ = s.size
   ·have HP := Lib.hid (HS.out.1.done HR.out hm20 ho (by have := len_bytes s; omega))
    have hee : ((s.extract at_ s.size).toList == []) = true := by rw [he]; simp [ByteArray.toList_eq]
    have HO := Lib.hid HS.out.2
    clear ho
    gi_wp2
    refine ⟨there_of Try.func32, fun _ => by omega, (must_okF _ 111 W2).mono ?_⟩
    rintro e W9 ⟨rfl, hw⟩
    obtain rfl := hw.symm
    gi_wp2
    refine leaves_marksD _ _ HMK.out ?_
    intro w' hsh
    refine ⟨.tuple #[], by simp [results, Try.results31, go_sem], .inl ⟨rfl, C, r, o, hsh.blk HO.out.l, ?_, HP.out⟩, grown_belowB HBW.out hsh.below (Nat.le_refl _)⟩
    exact hsh.own (HO.out.own.mono HM.out.le)
   ·have HNO := Lib.hid (HS.out.1.left HR.out ho (by have := len_bytes s; omega))
    clear ho
    gi_wp2
    refine ⟨there_of Try.func32, fun _ => by omega, ?_⟩
    rw [rest_ne (by omega)]
    refine (must_noF _ 111 W2).mono ?_
    rintro e W9 ⟨rfl, hw⟩
    obtain rfl := hw.symm
    refine leaves_marksU (by simp) _ _ HMK.out fun w' hsh => ?_
    exact ⟨.inr ⟨rfl, HNO.out⟩, grown_belowB HBW.out hsh.below (Nat.le_refl _)⟩
 case done =>
  rintro D v xs W hD hS hI hK
  have hmk : Marks w.heap.size W [{ target := .collected D, args := #[] }] := ⟨⟨D, by omega, rfl, hK, by simp⟩, trivial⟩
  obtain ⟨many, sz, rest, h1, h2⟩ := hI
  rcases hS with ⟨h, h3⟩ | ⟨h, _⟩
  ·cases h
   have HNO := Lib.hid (st_fails h2 h3 (.inl rfl))
   have HM := Lib.hid h1
   have HNE := Lib.hid (show ((sz.length : Int) == many) = false from by
    rcases h2 with ⟨_, e1, e2, _⟩ | ⟨m, p, e1, _, hlt, _⟩
    ·subst e1 e2; rfl
    ·subst e1; simp; omega)
   obtain ⟨B, q, h4, h5⟩ := h1.ex
   have HMK := Lib.hid hmk
   have x0 := h4.cell 0
   have xl := h4.lt
   have y0 := h1.many.cell 0
   have yl := h1.many.lt
   have hnq := HNE.out
   clear h1 h2 h3 h4 h5 hK hmk
   gi_wp2
   refine ⟨there_of Try.func32, fun _ => by omega, (must_noF _ 111 W).mono ?_⟩
   rintro e W9 ⟨rfl, hw⟩
   obtain rfl := hw.symm
   refine leaves_marksU (by simp) _ _ HMK.out fun w' hsh => ?_
   exact ⟨.inr ⟨rfl, HNO.out⟩, grown_of_below (HM.out.bel.trans hsh.below) _⟩
  ·cases h
end Go.Proofs.Ytehgijdjnddfcaa
/- book.Unpack. -/
namespace Go.Proofs.Ytehgijdjnddfcaa
open Go.RowKit

def UnpOk (s : ByteArray) (b gr : Nat) (V : World) : Prop := ∃ B q o, Blk V gr 43 #[.slice B (List.length o) q] ∧ Own V b 9 1 B o.length q (o.map Value.string) ∧ Packed s o
def UnpNo (s : ByteArray) (x : Int) (V : World) : Prop := x = 111 ∧ ∀ o, ¬ Packed s o
theorem UnpOk.keep {s : ByteArray} {b gr k : Nat} {A B : World} (h : UnpOk s b gr A) (hg : A.grownBy B (some k)) (h1 : gr ≠ k) (h2 : k < b) : UnpOk s b gr B := by
 obtain ⟨C, q, o, h3, h4, h5⟩ := h
 refine ⟨C, q, o, h3.grown hg (fun e => h1 (Option.some.inj e)), h4.grown hg (fun a ha e => ?_), h5⟩
 have := (h4.lt ha).1
 have e2 : a.block = k := Option.some.inj e
 omega
set_option maxRecDepth 100000 in
theorem unpack_in (s : ByteArray) (w : World) : CallsIn Fence.wide 9 Try.prog 18 #[.string s] w (UnpOut s w) := by
 have hmf : ∀ (fn : Fn) (first cap : Array Value) (w : World), (Instr.makeFunc fn first cap).run Try.prog w = .ok (.func fn first cap) w := fun _ _ _ _ => rfl
 have hEn : ∀ args W, (callFunc 31 args).run Try.prog W = .ok (.enter 31 args) W := fun args W => by simp [go_sem]
 by_cases h960 : 960 < s.size
 ·have hd : decide ((960 : Int) < (s.size : Int)) = true := by simp; omega
  refine callsIn_of_wp Try.func18 rfl trivial ?_ rfl
  simp only [Try.ntmps18, List.size_toArray, List.length_cons, List.length_nil, Nat.reduceAdd, Nat.reduceSub, Array.replicate_succ, Array.replicate_zero, List.push_toArray, List.append_toArray, List.nil_append, List.cons_append]
  gi_wp2
  exact bodyPost_ret (v := .tuple #[.slice none 0 0, .int .i64 113]) (by simp [results, Try.results18, go_sem]) rfl ⟨none, 0, [], 113, rfl, .inl ⟨h960, rfl, rfl⟩, Reads.none_, (Below.refl _ _).alloc (Nat.le_refl _) _⟩
 ·have hd : decide ((960 : Int) < (s.size : Int)) = false := by simp; omega
  have HS := Lib.hid h960
  have HX := Lib.hid (Lay.two w 9 #[.string s] 43 #[.slice none 0 0])
  refine callsIn_of_wp Try.func18 rfl trivial ?_ rfl
  simp only [Try.ntmps18, List.size_toArray, List.length_cons, List.length_nil, Nat.reduceAdd, Nat.reduceSub, Array.replicate_succ, Array.replicate_zero, List.push_toArray, List.append_toArray, List.nil_append, List.cons_append]
  gi_upto_region 4 with fail
  have HZ := Lib.hid (show ((w.alloc (.cells #[.string s] 9)).alloc (.cells #[.slice none 0 0] 43)).heap.size = w.heap.size + 2 from by simp)
  generalize (w.alloc (.cells #[.string s] 9)).alloc (.cells #[.slice none 0 0] 43) = W at *
  gi_wp2
  refine ⟨trivial, (tried_in 7 31 _ (some (w.heap.size + 1)) W (fun k e => by cases e; have := HZ.out; omega) (UnpOk s (W.heap.size + 1 + 4) (w.heap.size + 1)) (UnpNo s) hEn ?hdo
   (fun A B h k => h.keep k (by have := HZ.out; omega) (by omega)) (fun x A B h k => h)).mono ?_⟩
  case hdo =>
   refine (callsIn_there (unp1_in 7 (by omega) s (by have := HS.out; omega) w.heap.size (w.heap.size + 1) (W.alloc (.cells #[.int .i64 0] 24)) ((HX.out.blk 0 rfl).alloc _) ((HX.out.blk 1 rfl).alloc _) (by omega))).mono ?_
   rintro e V ⟨⟨rfl, B, q, l, h1, h2, h3⟩ | ⟨rfl, h1⟩, h4⟩
   ·exact ⟨.inl ⟨rfl, B, q, l, h1, by simpa using h2, h3⟩, h4⟩
   ·exact ⟨.inr ⟨111, rfl, rfl, h1⟩, h4⟩
  rintro e V ⟨⟨rfl, B, q, l, h1, h2, h3⟩ | ⟨x, rfl, rfl, h1⟩, h4⟩
  ·have c0 := h1.cell 0
   have cl := h1.lt
   have HO := Lib.hid (show StrsAt V V.heap.size B l.length l from h2.reads (Nat.le_refl _))
   have HN := Lib.hid h3
   have HB := Lib.hid (HX.out.1.trans (below_of_grown (B := w.heap.size) h4 (fun k e => by cases e; omega) (by have := HZ.out; omega)))
   clear h1 h2 h3 h4
   gi_wp2
   exact bodyPost_ret (v := .tuple #[.slice B l.length q, .int .i64 0]) (by simp [results, Try.results18, go_sem]) rfl ⟨B, q, l, 0, rfl, .inr ⟨HS.out, .inl ⟨rfl, HN.out⟩⟩, HO.out, HB.out⟩
  ·have HB := Lib.hid (HX.out.1.trans (below_of_grown (B := w.heap.size) h4 (fun k e => by cases e; omega) (by have := HZ.out; omega)))
   have HN := Lib.hid h1
   clear h1 h4
   gi_wp2
   exact bodyPost_ret (v := .tuple #[.slice none 0 0, .int .i64 111]) (by simp [results, Try.results18, go_sem]) rfl ⟨none, 0, [], 111, rfl, .inr ⟨HS.out, .inr ⟨rfl, rfl, HN.out⟩⟩, Reads.none_, HB.out⟩
end Go.Proofs.Ytehgijdjnddfcaa
/- slices.IndexFunc and slices.ContainsFunc at ints. -/
namespace Go.Proofs.Ytehgijdjnddfcaa
open Go.RowKit

set_option maxHeartbeats 1000000 in
theorem indexFunc_int (F : FuncId) (C : Array Value) (p : Int → Bool) (A : Option Addr) (n c : Nat) (l : List Int) (w : World) (hr : IntsAt w w.heap.size A n l) (hn : n ≤ maxLen)
  (hE : ∀ args W, (callFunc F args).run Try.prog W = .ok (.enter F args) W)
  (hF : ∀ x ∈ l, ∀ W, Below w.heap.size w W → Calls Try.prog F (#[.int .i64 x] ++ C) W fun e w' => e = .returned (.bool (p x)) ∧ Below W.heap.size W w') :
  Calls Try.prog 41 #[.slice A n c, .func (.func F) #[] C] w fun e w' => e = .returned (.int .i64 (idx p l)) ∧ Below w.heap.size w w' := by
 unfold maxLen at hn
 have HF := Lib.hid hF
 clear hF
 go_enter Try.func41, Try.ntmps41
 go_wp2_with fail
 go_loopw [8, 5] (fun i j wr => ∃ k : Nat, k ≤ n ∧ i = .int .i64 k ∧ (∀ y ∈ l.take k, p y = false) ∧ Below w.heap.size w wr)
  (fun i _ _ => n - (intOf i).toNat)
 case atStart => exact ⟨0, by omega, rfl, by simp, Below.refl _ _⟩
 case round =>
  obtain ⟨k, hk, rfl, hno, hb⟩ := hrel
  have HN := Lib.hid hno
  clear hno
  by_cases hlt : k < n
  ·obtain ⟨b, off, x, rfl, hbB, hx, hc⟩ := (hr.below hb).cell hlt
   have HX := Lib.hid hx
   clear hx
   go_wp2_with fail
   refine (HF.out x (mem_of_at HX.out) _ hb).mono ?_
   rintro e w' ⟨rfl, hb'⟩
   cases hp : p x with
   | true =>
    have HP := Lib.hid hp
    clear hp
    go_wp2_with fail
    go_ret
    exact ⟨ret_int (idx_some HX.out HP.out HN.out).symm, hb.trans (hb'.mono hb.size)⟩
   | false =>
    have HP := Lib.hid hp
    clear hp
    go_wp2_with fail
    go_roundw
    case rel => exact ⟨k + 1, by omega, by go_num, take_snoc_all HX.out HP.out HN.out, hb.trans (hb'.mono hb.size)⟩
    case measure => simp [intOf]; omega
  ·go_wp2_with fail
   go_ret
   exact ⟨ret_int (idx_none (by
    have := HN.out
    rwa [List.take_of_length_le (by have := hr.len; omega)] at this)).symm, hb⟩

set_option maxHeartbeats 1000000 in
theorem containsFunc_int (F : FuncId) (C : Array Value) (p : Int → Bool) (A : Option Addr) (n c : Nat) (l : List Int) (w : World) (hr : IntsAt w w.heap.size A n l) (hn : n ≤ maxLen)
  (hE : ∀ args W, (callFunc F args).run Try.prog W = .ok (.enter F args) W)
  (hF : ∀ x ∈ l, ∀ W, Below w.heap.size w W → Calls Try.prog F (#[.int .i64 x] ++ C) W fun e w' => e = .returned (.bool (p x)) ∧ Below W.heap.size W w') :
  Calls Try.prog 34 #[.slice A n c, .func (.func F) #[] C] w fun e w' => e = .returned (.bool (l.any p)) ∧ Below w.heap.size w w' := by
 have H := Lib.hid (indexFunc_int F C p A n c l w hr hn hE hF)
 clear hE hF
 go_enter Try.func34, Try.ntmps34
 go_wp2_with fail
 refine H.out.mono ?_
 rintro e w' ⟨rfl, hb⟩
 go_wp2_with fail
 go_ret
 exact ⟨ret_bool idx_ge, hb⟩
end Go.Proofs.Ytehgijdjnddfcaa
/- The walks of book.in. -/
namespace Go.Proofs.Ytehgijdjnddfcaa
open Go.RowKit

theorem out1_any (x lo hi : Int) (b1 b2 : Nat) (w : World) (h1 : w.cell? ⟨b1, 0, none⟩ = some (.int .i64 lo)) (h2 : w.cell? ⟨b2, 0, none⟩ = some (.int .i64 hi)) :
  Calls Try.prog 35 (#[.int .i64 x] ++ #[.pointer (some ⟨b1, 0, none⟩), .pointer (some ⟨b2, 0, none⟩)]) w fun e w' => e = .returned (.bool (decide (x < lo) || decide (hi < x))) ∧ Below w.heap.size w w' := by
 by_cases h : x < lo
 all_goals
  go_enter Try.func35, Try.ntmps35
  go_wp2
  go_ret
  refine ⟨ret_bool ?_, Below.refl _ _⟩
  by_cases q : x < lo <;> simp [q] <;> omega

theorem enters_in1 (args : Array Value) (W : World) : (callFunc 35 args).run Try.prog W = .ok (.enter 35 args) W := by
 simp [go_sem]

/-- Whether all numbers are from lo to hi. -/
def inB (lo hi : Int) (l : List Int) : Bool := !l.any fun n => decide (n < lo) || decide (hi < n)

theorem in_any (lo hi : Int) (A : Option Addr) (n c : Nat) (l : List Int) (w : World) (hr : IntsAt w w.heap.size A n l) (hn : n ≤ maxLen) :
  Calls Try.prog 23 #[.int .i64 lo, .int .i64 hi, .slice A n c] w fun e w' => e = .returned (.bool (inB lo hi l)) ∧ Below w.heap.size w w' := by
 have hmf : ∀ (fn : Fn) (first cap : Array Value) (w : World), (Instr.makeFunc fn first cap).run Try.prog w = .ok (.func fn first cap) w := fun _ _ _ _ => rfl
 go_enter Try.func23, Try.ntmps23
 go_wp2_with fail
 have hb : Below w.heap.size w ((w.alloc (.cells #[.int .i64 lo] 3)).alloc (.cells #[.int .i64 hi] 3)) := ((Below.refl _ _).alloc (Nat.le_refl _) _).alloc (by simp) _
 refine (containsFunc_int 35 _ (fun n => decide (n < lo) || decide (hi < n)) A n c l _ ((hr.below hb).more (by simp; omega)) hn enters_in1 ?_).mono ?_
 ·intro x _ W hW
  exact out1_any x lo hi _ _ W ((hW.cell (p := ⟨w.heap.size, 0, none⟩) (by simp; omega)).trans (by simp [go_sem])) ((hW.cell (p := ⟨w.heap.size + 1, 0, none⟩) (by simp)).trans (by simp [go_sem]))
 ·rintro e w' ⟨rfl, hb'⟩
  go_wp2_with fail
  go_ret
  exact ⟨rfl, hb.trans (hb'.mono (by simp; omega))⟩
end Go.Proofs.Ytehgijdjnddfcaa
/- book.Number. -/
namespace Go.Proofs.Ytehgijdjnddfcaa
open Go.RowKit

theorem info_u8 : (Try.prog.info? 5).map (fun i => (i.zero, i.size, i.bytes)) = some (some (.int .u8 0), 1, 1) := by kernel_rfl
theorem elem_row : ElemAt Try.prog 57 5 (.int .u8 0) 1 1 := by
 obtain ⟨i0, hi, hz0, hz1, hz2⟩ := info_parts info_u8
 exact ⟨i0, Try.underlying57, hi, hz0, hz1, hz2, rfl, by decide⟩
def bytesV (l : List UInt8) : List Value := l.map fun b => .int .u8 (b.toNat : Int)
theorem or128 (x : Nat) (hx : x < 128) : Go.bits BinOp.or IntKind.u8 (x : Int) 128 = (((UInt8.ofNat (128 + x)).toNat : Nat) : Int) := by
 have h : ∀ x ∈ List.range 128, Go.bits BinOp.or IntKind.u8 (x : Int) 128 = (((UInt8.ofNat (128 + x)).toNat : Nat) : Int) := by decide +kernel
 exact h x (List.mem_range.2 hx)
theorem one_u8 {W : World} {g : Nat} {x : Int} {B : Nat} (hB : g < B) (h : W.cell? ⟨g, 0, none⟩ = some (.int .u8 x)) : Reads W B 1 (some ⟨g, 0, none⟩) 1 [.int .u8 x] :=
 ⟨rfl, fun _ => ⟨_, rfl, hB, fun j u hu => by
  match j, hu with
  | 0, hu => simp at hu; rw [← hu]; simpa [Addr.add] using h⟩⟩
end Go.Proofs.Ytehgijdjnddfcaa
/- book.row.add at a row that holds bytes already. -/
namespace Go.Proofs.Ytehgijdjnddfcaa
open Go.RowKit

/-- Some of a number's bytes are in the row, behind what was there. -/
structure RowI (w : World) (base gr : Nat) (p0 : List UInt8) (n m : Nat) (W : World) : Prop where
 ex : ∃ B q pre, pre ++ encN m = p0 ++ encN n ∧ Blk W gr 57 #[.slice B (List.length pre) q] ∧ Own W base 5 1 B pre.length q (bytesV pre) ∧ ∀ a, B = some a → a.block ≠ gr
 bel : Below base w W
 le : w.heap.size ≤ W.heap.size
structure RowO (w : World) (base gr : Nat) (p0 : List UInt8) (n : Nat) (W : World) : Prop where
 ex : ∃ B q, Blk W gr 57 #[.slice B (p0 ++ encN n).length q] ∧ Own W base 5 1 B (p0 ++ encN n).length q (bytesV (p0 ++ encN n)) ∧ ∀ a, B = some a → a.block ≠ gr
 bel : Below base w W
 le : w.heap.size ≤ W.heap.size
section
variable {w W8 : World} {base gr n m c8 : Nat} {A8 : Option Addr} {pre p0 : List UInt8}
theorem own_far {W : World} {e : TypeId} {size k cap : Nat} {A : Option Addr} {xs : List Value} (h : Own W base e size A k cap xs) (hne : ∀ a, A = some a → a.block ≠ gr) (v : Value) : Own (W.setCell ⟨gr, 0, none⟩ v) base e size A k cap xs :=
 h.grown (grown_setCell (grown_refl W (some gr)) (p := ⟨gr, 0, none⟩) (.inl rfl) v) (fun a ha e => hne a ha (Option.some.inj e))
theorem row_more (hm : 128 ≤ m) (he : pre ++ encN m = p0 ++ encN n) {B : Option Addr} {q : Nat} (hB : Blk W8 gr 57 #[.slice B pre.length q])
  (hO : Own W8 base 5 1 A8 (pre.length + 1) c8 (bytesV pre ++ [.int .u8 (Go.bits BinOp.or IntKind.u8 ((m : Int) % 128) 128)])) (hG : Below base w W8) (hN : (∀ a, A8 = some a → a.block ≠ gr) ∧ w.heap.size ≤ W8.heap.size) (hbg : base ≤ gr) : RowI w base gr p0 n (m / 128) (W8.setCell ⟨gr, 0, none⟩ (.slice A8 (pre.length + 1) c8)) := by
 refine ⟨⟨A8, c8, pre ++ [UInt8.ofNat (128 + m % 128)], ?_, ?_, ?_, hN.1⟩, hG.setCell (p := ⟨gr, 0, none⟩) hbg _, by simpa [World.setCell] using hN.2⟩
 ·rw [← he, encN_more (show ¬ m < 128 by omega), List.append_assoc]
  rfl
 ·rw [List.length_append]
  exact hB.set_ 0 (.slice A8 (pre.length + 1) c8)
 ·rw [List.length_append]
  have e : (m : Int) % 128 = ((m % 128 : Nat) : Int) := by omega
  rw [e, or128 _ (by omega)] at hO
  unfold bytesV at *
  rw [List.map_append]
  exact own_far hO hN.1 _
theorem row_last (hm : m < 128) (he : pre ++ encN m = p0 ++ encN n) {B : Option Addr} {q : Nat} (hB : Blk W8 gr 57 #[.slice B pre.length q])
  (hO : Own W8 base 5 1 A8 (pre.length + 1) c8 (bytesV pre ++ [.int .u8 (m : Int)])) (hG : Below base w W8) (hN : (∀ a, A8 = some a → a.block ≠ gr) ∧ w.heap.size ≤ W8.heap.size) (hbg : base ≤ gr) : RowO w base gr p0 n (W8.setCell ⟨gr, 0, none⟩ (.slice A8 (pre.length + 1) c8)) := by
 rw [encN_small hm] at he
 refine ⟨⟨A8, c8, ?_, ?_, hN.1⟩, hG.setCell (p := ⟨gr, 0, none⟩) hbg _, by simpa [World.setCell] using hN.2⟩
 ·rw [← he, List.length_append]
  exact hB.set_ 0 (.slice A8 (pre.length + 1) c8)
 ·rw [← he, List.length_append]
  have e : (((UInt8.ofNat m).toNat : Nat) : Int) = (m : Int) := by
   rw [UInt8.toNat_ofNat']
   omega
  unfold bytesV at *
  rw [List.map_append, List.map_cons, List.map_nil, e]
  exact own_far hO hN.1 _
end
set_option maxRecDepth 100000 in
set_option maxHeartbeats 4000000 in
theorem add_gen (n : Nat) (hn : n ≤ 999999999) (p0 : List UInt8) (hp0 : p0.length ≤ 1000000) (base gr ga c : Nat) (B0 : Option Addr) (q0 : Nat) (w : World) (hr : Blk w gr 57 #[.slice B0 p0.length q0]) (ho : Own w base 5 1 B0 p0.length q0 (bytesV p0)) (hne : ∀ a, B0 = some a → a.block ≠ gr) (hbg : base ≤ gr) (ha : w.cell? ⟨ga, 0, none⟩ = some (.int .i64 (n : Int))) (hg : ga < w.heap.size) :
  Calls Try.prog 24 #[.pointer (some ⟨gr, 0, none⟩), .slice (some ⟨ga, 0, none⟩) 1 c] w fun e w' => e = .returned (.tuple #[]) ∧ RowO w base gr p0 n w' := by
 have HR := Lib.hid hr
 have HO0 := Lib.hid ho
 have HNE := Lib.hid hne
 have hrl := hr.lt
 clear hr ho hne
 go_enter Try.func24, Try.ntmps24
 go_wp2_with fail
 go_loopw [8] (fun v8 wr => (v8 = .int .i64 0 ∧ Hid (wr = w)) ∨ (v8 = .int .i64 1 ∧ Hid (RowO w base gr p0 n wr)))
  (fun v8 _ => 1 - (intOf v8).toNat)
 case atStart => exact .inl ⟨rfl, Lib.hid rfl⟩
 case round =>
  rcases hrel with ⟨rfl, hw⟩ | ⟨rfl, hO⟩
  ·obtain rfl := hw.out.symm
   clear hw
   go_wp2_with fail
   go_loopw [5] (fun v5 wq => ∃ m : Nat, v5 = .int .i64 (m : Int) ∧ Hid (m ≤ n ∧ RowI w base gr p0 n m wq)) (fun v5 _ => (intOf v5).toNat)
   case atStart => exact ⟨n, rfl, Lib.hid ⟨Nat.le_refl _, ⟨B0, q0, p0, rfl, HR.out, HO0.out, HNE.out⟩, Below.refl _ _, Nat.le_refl _⟩⟩
   case round =>
    obtain ⟨m, rfl, HI⟩ := hrel
    obtain ⟨B, q, pre, hpe, h1, h2, h3⟩ := HI.out.2.ex
    have H3 := Lib.hid h3
    have HPE := Lib.hid hpe
    have H1 := Lib.hid h1
    have H2 := Lib.hid h2
    have c0 := h1.cell 0
    have z0 := h1.frozen 0
    have l0 := h1.lt
    clear hpe h1 h2 h3
    have hmn := HI.out.1
    by_cases hm : 128 ≤ m
    ·have hmd : decide ((128 : Int) ≤ (m : Int)) = true := by simp; omega
     have HO := Lib.hid (H2.out.alloc (.cells #[.int .u8 (Go.bits BinOp.or IntKind.u8 ((m : Int) % 128) 128)] 5))
     have HOB : Hid (Blk (wr.alloc (.cells #[.int .u8 (Go.bits BinOp.or IntKind.u8 ((m : Int) % 128) 128)] 5)) wr.heap.size 5 #[.int .u8 (Go.bits BinOp.or IntKind.u8 ((m : Int) % 128) 128)]) := Lib.hid (Blk.new _ _ _)
     have HLE := Lib.hid HI.out.2.le
     have HPL := Lib.hid (show pre.length ≤ 1001000000 from by have h := congrArg List.length HPE.out; rw [List.length_append, List.length_append] at h; have := encN_len n; omega)
     go_wp2_with (first | (at_builtin; refine wpList_append_any _ rfl _ _ rfl elem_row rfl HO.out rfl (one_u8 (x := Go.bits BinOp.or IntKind.u8 ((m : Int) % 128) 128) HOB.out.lt (HOB.out.cell 0)) (by intro u hu; simp at hu; rw [hu]; rfl) (by have := HPL.out; unfold maxLen; omega) (by have := HPL.out; omega) (by have := HLE.out; have := hrl; simp; omega) ?_) | fail)
     rintro A8 c8 W8 hown hgr hA8
     have hrow : ∀ j, B.map (·.block) = some j → base ≤ j ∧ j ≠ gr := fun j e => ⟨own_rowS HO.out e, by cases B with | none => cases e | some a => cases e; exact H3.out a rfl⟩
     have HB8 := Lib.hid ((H1.out.alloc (.cells #[.int .u8 (Go.bits BinOp.or IntKind.u8 ((m : Int) % 128) 128)] 5)).grown hgr (fun e => (hrow _ e.symm).2 rfl))
     have HO8 := Lib.hid hown
     have HG8 := Lib.hid (show Below base w W8 from (HI.out.2.bel.alloc (by have := HLE.out; omega) _).grown hgr (by have := HLE.out; simp; omega) (fun j e => (hrow j e).1))
     have HN8 := Lib.hid (show (∀ a, A8 = some a → a.block ≠ gr) ∧ w.heap.size ≤ W8.heap.size from ⟨fun a ha => by rcases hA8 with e | e; exact H3.out a (e ▸ ha); rw [e] at ha; cases ha; dsimp only; omega, by have := HLE.out; have h := hgr.size; simp at h; omega⟩)
     have d0 := HB8.out.cell 0
     have d1 := HB8.out.frozen 0
     have d2 := HB8.out.lt
     clear hown hgr hA8 hrow c0 z0 l0
     have HQ := Lib.hid (show (m : Int) / 128 = ((m / 128 : Nat) : Int) from by omega)
     go_wp2_with fail
     go_roundw
     case rel => exact ⟨m / 128, by rw [HQ.out], Lib.hid ⟨by omega, row_more hm HPE.out HB8.out HO8.out HG8.out HN8.out hbg⟩⟩
     case measure => rw [HQ.out]; show ((m / 128 : Nat) : Int).toNat < (m : Int).toNat; omega
    ·have hmd : decide ((128 : Int) ≤ (m : Int)) = false := by simp; omega
     have HO := Lib.hid (H2.out.alloc (.cells #[.int .u8 ((m : Int))] 5))
     have HOB : Hid (Blk (wr.alloc (.cells #[.int .u8 ((m : Int))] 5)) wr.heap.size 5 #[.int .u8 ((m : Int))]) := Lib.hid (Blk.new _ _ _)
     have HLE := Lib.hid HI.out.2.le
     have HPL := Lib.hid (show pre.length ≤ 1001000000 from by have h := congrArg List.length HPE.out; rw [List.length_append, List.length_append] at h; have := encN_len n; omega)
     go_wp2_with (first | (at_builtin; refine wpList_append_any _ rfl _ _ rfl elem_row rfl HO.out rfl (one_u8 (x := (m : Int)) HOB.out.lt (HOB.out.cell 0)) (by intro u hu; simp at hu; rw [hu]; rfl) (by have := HPL.out; unfold maxLen; omega) (by have := HPL.out; omega) (by have := HLE.out; have := hrl; simp; omega) ?_) | fail)
     rintro A8 c8 W8 hown hgr hA8
     have hrow : ∀ j, B.map (·.block) = some j → base ≤ j ∧ j ≠ gr := fun j e => ⟨own_rowS HO.out e, by cases B with | none => cases e | some a => cases e; exact H3.out a rfl⟩
     have HB8 := Lib.hid ((H1.out.alloc (.cells #[.int .u8 ((m : Int))] 5)).grown hgr (fun e => (hrow _ e.symm).2 rfl))
     have HO8 := Lib.hid hown
     have HG8 := Lib.hid (show Below base w W8 from (HI.out.2.bel.alloc (by have := HLE.out; omega) _).grown hgr (by have := HLE.out; simp; omega) (fun j e => (hrow j e).1))
     have HN8 := Lib.hid (show (∀ a, A8 = some a → a.block ≠ gr) ∧ w.heap.size ≤ W8.heap.size from ⟨fun a ha => by rcases hA8 with e | e; exact H3.out a (e ▸ ha); rw [e] at ha; cases ha; dsimp only; omega, by have := HLE.out; have h := hgr.size; simp at h; omega⟩)
     have d0 := HB8.out.cell 0
     have d1 := HB8.out.frozen 0
     have d2 := HB8.out.lt
     clear hown hgr hA8 hrow c0 z0 l0
     go_wp2_with fail
     exact ⟨.inr ⟨rfl, Lib.hid (row_last (by omega) HPE.out HB8.out HO8.out HG8.out HN8.out hbg)⟩, by simp [intOf]⟩
  ·go_wp2_with fail
   exact ⟨rfl, .tuple #[], by simp [results, Try.results24, go_sem], rfl, hO.out⟩
end Go.Proofs.Ytehgijdjnddfcaa
/- The answer's Pack. -/
namespace Go.Proofs.Ytehgijdjnddfcaa
open Go.RowKit

set_option maxRecDepth 100000 in
set_option maxHeartbeats 4000000 in
theorem rPack_any (A : Option Addr) (n c : Nat) (l : List ByteArray) (w : World) (hn : n ≤ 200) (ha : StrsAt w w.heap.size A n l) (hsz : ∀ s ∈ l, s.size ≤ 2000) :
  Calls Try.prog 17 #[.slice A n c] w fun e w' => e = .returned (packV l) ∧ Below w.heap.size w w' := by
 have HA := Lib.hid ha
 have HL := Lib.hid ha.len
 have HZ := Lib.hid hsz
 clear ha hsz
 by_cases h20 : 20 < n
 ·have HV := Lib.hid (packV_many (l := l) (by rw [HL.out]; exact h20))
  go_enter Try.func17, Try.ntmps17
  go_wp2_with fail
  go_ret2
  exact ⟨by rw [HV.out]; rfl, Below.refl _ _⟩
 ·have hN := Lib.hid (show ¬ 20 < l.length from by rw [HL.out]; exact h20)
  go_enter Try.func17, Try.ntmps17
  go_wp2_with fail
  refine (rnumber_any n (by omega) w).mono ?_
  rintro e w1 ⟨rfl, hb⟩
  have HB1 := Lib.hid hb
  clear hb
  go_wp2_with fail
  go_loopw [4, 5, 6, 17] (fun v4 v5 v6 v17 wr => ∃ k : Nat, k ≤ n ∧ v4 = .string (BS (headL (l.take k) n)) ∧ v5 = .string (BS (bodyL (l.take k))) ∧ v6 = .int .i64 ((bodyL (l.take k)).length : Int) ∧ v17 = .int .i64 (k : Int) ∧ Hid ((bodyL (l.take k)).length ≤ 960 ∧ (headL (l.take k) n).length ≤ 21 + 962 * k) ∧ Below w.heap.size w wr)
   (fun _ _ _ v17 _ => n - (intOf v17).toNat)
  case atStart => exact ⟨0, by omega, by rw [encS_BS]; unfold headL; simp, by unfold bodyL; simp [BS], by unfold bodyL; simp, rfl, Lib.hid (by unfold bodyL headL; simp; have := encN_len n; omega), HB1.out⟩
  case round =>
   obtain ⟨k, hk, rfl, rfl, rfl, rfl, HK, hbel⟩ := hrel
   have hk1 := HK.out.1
   by_cases hlt : k < n
   ·obtain ⟨b1, o1, x, hA, hb1, hx, cx⟩ := (HA.out.below hbel).cell hlt
    subst hA
    have HX := Lib.hid hx
    have hxs := HZ.out x (List.mem_of_getElem? hx)
    have kI : (k : Int) < (n : Int) := by omega
    have k0 : (0 : Int) ≤ (k : Int) := by omega
    have hup := body_len_up hx
    have HUP := Lib.hid hup
    clear hx
    by_cases hx9 : x.size ≤ 960
    ·have hmn : ¬ (961 : Int) < (x.size : Int) := by omega
     have hmn2 : (x.size : Int) < 961 := by omega
     have hmin : min (x.size : Int) 961 = (x.size : Int) := by omega
     by_cases hov : 960 < (bodyL (l.take k)).length + x.size
     ·have HV := Lib.hid (packV_over hN.out (k := k + 1) (by rw [HUP.out]; exact hov))
      clear hup
      go_wp2_with fail
      exact bodyPost_ret (v := packV l) (by rw [HV.out]; simp [results, Try.results17, go_sem]) rfl ⟨rfl, hbel⟩
     ·clear hup
      have HQ := Lib.hid (show (headL (l.take (k + 1)) n).length ≤ 21 + 962 * (k + 1) from by rw [head_up HX.out, List.length_append]; have := HK.out.2; have := encN_len x.size; omega)
      have s1 : ¬ 9223372036854775807 < (BS (headL (l.take k) n)).size + (encS x.size).size := by rw [BS_size]; have := HK.out.2; have := encS_len x.size; omega
      have s2 : ¬ 9223372036854775807 < (BS (bodyL (l.take k))).size + x.size := by rw [BS_size]; omega
      go_wp2_with fail
      refine (rnumber_any x.size (by omega) wr).mono ?_
      rintro e w2 ⟨rfl, hb⟩
      have HB2 := Lib.hid (hbel.trans (hb.mono hbel.size))
      clear hb hbel
      go_wp2_with fail
      go_roundw
      case rel => exact ⟨k + 1, by omega, by rw [encS_BS, BS_app, head_up HX.out], by rw [body_up HX.out, ← BS_app, BS_data], by rw [HUP.out]; go_num, by go_num, Lib.hid ⟨by rw [HUP.out]; omega, HQ.out⟩, HB2.out⟩
      case measure => simp [intOf]; omega
    ·have HV := Lib.hid (packV_over hN.out (k := k + 1) (by rw [HUP.out]; omega))
     have hmin : min (x.size : Int) 961 = 961 := by omega
     have hov : (960 : Int) < (bodyL (l.take k)).length + 961 := by omega
     clear hup
     go_wp2_with fail
     exact bodyPost_ret (v := packV l) (by rw [HV.out]; simp [results, Try.results17, go_sem]) rfl ⟨rfl, hbel⟩
   ·have hkn : k = n := by omega
    subst hkn
    have htk : l.take k = l := List.take_of_length_le (by rw [HL.out]; omega)
    rw [htk] at HK hk1 ⊢
    have h1 := BS_size (headL l k)
    have h2 := BS_size (bodyL l)
    have hk2 := HK.out.2
    have HS := Lib.hid (And.intro h1 h2)
    have hw : wrap64 (((BS (headL l k)).size : Int) + ((BS (bodyL l)).size : Int)) = ((BS (headL l k)).size : Int) + ((BS (bodyL l)).size : Int) := by rw [h1, h2]; unfold Go.RowKit.wrap64; omega
    have s1 : ¬ 9223372036854775807 < (BS (headL l k)).size + (BS (bodyL l)).size := by rw [h1, h2]; omega
    by_cases hlong : 960 < (headL l k).length + (bodyL l).length
    ·have HV := Lib.hid (packV_long hN.out (by rw [HL.out]; exact hlong))
     have hd : decide ((960 : Int) < ((BS (headL l k)).size : Int) + ((BS (bodyL l)).size : Int)) = true := by rw [h1, h2]; simp; omega
     clear h1 h2
     go_wp2_with fail
     exact bodyPost_ret (v := packV l) (by rw [HV.out]; simp [results, Try.results17, go_sem]) rfl ⟨rfl, hbel⟩
    ·have HV := Lib.hid (packV_ok hN.out (by rw [HL.out]; exact hlong))
     have hd : decide ((960 : Int) < ((BS (headL l k)).size : Int) + ((BS (bodyL l)).size : Int)) = false := by rw [h1, h2]; simp; omega
     clear h1 h2
     go_wp2_with fail
     exact bodyPost_ret (v := packV l) (by rw [HV.out, ← BS_app, HL.out]; simp [results, Try.results17, go_sem]) rfl ⟨rfl, hbel⟩
end Go.Proofs.Ytehgijdjnddfcaa
/- book.Pack. -/
namespace Go.Proofs.Ytehgijdjnddfcaa
open Go.RowKit

theorem cv_bytes (W : World) (B : Option Addr) (q : Nat) (l : List UInt8) (hne : l ≠ []) {base : Nat} (h : Own W base 5 1 B l.length q (bytesV l)) :
  (convert 57 9 (.slice B l.length q)).run Try.prog W = .ok (.string (BS l)) W := by
 obtain ⟨a, rfl, hc⟩ : ∃ a, B = some a ∧ ∀ j (hj : j < l.length), W.cell? (a.add j) = some (.int .u8 (l[j].toNat : Int)) := by
  have h0 : 0 < l.length := List.length_pos_iff.2 hne
  obtain ⟨ad, hA, _, hc⟩ := (h.reads (Nat.le_refl _)).2 h0
  refine ⟨ad, hA, fun j hj => hc j _ ?_⟩
  unfold bytesV
  rw [List.getElem?_map, List.getElem?_eq_getElem hj]
  rfl
 exact run_convert_bytes_back W _ _ _ a q l Try.underlying57 Try.underlying5 Try.underlying9 hc
/-- The row, behind k strings. -/
structure PackW (w : World) (gr : Nat) (l : List ByteArray) (n k : Nat) (W : World) : Prop where
 ex : ∃ B q, Blk W gr 57 #[.slice B (headL (l.take k) n).length q] ∧ Own W w.heap.size 5 1 B (headL (l.take k) n).length q (bytesV (headL (l.take k) n)) ∧ ∀ a, B = some a → a.block ≠ gr
 bel : Below w.heap.size w W
 body : (bodyL (l.take k)).length ≤ 960
 head : (headL (l.take k) n).length ≤ 21 + 962 * k
theorem two_ints (W : World) (x y : Int) (B : Nat) (hB : W.heap.size < B) : IntsAt (W.alloc (.cells #[.int .i64 x, .int .i64 y] 3)) B (some ⟨W.heap.size, 0, none⟩) 2 [x, y] := by
 have h := IntsAt.new W 3 [x, y] B hB
 simpa using h
theorem in_two (x y : Nat) (h : x ≤ y) : inB 0 960 [(x : Int), (y : Int)] = decide (y ≤ 960) := by
 unfold inB
 by_cases hy : y ≤ 960
 ·simp [hy]; omega
 ·simp [hy]; omega
theorem own_lit {W : World} {g n size : Nat} {t : TypeId} {xs : List Value} {base : Nat} (h : Blk W g t xs.toArray) (hb : base ≤ g) (hn : xs.length = n * size) (hm : n ≤ maxLen) : Own W base t size (some ⟨g, 0, none⟩) n n xs :=
 ⟨hn, .inr ⟨g, n, xs.toArray, rfl, hb, h, Nat.le_refl _, hm, by simpa using hn, by rw [← hn]; simp⟩⟩
theorem pack_start {w W : World} {l : List ByteArray} {n : Nat} (hn : n ≤ 20) (h : Lay w W [(w.heap.size, 5, #[.int .u8 (n : Int)]), (w.heap.size + 1, 57, #[.slice (some ⟨w.heap.size, 0, none⟩) 1 1])]) : PackW w (w.heap.size + 1) l n 0 W := by
 have e : headL (l.take 0) n = [UInt8.ofNat n] := by unfold headL; rw [encN_small (by omega)]; simp
 have e2 : (((UInt8.ofNat n).toNat : Nat) : Int) = (n : Int) := by rw [UInt8.toNat_ofNat']; omega
 refine ⟨⟨some ⟨w.heap.size, 0, none⟩, 1, ?_, ?_, fun a ha => by cases ha; dsimp only; omega⟩, h.1, by unfold bodyL; simp, by rw [e]; simp⟩
 ·rw [e]
  exact h.blk 1 rfl
 ·rw [e]
  unfold bytesV
  rw [List.map_cons, List.map_nil, e2]
  exact own_lit (h.blk 0 rfl) (Nat.le_refl _) rfl (by show 1 ≤ maxLen; decide)
theorem PackW.alloc {w W : World} {gr n k : Nat} {l : List ByteArray} (h : PackW w gr l n k W) (o : Obj) : PackW w gr l n k (W.alloc o) := by
 obtain ⟨B, q, h1, h2, h3⟩ := h.ex
 exact ⟨⟨B, q, h1.alloc o, h2.alloc o, h3⟩, h.bel.alloc h.bel.size o, h.body, h.head⟩
theorem PackW.below {w W V : World} {gr n k : Nat} {l : List ByteArray} (h : PackW w gr l n k W) (hb : Below W.heap.size W V) : PackW w gr l n k V := by
 obtain ⟨B, q, h1, h2, h3⟩ := h.ex
 exact ⟨⟨B, q, h1.below hb h1.lt, h2.below hb (Nat.le_refl _), h3⟩, h.bel.trans (hb.mono h.bel.size), h.body, h.head⟩
set_option maxRecDepth 100000 in
set_option maxHeartbeats 4000000 in
theorem pack_any (A : Option Addr) (n c : Nat) (l : List ByteArray) (w : World) (hn : n ≤ 200) (hc : n ≤ c) (ha : StrsAt w w.heap.size A n l) (hsz : ∀ s ∈ l, s.size ≤ 2000) :
  Calls Try.prog 16 #[.slice A n c] w fun e w' => e = .returned (packV l) ∧ Below w.heap.size w w' := by
 have HA := Lib.hid ha
 have HL := Lib.hid ha.len
 have HZ := Lib.hid hsz
 clear ha hsz
 by_cases h20 : 20 < n
 ·have HV := Lib.hid (packV_many (l := l) (by rw [HL.out]; exact h20))
  go_enter Try.func16, Try.ntmps16
  go_wp2_with fail
  go_ret2
  exact ⟨by rw [HV.out]; rfl, Below.refl _ _⟩
 ·have hN := Lib.hid (show ¬ 20 < l.length from by rw [HL.out]; exact h20)
  go_enter Try.func16, Try.ntmps16
  have HX := Lib.hid (Lay.two w 5 #[.int .u8 (n : Int)] 57 #[.slice (some ⟨w.heap.size, 0, none⟩) 1 1])
  go_upto_region 5 with fail
  obtain ⟨W0, hW⟩ : ∃ W, ((w.alloc (.cells #[.int .u8 (n : Int)] 5)).alloc (.cells #[.slice (some ⟨w.heap.size, 0, none⟩) 1 1] 57)) = W := ⟨_, rfl⟩
  rw [hW] at HX ⊢
  clear hW
  have HP0 := Lib.hid (pack_start (l := l) (by omega) HX.out)
  clear HX
  obtain ⟨gr, hgr⟩ : ∃ g, w.heap.size + 1 = g := ⟨_, rfl⟩
  rw [hgr] at HP0 ⊢
  have HGR := Lib.hid (show w.heap.size ≤ gr from by omega)
  clear hgr
  go_wp2_with fail
  go_loopw [5, 18] (fun v5 v18 wr => ∃ k : Nat, k ≤ n ∧ v5 = .int .i64 ((bodyL (l.take k)).length : Int) ∧ v18 = .int .i64 (k : Int) ∧ Hid (PackW w gr l n k wr)) (fun _ v18 _ => n - (intOf v18).toNat)
  case atStart => exact ⟨0, by omega, by unfold bodyL; simp, rfl, HP0⟩
  case round =>
   obtain ⟨k, hk, rfl, rfl, HP⟩ := hrel
   have hk1 := HP.out.body
   by_cases hlt : k < n
   ·obtain ⟨b1, o1, x, hA, hb1, hx, cx⟩ := (HA.out.below HP.out.bel).cell hlt
    subst hA
    have HX := Lib.hid hx
    have hxs := HZ.out x (List.mem_of_getElem? hx)
    have kI : (k : Int) < (n : Int) := by omega
    have k0 : (0 : Int) ≤ (k : Int) := by omega
    have HUP := Lib.hid (body_len_up hx)
    obtain ⟨B, q, h1, h2, h3⟩ := HP.out.ex
    have H1 := Lib.hid (h1.alloc (.cells #[.int .i64 (x.size : Int)] 3))
    have H2 := Lib.hid (h2.alloc (.cells #[.int .i64 (x.size : Int)] 3))
    have H3 := Lib.hid h3
    have HLE := Lib.hid HP.out.bel.size
    clear hx h1 h2 h3
    go_wp2_with fail
    refine (add_gen x.size (by omega) (headL (l.take k) n) (by have := HP.out.head; omega) w.heap.size gr wr.heap.size 1 B q (wr.alloc (.cells #[.int .i64 (x.size : Int)] 3)) H1.out H2.out H3.out HGR.out (by simp [go_sem]) (by simp)).mono ?_
    rintro e W1 ⟨rfl, hO⟩
    have HO := Lib.hid hO
    clear hO
    have hw : wrap64 (((bodyL (l.take k)).length : Int) + (x.size : Int)) = ((bodyL (l.take k)).length : Int) + (x.size : Int) := by unfold Go.RowKit.wrap64; omega
    go_wp2_with fail
    have HIN := Lib.hid (show inB 0 960 [(x.size : Int), ((bodyL (l.take k)).length : Int) + (x.size : Int)] = decide ((bodyL (l.take k)).length + x.size ≤ 960) from by
     have h := in_two x.size ((bodyL (l.take k)).length + x.size) (by omega)
     rw [Int.natCast_add] at h
     exact h)
    have HP1 := Lib.hid (show PackW w gr l n (k + 1) W1 ∨ ¬ (bodyL (l.take k)).length + x.size ≤ 960 from by
     by_cases h : (bodyL (l.take k)).length + x.size ≤ 960
     ·exact .inl ⟨by rw [head_up HX.out]; exact HO.out.ex, (HP.out.bel.alloc HP.out.bel.size _).trans HO.out.bel, by rw [HUP.out]; omega, by rw [head_up HX.out, List.length_append]; have := HP.out.head; have := encN_len x.size; omega⟩
     ·exact .inr h)
    refine (in_any 0 960 _ 2 2 [(x.size : Int), ((bodyL (l.take k)).length : Int) + (x.size : Int)] _ (two_ints W1 _ _ _ (by simp)) (by unfold maxLen; omega)).mono ?_
    rw [HIN.out]
    rintro e W2 ⟨rfl, hb⟩
    by_cases hov : (bodyL (l.take k)).length + x.size ≤ 960
    ·have HP2 := Lib.hid (((HP1.out.resolve_right (fun h => h hov)).alloc (.cells #[.int .i64 (x.size : Int), .int .i64 (((bodyL (l.take k)).length : Int) + (x.size : Int))] 3)).below hb)
     have hd : decide ((bodyL (l.take k)).length + x.size ≤ 960) = true := by simpa using hov
     rw [hd]
     clear hb hd hov hw
     go_wp2_with fail
     go_roundw
     case rel => exact ⟨k + 1, by omega, by rw [HUP.out]; go_num, by go_num, HP2⟩
     case measure => simp [intOf]; omega
    ·have HV := Lib.hid (packV_over hN.out (k := k + 1) (by rw [HUP.out]; omega))
     have hd : decide ((bodyL (l.take k)).length + x.size ≤ 960) = false := by simpa using hov
     rw [hd]
     have HB2 := Lib.hid (show Below w.heap.size w W2 from by
      have h1 := (HP.out.bel.alloc HP.out.bel.size (.cells #[.int .i64 (x.size : Int)] 3)).trans HO.out.bel
      exact (h1.alloc h1.size _).trans (hb.mono (by have := h1.size; simp; omega)))
     clear hb hd hw
     go_wp2_with fail
     exact bodyPost_ret (v := packV l) (by rw [HV.out]; simp [results, Try.results16, go_sem]) rfl ⟨rfl, HB2.out⟩
   ·have hkn : k = n := by omega
    subst hkn
    have htk : l.take k = l := List.take_of_length_le (by rw [HL.out]; omega)
    obtain ⟨B, q, h1, h2, h3⟩ := HP.out.ex
    rw [htk] at h1 h2 hk1 ⊢
    have HHD := Lib.hid (show (headL l k).length ≤ 21 + 962 * k from by have h := HP.out.head; rw [htk] at h; exact h)
    have HBL := Lib.hid HP.out.bel
    have hne : headL l k ≠ [] := by
     intro e
     unfold headL at e
     have h1 := (List.append_eq_nil_iff.1 e).1
     rw [encN_small (by omega)] at h1
     cases h1
    have hc1 := cv_bytes wr.drew B q (headL l k) hne (h2.drewN 1)
    have g0 := h1.cell 0
    have g1 : wr.drew.cell? ⟨gr, 0, none⟩ = _ := g0
    have gl := h1.lt
    have s1 : ¬ 9223372036854775807 < (BS (headL l k)).size + (allS l).size := by rw [BS_size, allS_BS, BS_size]; have := HHD.out; omega
    have HJ := Lib.hid (fun (W : World) (hW : Below w.heap.size w W) => join_any A k c l W ((HA.out.below hW).more hW.size) hc (by rw [allS_BS, BS_size]; omega) (by omega))
    have HH1 := Lib.hid h1
    have HH2 := Lib.hid h2
    have HNE := Lib.hid hne
    clear h1 h2 h3 hne htk HP
    go_upto_region 13 with fail
    go_region_with (go_at_call 30; refine (HJ.out _ ?_).mono ?_; exact below_drewN HBL.out 1; rintro e w2 ⟨rfl, hb⟩; have hc2 := cv_bytes w2 B q (headL l k) HNE.out ((show Own wr.drew w.heap.size 5 1 B (headL l k).length q (bytesV (headL l k)) from HH2.out.drewN 1).below hb (Nat.le_refl _)); have hb1 := (show Blk wr.drew gr 57 #[.slice B (headL l k).length q] from HH1.out.drewN 1).below hb HH1.out.lt; have g2 := hb1.cell 0; have gl2 := hb1.lt)
    all_goals have HB2 := Lib.hid (show Below w.heap.size w w2 from (below_drewN HBL.out 1).trans (hb.mono HBL.out.size))
    all_goals clear hb hb1 g2 gl2 hc2 hc1 g0 g1 gl
    all_goals have hz : (BS (headL l k) ++ allS l).size = (headL l k).length + (bodyL l).length := by rw [ByteArray.size_append, BS_size, allS_BS, BS_size]
    all_goals have hz2 : (BS (headL l k)).size + (allS l).size = (headL l k).length + (bodyL l).length := by rw [BS_size, allS_BS, BS_size]
    all_goals by_cases hlong : 960 < (headL l k).length + (bodyL l).length
    all_goals first
     | (have HV := Lib.hid (packV_long hN.out (by rw [HL.out]; exact hlong))
        have hd : decide ((960 : Int) < ((BS (headL l k) ++ allS l).size : Int)) = true := by rw [hz]; simp; omega
        have hd2 : decide ((960 : Int) < ((BS (headL l k)).size : Int) + ((allS l).size : Int)) = true := by rw [← Int.natCast_add, hz2]; simp; omega
        clear hz hz2
        go_wp2_with fail
        exact bodyPost_ret (v := packV l) (by rw [HV.out]; simp [results, Try.results16, go_sem]) rfl ⟨rfl, HB2.out⟩)
     | (have HV := Lib.hid (packV_ok hN.out (by rw [HL.out]; exact hlong))
        have hd : decide ((960 : Int) < ((BS (headL l k) ++ allS l).size : Int)) = false := by rw [hz]; simp; omega
        have hd2 : decide ((960 : Int) < ((BS (headL l k)).size : Int) + ((allS l).size : Int)) = false := by rw [← Int.natCast_add, hz2]; simp; omega
        clear hz hz2
        go_wp2_with fail
        exact bodyPost_ret (v := packV l) (by rw [HV.out, HL.out, ← BS_app, ← allS_BS]; simp [results, Try.results16, go_sem]) rfl ⟨rfl, HB2.out⟩)
end Go.Proofs.Ytehgijdjnddfcaa
/- BookPacks: the law, walked. -/
namespace Go.Proofs.Ytehgijdjnddfcaa
open Go.RowKit

theorem packV_form (l : List ByteArray) : ∃ (a : ByteArray) (ea : Int), packV l = .tuple #[.string a, .int .i64 ea] := by
 unfold packV
 split
 ·exact ⟨_, _, rfl⟩
 ·split
  ·exact ⟨_, _, rfl⟩
  ·exact ⟨_, _, rfl⟩
theorem UnpIs.len {s : ByteArray} {o : List ByteArray} {e : Int} (h : UnpIs s o e) : o.length ≤ 20 := by
 rcases h with ⟨_, rfl, _⟩ | ⟨_, ⟨_, _, h, _⟩ | ⟨_, rfl, _⟩⟩
 ·exact Nat.zero_le _
 ·exact h
 ·exact Nat.zero_le _
theorem strs_one (l : List ByteArray) : ∀ u ∈ l.map Value.string, u.oneCell' = true := by
 intro u hu
 obtain ⟨x, _, rfl⟩ := List.mem_map.1 hu
 rfl
set_option maxRecDepth 100000 in
set_option maxHeartbeats 4000000 in
theorem packs_walk (A : Option Addr) (n c : Nat) (l : List ByteArray) (s : ByteArray) (w : World) (hn : n ≤ maxLen) (ha : StrsAt w w.heap.size A n l) :
  Calls Try.prog 5 #[.slice A n c, .string s] w fun e w' => e = .returned (.bool true) ∧ Below w.heap.size w w' := by
 have HA := Lib.hid ha
 have HNL := Lib.hid ha.len
 clear ha
 cases hg : greatS l with
 | true =>
  have HG := Lib.hid hg
  clear hg
  go_enter Try.func5, Try.ntmps5
  go_wp2_with fail
  refine (greatStrs_any A n c l w hn HA.out).mono ?_
  rw [HG.out]
  rintro e W1 ⟨rfl, hb1⟩
  have HB1 := Lib.hid hb1
  clear hb1
  go_wp2_with fail
  go_ret
  exact ⟨rfl, HB1.out⟩
 | false =>
  have HG := Lib.hid hg
  have HGN := Lib.hid (greatS_no hg)
  clear hg
  by_cases hs : 2000 < s.size
  ·have hd : decide ((2000 : Int) < (s.size : Int)) = true := by simp; omega
   go_enter Try.func5, Try.ntmps5
   go_wp2_with fail
   refine (greatStrs_any A n c l w hn HA.out).mono ?_
   rw [HG.out]
   rintro e W1 ⟨rfl, hb1⟩
   have HB1 := Lib.hid hb1
   clear hb1
   go_wp2_with fail
   go_ret
   exact ⟨rfl, HB1.out⟩
  ·have hd : decide ((2000 : Int) < (s.size : Int)) = false := by simp; omega
   have hs2 : s.size ≤ 2000 := by omega
   have HN2 := Lib.hid (show n ≤ 200 from by have h1 := HGN.out.1; have h2 := HNL.out; omega)
   have HSM := Lib.hid HGN.out.2
   obtain ⟨a, ea, hv⟩ := packV_form l
   have HV := Lib.hid hv
   clear hv
   go_enter Try.func5, Try.ntmps5
   go_wp2_with fail
   refine (greatStrs_any A n c l w hn HA.out).mono ?_
   rw [HG.out]
   rintro e W1 ⟨rfl, hb1⟩
   have HB1 := Lib.hid hb1
   have HA1 := Lib.hid ((HA.out.below hb1).more hb1.size)
   clear hb1
   have HO0 := Lib.hid (show Own (W1.alloc (.cells #[] 9)) W1.heap.size 9 1 (some ⟨W1.heap.size, 0, none⟩) 0 0 [] from World.ownsRow_made W1 #[] 0 (Nat.le_refl _) (Nat.zero_le _) (by simp))
   have HA2 := Lib.hid (HA1.out.alloc (Nat.le_refl _) (.cells #[] 9))
   go_wp2_with (at_builtin; refine wpList_append_any _ rfl _ _ rfl elem_str rfl HO0.out rfl HA2.out (strs_one _) (by have := HN2.out; unfold maxLen; omega) (by have := HN2.out; omega) (by simp) ?_)
   rintro O c2 W2 hO hg2 -
   have HCL := Lib.hid hO.cap_le
   have HBA : Below W1.heap.size W1 W2 := ((Below.refl _ _).alloc (Nat.le_refl _) (.cells #[] 9)).grown hg2 (by simp) (fun k e => by cases e; exact Nat.le_refl _)
   have HB2 := Lib.hid (HB1.out.trans (HBA.mono HB1.out.size))
   have HL2 := Lib.hid ((HA1.out.below HBA).more HBA.size)
   have HO2 := Lib.hid (show StrsAt W2 W2.heap.size O n l from by have h := hO.reads (Nat.le_refl _); simpa [StrsAt] using h)
   clear hO hg2 HBA HB1 HA1 HA2 HO0
   go_wp2_with fail
   refine (pack_any O n c2 l W2 HN2.out (by have := HCL.out; omega) HO2.out HSM.out).mono ?_
   rw [HV.out]
   rintro e W3 ⟨rfl, hb⟩
   have HB3 := Lib.hid (HB2.out.trans (hb.mono HB2.out.size))
   have HL3 := Lib.hid ((HL2.out.below hb).more hb.size)
   have HO3 := Lib.hid ((HO2.out.below hb).more hb.size)
   clear hb HB2 HL2 HO2
   go_wp2_with fail
   refine (rPack_any A n c l W3 HN2.out HL3.out HSM.out).mono ?_
   rw [HV.out]
   rintro e W4 ⟨rfl, hb⟩
   have HB4 := Lib.hid (HB3.out.trans (hb.mono HB3.out.size))
   have HL4 := Lib.hid ((HL3.out.below hb).more hb.size)
   have HO4 := Lib.hid ((HO3.out.below hb).more hb.size)
   clear hb HB3 HL3 HO3
   go_wp2_with fail
   refine (callsIn_wide.1 (unpack_in s W4)).mono ?_
   rintro e W5 ⟨B, q, o, ee, rfl, h1, h2, hb⟩
   have HU := Lib.hid h1
   have HP5 := Lib.hid h2
   have HB5 := Lib.hid (HB4.out.trans (hb.mono HB4.out.size))
   have HL5 := Lib.hid ((HL4.out.below hb).more hb.size)
   have HO5 := Lib.hid ((HO4.out.below hb).more hb.size)
   clear h1 h2 hb HB4 HL4 HO4
   go_wp2_with fail
   refine (rUnpack_any s hs2 W5).mono ?_
   rintro e W6 ⟨C, r, o', ee', rfl, h1, h2, hb⟩
   obtain ⟨e1, e2⟩ := h1.same HU.out
   subst e1 e2
   have HP6 := Lib.hid ((HP5.out.below hb).more hb.size)
   have HR6 := Lib.hid h2
   have HB6 := Lib.hid (HB5.out.trans (hb.mono HB5.out.size))
   have HL6 := Lib.hid ((HL5.out.below hb).more hb.size)
   have HO6 := Lib.hid ((HO5.out.below hb).more hb.size)
   have HUL := Lib.hid HU.out.len
   clear h1 h2 hb HB5 HL5 HO5 HP5
   go_wp2_with fail
   refine (sameStrs_any B o'.length q o' C r W6 (by have := HUL.out; omega) HP6.out HR6.out).mono ?_
   rintro e W7 ⟨rfl, hb⟩
   have HB7 := Lib.hid (HB6.out.trans (hb.mono HB6.out.size))
   have HL7 := Lib.hid ((HL6.out.below hb).more hb.size)
   have HO7 := Lib.hid ((HO6.out.below hb).more hb.size)
   clear hb HB6 HL6 HO6
   go_wp2_with fail
   refine (sameStrs_any O n c2 l A c W7 (by have := HN2.out; omega) HO7.out HL7.out).mono ?_
   rintro e W8 ⟨rfl, hb⟩
   have HB8 := Lib.hid (HB7.out.trans (hb.mono HB7.out.size))
   clear hb HB7 HL7 HO7
   go_wp2_with fail
   go_ret
   exact ⟨rfl, HB8.out⟩
end Go.Proofs.Ytehgijdjnddfcaa
/- BookPacks: packed files are the specification's: for every list of strings and all bytes the law returns true. No conditions. -/
namespace Go.Proofs.Ytehgijdjnddfcaa
open Go.ChangeShapes Go.WideShapes Go.ChangeAt Go.RowKit Go.Joins
open Go.ChangeMaps (open_string shut_string)

theorem cellsStr1 : Try.prog.cellsOf 9 = 1 := by kernel_rfl
theorem strs_open {H : Type} {enc : TypeId × Value → H} {w : World} {A : Option Addr} {n c fuel : Nat} {x : DataW H × List MemPlace} (h : DataW.trod enc Try.prog w 0 (fun _ => true) true fuel 43 [.slice A n c] = some x) :
  n ≤ maxLen ∧ ∃ l, StrsAt w w.heap.size A n l := by
 rcases Go.ChangeShapes.open_strings Try.underlying43 Try.underlying9 cellsStr1 h with ⟨e, _⟩ | ⟨a, len, cap, ss, e, _, hl, hm, hz, _, hx, _⟩
 ·simp only [List.cons.injEq, and_true, Value.slice.injEq] at e
  obtain ⟨rfl, rfl, rfl⟩ := e
  exact ⟨Nat.zero_le _, [], Reads.none_⟩
 ·simp only [List.cons.injEq, and_true, Value.slice.injEq] at e
  obtain ⟨rfl, rfl, rfl⟩ := e
  have hz' : ss.length = c := by simpa using hz
  refine ⟨by omega, ss.take n, ⟨by rw [List.length_map, List.length_take]; omega, fun h0 => ⟨a, rfl, ?_, fun j u hu => ?_⟩⟩⟩
  ·have := World.block_lt_of_cell? w _ (hx 0 (by omega))
   rwa [block_of_add] at this
  ·rw [List.getElem?_map, Option.map_eq_some_iff] at hu
   obtain ⟨y, hy, rfl⟩ := hu
   obtain ⟨hj, e2⟩ := List.getElem?_eq_some_iff.1 hy
   rw [List.length_take] at hj
   have hjs : j < ss.length := by omega
   rw [hx j hjs, ← e2, List.getElem_take, List.getD_eq_getElem?_getD, List.getElem?_eq_getElem hjs]
   rfl
theorem ownTn : ownKnob Try.prog.godebug = none := by kernel_rfl
theorem laidOutTn : laidOutB Try.prog = true := by kernel_rfl

set_option maxRecDepth 100000 in
theorem packs_lifted (os : Os) (started : os.Started) (H : Type) (enc : TypeId × Value → H) :
  ReturnsInHanded {} Try.checked os 5 .any (Rows.bookPacksSpec.pre6 enc Try.prog Try.f5 Rows.bookPacksRow.domain false) (Rows.bookPacksSpec.post enc Try.prog Try.f5 false true false false) := by
 refine returnsInHanded_of_change (C := Try.checked) ownTn started (by kernel_rfl) Try.func5
  (ChangeSpec.witness6 (enc := enc) (C := Try.checked) false ⟨#[], #[.slice none 0 0, .string ⟨#[]⟩], []⟩ 8 (by kernel_rfl) (by kernel_rfl) (by kernel_rfl) (by kernel_rfl)) ?_
 intro W base args ds gs before hval0 hW hcnd _
 have hval : ∀ (j : Nat) t v, Try.f5.params[j]? = some t → args[j]? = some v → Value.okWide Try.prog W .any base t v := hval0
 have hW' := hW
 obtain ⟨p, q, hA0, hV, rfl, hfz, hnd⟩ := hW
 have hA : DataW.TrodAll enc Try.prog W 0 (fun _ => true) true Try.f5.params.toList args.toList ds p := hA0
 rw [Try.params5] at hA hval
 obtain ⟨v0, vs0, d0, ds0, p0, q0, hargs, rfl, rfl, h0, r0⟩ := trodAll_cons hA
 obtain ⟨v1, vs1, d1, ds1, p1, q1, rfl, rfl, rfl, h1, r1⟩ := trodAll_cons r0
 obtain ⟨rfl, rfl, rfl⟩ := trodAll_nil r1
 obtain rfl : args = #[v0, v1] := by cases args; simp_all
 obtain ⟨rfl, rfl⟩ := trodVars_none hV
 have k0 := h0
 have k1 := h1
 have lt0 : ∀ x ∈ p0, x.block < W.heap.size := by obtain ⟨m, hm⟩ := k0; exact DataW.trod_lt m _ _ _ hm
 have lt1 : ∀ x ∈ p1, x.block < W.heap.size := by obtain ⟨m, hm⟩ := k1; exact DataW.trod_lt m _ _ _ hm
 obtain ⟨A0, n, c, rfl⟩ := okWide_slice Try.underlying43 (hval 0 43 v0 rfl rfl)
 obtain ⟨s, rfl, rfl, rfl, ws⟩ := open_string Try.underlying9 (hval 1 9 v1 rfl rfl) h1
 obtain ⟨fuel, hf⟩ := h0
 obtain ⟨hn, l, hl⟩ := strs_open hf
 clear hA0 hval0
 refine (packs_walk A0 n c l s W hn hl).mono fun e W' ⟨he, bel⟩ => ?_
 subst he
 exact ⟨_, rfl, _, _, _, [], _, [], hW', trodAll_mk1 (shut_bool Try.underlying4 _), (trodAll_cons_mk (Below.trod laidOutTn (by kernel_rfl) (of_decide_eq_true (by kernel_rfl)) k0 bel lt0) (trodAll_cons_mk (Below.trod laidOutTn (by kernel_rfl) (of_decide_eq_true (by kernel_rfl)) k1 bel lt1) trodAll_mk0)), rfl, bel.frame _, fun h => by cases h⟩

theorem packs_holds : Rows.BookPacksSaid :=
 OpenClaim.holds_of_wide 5 Try.f5 rfl rfl rfl rfl rfl rfl rfl ⟨rfl, rfl, rfl, rfl, rfl⟩ rfl rfl rfl rfl rfl (by kernel_rfl) Try.func5 (by kernel_rfl)
  (of_decide_eq_true (by kernel_rfl)) (by unfold Func.isWrapper; rw [if_neg (of_decide_eq_false (by kernel_rfl))]; exact ⟨rfl, rfl⟩)
  (fun os started H enc _ => packs_lifted os started H enc)
#print axioms packs_holds
end Go.Proofs.Ytehgijdjnddfcaa
