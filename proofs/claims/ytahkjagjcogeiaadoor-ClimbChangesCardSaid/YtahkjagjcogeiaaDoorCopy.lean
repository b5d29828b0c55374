/- copy, and append of zero values, on structs. -/
import Derived.Test.YtahkjagjcogeiaaDoorRow
import Derived.Lib.AppendZeros
import Derived.Shelf.Spec.SlicesInsert
import Derived.Lib.Overlaps
namespace Go.Proofs.YtahkjagjcogeiaaDoor
open Go.RowKit
set_option linter.unusedVariables false

/-- copy into a known block. -/
theorem run_copy_blk {P : Program} {w : World} {g : Nat} {e : TypeId} {cs : Array Value} (hb : Blk w g e cs) {dT sT ty elem : TypeId} {size : Nat} (hu : P.underlying dT = some (.slice elem)) (hs : (P.info? elem).map (·.size) = some size) (o dLen dCap : Nat) (a : Addr) (sLen sCap : Nat) (news : List Value)
    (hn : news.length = Nat.min sLen dLen * size) (hsrc : ∀ j v, news[j]? = some v → w.cell? (a.add j) = some v) (hfit : o + news.length ≤ cs.size) (h1 : ∀ v ∈ news, v.oneCell' = true) :
    (Builtin.copy_ #[dT, sT] ty #[.slice (some ⟨g, o, none⟩) dLen dCap, .slice (some a) sLen sCap]).run P w = .ok (goInt (Nat.min sLen dLen)) (w.setCells g o news) := by
  have hl := run_loadCells_list (P := P) w a news hsrc
  have hst := run_storeCells_cells (P := P) g o news 0 w (by
    intro j hj
    rw [hb.cell, Array.getElem?_eq_getElem (by omega)]; rfl) (fun j _ => hb.frozen _) h1
  simp only [Nat.add_zero] at hst
  cases hq : P.info? elem with
  | none => simp [hq] at hs
  | some i =>
    have hi : i.size = size := by simpa [hq] using hs
    simp [Builtin.copy_, run_underlying hu, Builtin.lenOf, Builtin.firstCells, sizeOf, typeInfo, hq, hi, ← hn, hl, hst]

theorem nextcap_le {need cap : Nat} (h : cap < need) (hc : need ≤ 200) : Builtin.nextslicecap need cap ≤ 400 := by
  unfold Builtin.nextslicecap
  split
  · omega
  · split
    · omega
    · omega

/-- append(s[:i], make(S, m)...) where there is no room. -/
theorem run_append_make {P : Program} {w : World} {g : Nat} {e : TypeId} {cs : Array Value} (hb : Blk w g e cs) {t tn ty : TypeId} {i : TypeInfo} {z : Value} {kn : IntKind} (ht : P.underlying t = some (.slice e)) (htn : P.underlying tn = some (.int kn)) (hi : P.info? e = some i) (hz : i.zero = some z)
    (n cap m : Nat) (olds : List Value) (hold : olds.length = n * i.size) (hcs : ∀ k, k < n * i.size → cs[k]? = olds[k]?) (h0 : 0 < m) (hs : 0 < i.size) (hg : cap < n + m) (hnm : n + m ≤ 200) (hbytes : i.bytes ≤ 1000) :
    (Builtin.append_ #[t, tn] ty #[.slice (some ⟨g, 0, none⟩) n cap, .int .i64 m]).run P w =
      .ok (.slice (some ⟨w.heap.size, 0, none⟩) (n + m) (grownCap w (n + m) cap e)) (w.drew.alloc (.cells (olds.toArray ++ Builtin.zeroCells z.cells m ++ Builtin.zeroCells z.cells (grownCap w (n + m) cap e - (n + m))) e)) := by
  have hn : ¬ (n + m ≤ cap) := by omega
  have hw : IntKind.i64.wrap (m : Int) = m := by rw [IntKind.wrap_i64]; omega
  have h63' : ¬ (9223372036854775807 < ((n : Int) + (m : Int))) := by omega
  have hcap := nextcap_le hg hnm
  have h48' : ¬ (281474976710656 < Builtin.nextslicecap (n + m) cap * i.bytes) := by
    have := Nat.mul_le_mul hcap hbytes
    omega
  have h48i : ¬ (281474976710656 < (m : Int) * (i.bytes : Int)) := by
    rw [← Int.natCast_mul]
    have := Nat.mul_le_mul (show m ≤ 200 by omega) hbytes
    omega
  have hneg : ¬ ((m : Int) < 0) := by omega
  have hns : ¬ (m * i.size = 0) := Nat.mul_ne_zero (by omega) (by omega)
  have hl := run_loadCells_list (P := P) w.drew ⟨g, 0, none⟩ olds (by
    intro j v hv
    have hj : j < n * i.size := by rw [← hold]; exact (List.getElem?_eq_some_iff.1 hv).1
    have ha : ((⟨g, 0, none⟩ : Addr).add j) = ⟨g, j, none⟩ := by
      unfold Addr.add
      by_cases hj : j = 0
      · simp [hj]
      · simp [hj]
    rw [ha]
    exact (hb.cell j).trans ((hcs j hj).trans hv))
  rw [hold] at hl
  simp [Builtin.append_, run_underlying ht, run_underlying htn, sizeOf, typeInfo, zeroValue, hi, hz, asInt, asIntOf, hw, hn, hneg, hns, h63', h48', h48i, Question.forced, Builtin.firstCells, hl, newRow, grownCap]

end Go.Proofs.YtahkjagjcogeiaaDoor
