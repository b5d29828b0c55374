/-
  No cell of these rows narrows 'for every input' (looked for: loops, veiled, ifaces, maps, wideKeys, modest, calm, conditions, laid).
  DERIVED. THE GIVEN ROWS OF THIS SEAT. 11 by the template 'for every input the law returns true; each argument reads behind the call as it read before'; 0 by the template 'total and deterministic' (their statements: YthofngceiecniaaGreatTotals.lean).
  GIVEN WITH THE SEED: the statements are not yours to turn. If you find one false, say at which input.
  Laid BY PROGRAM, IN A SANDBOX (cutbox-rows.mjs): the forced cells as the released guide's own fill.sh prints them over the translation ea4ebad51de6ccfd… (all of the seat's roots in one cut). By AI agents, Wed Nov 11 2026. No macro, syntax, notation, axiom, sorry.
-/
import Derived.Test.YthofngceiecniaaGreatChecked
import GoSem.Claim
import GoSem.ClaimJoined
import GoSem.ClaimMapViews
import Derived.JoinedTies
import Derived.KernelRfl
namespace Go.Proofs.YthofngceiecniaaGreat
/- THE CELL 'sum', in the pinned program and in every row, IS THE sha256 OF THE DUMP (.gsa) THAT YthofngceiecniaaGreatProg.lean LOADS. Nothing in Lean hashes anything: it is a label: what it is worth is what the hold of that sum in a sandbox is worth. -/
noncomputable def Tryz.pinned : Pinned := { name := "ythofngceiecniaagreat", sum := "ea4ebad51de6ccfd9f5963e0329c8fd854bb5cf61bbc477df13388de17b03b6e", checked := Tryz.checked }
namespace Rows
def none {H : Type} : Left H := { results := [], args := [] }

/-- 'aguadorlaw04.MixJudges': WHATEVER THE INPUT: true; the input reads as it did. -/
def mixJudgesSpec : ChangeSpec := { name := "mixJudges", fn := fun _ => fun
  | [d1, d2, d3, d4, d5] => { results := [.lit (.bool true)], args := [d1, d2, d3, d4, d5] }
  | _ => none }
def mixJudgesRow : OpenClaim := { program := "ythofngceiecniaagreat", sum := "ea4ebad51de6ccfd9f5963e0329c8fd854bb5cf61bbc477df13388de17b03b6e", func := "aguador/aguadorlaw04.MixJudges", spec := "mixJudges", unfollowed := true, recurses := true, plainKeys := false, apart := false }
def MixJudgesSaid : Prop := mixJudgesRow.holds Tryz.pinned (OpenSpec.ofChange mixJudgesSpec)

/-- ITS FALSE NEIGHBOUR: 'it returns false'. Refute it at one input. -/
def mixJudgesWrong : ChangeSpec := { name := "mixJudges", fn := fun _ => fun
  | [d1, d2, d3, d4, d5] => { results := [.lit (.bool false)], args := [d1, d2, d3, d4, d5] }
  | _ => none }
def MixJudgesWrongFalsely : Prop := mixJudgesRow.holds Tryz.pinned (OpenSpec.ofChange mixJudgesWrong)

/-- 'aguadorlaw04.MixSome': WHATEVER THE INPUT: true; the input reads as it did. -/
def mixSomeSpec : ChangeSpec := { name := "mixSome", fn := fun _ => fun
  | [d1, d2, d3] => { results := [.lit (.bool true)], args := [d1, d2, d3] }
  | _ => none }
def mixSomeRow : OpenClaim := { program := "ythofngceiecniaagreat", sum := "ea4ebad51de6ccfd9f5963e0329c8fd854bb5cf61bbc477df13388de17b03b6e", func := "aguador/aguadorlaw04.MixSome", spec := "mixSome", unfollowed := true, recurses := true, plainKeys := false, apart := false }
def MixSomeSaid : Prop := mixSomeRow.holds Tryz.pinned (OpenSpec.ofChange mixSomeSpec)

/-- ITS FALSE NEIGHBOUR: 'it returns false'. Refute it at one input. -/
def mixSomeWrong : ChangeSpec := { name := "mixSome", fn := fun _ => fun
  | [d1, d2, d3] => { results := [.lit (.bool false)], args := [d1, d2, d3] }
  | _ => none }
def MixSomeWrongFalsely : Prop := mixSomeRow.holds Tryz.pinned (OpenSpec.ofChange mixSomeWrong)

/-- 'aguadorlaw04.MixExact': WHATEVER THE INPUT: true; the input reads as it did. -/
def mixExactSpec : ChangeSpec := { name := "mixExact", fn := fun _ => fun
  | [d1, d2, d3, d4, d5] => { results := [.lit (.bool true)], args := [d1, d2, d3, d4, d5] }
  | _ => none }
def mixExactRow : OpenClaim := { program := "ythofngceiecniaagreat", sum := "ea4ebad51de6ccfd9f5963e0329c8fd854bb5cf61bbc477df13388de17b03b6e", func := "aguador/aguadorlaw04.MixExact", spec := "mixExact", unfollowed := true, recurses := true, plainKeys := false, apart := false }
def MixExactSaid : Prop := mixExactRow.holds Tryz.pinned (OpenSpec.ofChange mixExactSpec)

/-- ITS FALSE NEIGHBOUR: 'it returns false'. Refute it at one input. -/
def mixExactWrong : ChangeSpec := { name := "mixExact", fn := fun _ => fun
  | [d1, d2, d3, d4, d5] => { results := [.lit (.bool false)], args := [d1, d2, d3, d4, d5] }
  | _ => none }
def MixExactWrongFalsely : Prop := mixExactRow.holds Tryz.pinned (OpenSpec.ofChange mixExactWrong)

/-- 'aguadorlaw04.MixMet': WHATEVER THE INPUT: true; the input reads as it did. -/
def mixMetSpec : ChangeSpec := { name := "mixMet", fn := fun _ => fun
  | [d1, d2, d3, d4, d5, d6] => { results := [.lit (.bool true)], args := [d1, d2, d3, d4, d5, d6] }
  | _ => none }
def mixMetRow : OpenClaim := { program := "ythofngceiecniaagreat", sum := "ea4ebad51de6ccfd9f5963e0329c8fd854bb5cf61bbc477df13388de17b03b6e", func := "aguador/aguadorlaw04.MixMet", spec := "mixMet", unfollowed := true, recurses := true, plainKeys := false, apart := false }
def MixMetSaid : Prop := mixMetRow.holds Tryz.pinned (OpenSpec.ofChange mixMetSpec)

/-- ITS FALSE NEIGHBOUR: 'it returns false'. Refute it at one input. -/
def mixMetWrong : ChangeSpec := { name := "mixMet", fn := fun _ => fun
  | [d1, d2, d3, d4, d5, d6] => { results := [.lit (.bool false)], args := [d1, d2, d3, d4, d5, d6] }
  | _ => none }
def MixMetWrongFalsely : Prop := mixMetRow.holds Tryz.pinned (OpenSpec.ofChange mixMetWrong)

/-- 'aguadorlaw04.MixPath': WHATEVER THE INPUT: true; the input reads as it did. -/
def mixPathSpec : ChangeSpec := { name := "mixPath", fn := fun _ => fun
  | [d1, d2, d3, d4, d5] => { results := [.lit (.bool true)], args := [d1, d2, d3, d4, d5] }
  | _ => none }
def mixPathRow : OpenClaim := { program := "ythofngceiecniaagreat", sum := "ea4ebad51de6ccfd9f5963e0329c8fd854bb5cf61bbc477df13388de17b03b6e", func := "aguador/aguadorlaw04.MixPath", spec := "mixPath", unfollowed := true, recurses := true, plainKeys := false, apart := false }
def MixPathSaid : Prop := mixPathRow.holds Tryz.pinned (OpenSpec.ofChange mixPathSpec)

/-- ITS FALSE NEIGHBOUR: 'it returns false'. Refute it at one input. -/
def mixPathWrong : ChangeSpec := { name := "mixPath", fn := fun _ => fun
  | [d1, d2, d3, d4, d5] => { results := [.lit (.bool false)], args := [d1, d2, d3, d4, d5] }
  | _ => none }
def MixPathWrongFalsely : Prop := mixPathRow.holds Tryz.pinned (OpenSpec.ofChange mixPathWrong)

/-- 'aguadorlaw04.MixWatch': WHATEVER THE INPUT: true; the input reads as it did. -/
def mixWatchSpec : ChangeSpec := { name := "mixWatch", fn := fun _ => fun
  | [d1, d2, d3, d4, d5] => { results := [.lit (.bool true)], args := [d1, d2, d3, d4, d5] }
  | _ => none }
def mixWatchRow : OpenClaim := { program := "ythofngceiecniaagreat", sum := "ea4ebad51de6ccfd9f5963e0329c8fd854bb5cf61bbc477df13388de17b03b6e", func := "aguador/aguadorlaw04.MixWatch", spec := "mixWatch", unfollowed := true, recurses := true, plainKeys := false, apart := false }
def MixWatchSaid : Prop := mixWatchRow.holds Tryz.pinned (OpenSpec.ofChange mixWatchSpec)

/-- ITS FALSE NEIGHBOUR: 'it returns false'. Refute it at one input. -/
def mixWatchWrong : ChangeSpec := { name := "mixWatch", fn := fun _ => fun
  | [d1, d2, d3, d4, d5] => { results := [.lit (.bool false)], args := [d1, d2, d3, d4, d5] }
  | _ => none }
def MixWatchWrongFalsely : Prop := mixWatchRow.holds Tryz.pinned (OpenSpec.ofChange mixWatchWrong)

/-- 'aguadorlaw04.MixDrops': WHATEVER THE INPUT: true; the input reads as it did. -/
def mixDropsSpec : ChangeSpec := { name := "mixDrops", fn := fun _ => fun
  | [d1, d2, d3] => { results := [.lit (.bool true)], args := [d1, d2, d3] }
  | _ => none }
def mixDropsRow : OpenClaim := { program := "ythofngceiecniaagreat", sum := "ea4ebad51de6ccfd9f5963e0329c8fd854bb5cf61bbc477df13388de17b03b6e", func := "aguador/aguadorlaw04.MixDrops", spec := "mixDrops", unfollowed := true, recurses := true, plainKeys := false, apart := false }
def MixDropsSaid : Prop := mixDropsRow.holds Tryz.pinned (OpenSpec.ofChange mixDropsSpec)

/-- ITS FALSE NEIGHBOUR: 'it returns false'. Refute it at one input. -/
def mixDropsWrong : ChangeSpec := { name := "mixDrops", fn := fun _ => fun
  | [d1, d2, d3] => { results := [.lit (.bool false)], args := [d1, d2, d3] }
  | _ => none }
def MixDropsWrongFalsely : Prop := mixDropsRow.holds Tryz.pinned (OpenSpec.ofChange mixDropsWrong)

/-- 'aguadorlaw04.MixMore': WHATEVER THE INPUT: true; the input reads as it did. -/
def mixMoreSpec : ChangeSpec := { name := "mixMore", fn := fun _ => fun
  | [d1, d2, d3, d4, d5, d6, d7, d8, d9] => { results := [.lit (.bool true)], args := [d1, d2, d3, d4, d5, d6, d7, d8, d9] }
  | _ => none }
def mixMoreRow : OpenClaim := { program := "ythofngceiecniaagreat", sum := "ea4ebad51de6ccfd9f5963e0329c8fd854bb5cf61bbc477df13388de17b03b6e", func := "aguador/aguadorlaw04.MixMore", spec := "mixMore", unfollowed := true, recurses := true, plainKeys := false, apart := false }
def MixMoreSaid : Prop := mixMoreRow.holds Tryz.pinned (OpenSpec.ofChange mixMoreSpec)

/-- ITS FALSE NEIGHBOUR: 'it returns false'. Refute it at one input. -/
def mixMoreWrong : ChangeSpec := { name := "mixMore", fn := fun _ => fun
  | [d1, d2, d3, d4, d5, d6, d7, d8, d9] => { results := [.lit (.bool false)], args := [d1, d2, d3, d4, d5, d6, d7, d8, d9] }
  | _ => none }
def MixMoreWrongFalsely : Prop := mixMoreRow.holds Tryz.pinned (OpenSpec.ofChange mixMoreWrong)

/-- 'aguadorlaw04.MixWrong': WHATEVER THE INPUT: true; the input reads as it did. -/
def mixWrongSpec : ChangeSpec := { name := "mixWrong", fn := fun _ => fun
  | [d1, d2] => { results := [.lit (.bool true)], args := [d1, d2] }
  | _ => none }
def mixWrongRow : OpenClaim := { program := "ythofngceiecniaagreat", sum := "ea4ebad51de6ccfd9f5963e0329c8fd854bb5cf61bbc477df13388de17b03b6e", func := "aguador/aguadorlaw04.MixWrong", spec := "mixWrong", unfollowed := true, recurses := true, plainKeys := false, apart := false }
def MixWrongSaid : Prop := mixWrongRow.holds Tryz.pinned (OpenSpec.ofChange mixWrongSpec)

/-- ITS FALSE NEIGHBOUR: 'it returns false'. Refute it at one input. -/
def mixWrongWrong : ChangeSpec := { name := "mixWrong", fn := fun _ => fun
  | [d1, d2] => { results := [.lit (.bool false)], args := [d1, d2] }
  | _ => none }
def MixWrongWrongFalsely : Prop := mixWrongRow.holds Tryz.pinned (OpenSpec.ofChange mixWrongWrong)

/-- 'aguadorlaw04.MixSafe': WHATEVER THE INPUT: true; the input reads as it did. -/
def mixSafeSpec : ChangeSpec := { name := "mixSafe", fn := fun _ => fun
  | [d1, d2, d3, d4, d5] => { results := [.lit (.bool true)], args := [d1, d2, d3, d4, d5] }
  | _ => none }
def mixSafeRow : OpenClaim := { program := "ythofngceiecniaagreat", sum := "ea4ebad51de6ccfd9f5963e0329c8fd854bb5cf61bbc477df13388de17b03b6e", func := "aguador/aguadorlaw04.MixSafe", spec := "mixSafe", unfollowed := true, recurses := true, plainKeys := false, apart := false }
def MixSafeSaid : Prop := mixSafeRow.holds Tryz.pinned (OpenSpec.ofChange mixSafeSpec)

/-- ITS FALSE NEIGHBOUR: 'it returns false'. Refute it at one input. -/
def mixSafeWrong : ChangeSpec := { name := "mixSafe", fn := fun _ => fun
  | [d1, d2, d3, d4, d5] => { results := [.lit (.bool false)], args := [d1, d2, d3, d4, d5] }
  | _ => none }
def MixSafeWrongFalsely : Prop := mixSafeRow.holds Tryz.pinned (OpenSpec.ofChange mixSafeWrong)

/-- 'aguadorlaw04.MixExamples': WHATEVER THE INPUT: true; the input reads as it did. -/
def mixExamplesSpec : ChangeSpec := { name := "mixExamples", fn := fun _ => fun
  | [] => { results := [.lit (.bool true)], args := [] }
  | _ => none }
def mixExamplesRow : OpenClaim := { program := "ythofngceiecniaagreat", sum := "ea4ebad51de6ccfd9f5963e0329c8fd854bb5cf61bbc477df13388de17b03b6e", func := "aguador/aguadorlaw04.MixExamples", spec := "mixExamples", unfollowed := true, recurses := true, plainKeys := false, apart := false }
def MixExamplesSaid : Prop := mixExamplesRow.holds Tryz.pinned (OpenSpec.ofChange mixExamplesSpec)

/-- ITS FALSE NEIGHBOUR: 'it returns false'. Refute it at one input. -/
def mixExamplesWrong : ChangeSpec := { name := "mixExamples", fn := fun _ => fun
  | [] => { results := [.lit (.bool false)], args := [] }
  | _ => none }
def MixExamplesWrongFalsely : Prop := mixExamplesRow.holds Tryz.pinned (OpenSpec.ofChange mixExamplesWrong)

/- THE SECOND FORM. 'bulk': how many values and letters a reading holds, each counted each time it is reached (what is shared counts as often as it is met; a slice's spare places count too). A statement '..UptoSaid' is the law's where the arguments, and the package variables that the reading takes, are together of bulk at most 1048576: NARROWER than '..Said'. Prove '..Said' where nothing that the law and all that it calls make is longer than what came in: it says more and counts as full. Else prove '..UptoSaid'. A law counts once. -/
mutual
def uptoBulk {H : Type} : DataW H → Nat
  | .lit (.string bytes) => bytes.length + 1
  | .lit _ => 1
  | .nil => 1
  | .ptr d => uptoBulk d + 1
  | .slice elems spare => uptoBulkAll elems + uptoBulkAll spare + 1
  | .agg parts => uptoBulkAll parts + 1
  | .iface _ d => uptoBulk d + 1
  | .map entries => uptoBulkEntries entries + 1
  | .held _ => 1
def uptoBulkAll {H : Type} : List (DataW H) → Nat
  | [] => 0
  | d :: r => uptoBulk d + uptoBulkAll r
def uptoBulkEntries {H : Type} : List (Lit × DataW H) → Nat
  | [] => 0
  | x :: r => uptoBulkEntry x + uptoBulkEntries r
def uptoBulkEntry {H : Type} : Lit × DataW H → Nat
  | (.string bytes, d) => bytes.length + uptoBulk d + 1
  | (_, d) => uptoBulk d + 1
 end
def uptoSmall : (H : Type) → List (DataW H) → Bool := fun _ ds => decide (uptoBulkAll ds ≤ 1048576)
def OpenSpec.upto (s : _root_.Go.ChangeSpec) : _root_.Go.OpenSpec := { _root_.Go.OpenSpec.ofChange s with cond := some uptoSmall }

/-- 'aguadorlaw04.MixJudges', WHERE WHAT IT READS IS OF BULK AT MOST 1048576: true; the input reads as it did. -/
def mixJudgesUptoRow : OpenClaim := { program := "ythofngceiecniaagreat", sum := "ea4ebad51de6ccfd9f5963e0329c8fd854bb5cf61bbc477df13388de17b03b6e", func := "aguador/aguadorlaw04.MixJudges", spec := "mixJudges", unfollowed := true, recurses := true, plainKeys := false, apart := false, narrowed := true }
def MixJudgesUptoSaid : Prop := mixJudgesUptoRow.holds Tryz.pinned (OpenSpec.upto mixJudgesSpec)

/-- 'aguadorlaw04.MixSome', WHERE WHAT IT READS IS OF BULK AT MOST 1048576: true; the input reads as it did. -/
def mixSomeUptoRow : OpenClaim := { program := "ythofngceiecniaagreat", sum := "ea4ebad51de6ccfd9f5963e0329c8fd854bb5cf61bbc477df13388de17b03b6e", func := "aguador/aguadorlaw04.MixSome", spec := "mixSome", unfollowed := true, recurses := true, plainKeys := false, apart := false, narrowed := true }
def MixSomeUptoSaid : Prop := mixSomeUptoRow.holds Tryz.pinned (OpenSpec.upto mixSomeSpec)

/-- 'aguadorlaw04.MixExact', WHERE WHAT IT READS IS OF BULK AT MOST 1048576: true; the input reads as it did. -/
def mixExactUptoRow : OpenClaim := { program := "ythofngceiecniaagreat", sum := "ea4ebad51de6ccfd9f5963e0329c8fd854bb5cf61bbc477df13388de17b03b6e", func := "aguador/aguadorlaw04.MixExact", spec := "mixExact", unfollowed := true, recurses := true, plainKeys := false, apart := false, narrowed := true }
def MixExactUptoSaid : Prop := mixExactUptoRow.holds Tryz.pinned (OpenSpec.upto mixExactSpec)

/-- 'aguadorlaw04.MixMet', WHERE WHAT IT READS IS OF BULK AT MOST 1048576: true; the input reads as it did. -/
def mixMetUptoRow : OpenClaim := { program := "ythofngceiecniaagreat", sum := "ea4ebad51de6ccfd9f5963e0329c8fd854bb5cf61bbc477df13388de17b03b6e", func := "aguador/aguadorlaw04.MixMet", spec := "mixMet", unfollowed := true, recurses := true, plainKeys := false, apart := false, narrowed := true }
def MixMetUptoSaid : Prop := mixMetUptoRow.holds Tryz.pinned (OpenSpec.upto mixMetSpec)

/-- 'aguadorlaw04.MixPath', WHERE WHAT IT READS IS OF BULK AT MOST 1048576: true; the input reads as it did. -/
def mixPathUptoRow : OpenClaim := { program := "ythofngceiecniaagreat", sum := "ea4ebad51de6ccfd9f5963e0329c8fd854bb5cf61bbc477df13388de17b03b6e", func := "aguador/aguadorlaw04.MixPath", spec := "mixPath", unfollowed := true, recurses := true, plainKeys := false, apart := false, narrowed := true }
def MixPathUptoSaid : Prop := mixPathUptoRow.holds Tryz.pinned (OpenSpec.upto mixPathSpec)

/-- 'aguadorlaw04.MixWatch', WHERE WHAT IT READS IS OF BULK AT MOST 1048576: true; the input reads as it did. -/
def mixWatchUptoRow : OpenClaim := { program := "ythofngceiecniaagreat", sum := "ea4ebad51de6ccfd9f5963e0329c8fd854bb5cf61bbc477df13388de17b03b6e", func := "aguador/aguadorlaw04.MixWatch", spec := "mixWatch", unfollowed := true, recurses := true, plainKeys := false, apart := false, narrowed := true }
def MixWatchUptoSaid : Prop := mixWatchUptoRow.holds Tryz.pinned (OpenSpec.upto mixWatchSpec)

/-- 'aguadorlaw04.MixDrops', WHERE WHAT IT READS IS OF BULK AT MOST 1048576: true; the input reads as it did. -/
def mixDropsUptoRow : OpenClaim := { program := "ythofngceiecniaagreat", sum := "ea4ebad51de6ccfd9f5963e0329c8fd854bb5cf61bbc477df13388de17b03b6e", func := "aguador/aguadorlaw04.MixDrops", spec := "mixDrops", unfollowed := true, recurses := true, plainKeys := false, apart := false, narrowed := true }
def MixDropsUptoSaid : Prop := mixDropsUptoRow.holds Tryz.pinned (OpenSpec.upto mixDropsSpec)

/-- 'aguadorlaw04.MixMore', WHERE WHAT IT READS IS OF BULK AT MOST 1048576: true; the input reads as it did. -/
def mixMoreUptoRow : OpenClaim := { program := "ythofngceiecniaagreat", sum := "ea4ebad51de6ccfd9f5963e0329c8fd854bb5cf61bbc477df13388de17b03b6e", func := "aguador/aguadorlaw04.MixMore", spec := "mixMore", unfollowed := true, recurses := true, plainKeys := false, apart := false, narrowed := true }
def MixMoreUptoSaid : Prop := mixMoreUptoRow.holds Tryz.pinned (OpenSpec.upto mixMoreSpec)

/-- 'aguadorlaw04.MixWrong', WHERE WHAT IT READS IS OF BULK AT MOST 1048576: true; the input reads as it did. -/
def mixWrongUptoRow : OpenClaim := { program := "ythofngceiecniaagreat", sum := "ea4ebad51de6ccfd9f5963e0329c8fd854bb5cf61bbc477df13388de17b03b6e", func := "aguador/aguadorlaw04.MixWrong", spec := "mixWrong", unfollowed := true, recurses := true, plainKeys := false, apart := false, narrowed := true }
def MixWrongUptoSaid : Prop := mixWrongUptoRow.holds Tryz.pinned (OpenSpec.upto mixWrongSpec)

/-- 'aguadorlaw04.MixSafe', WHERE WHAT IT READS IS OF BULK AT MOST 1048576: true; the input reads as it did. -/
def mixSafeUptoRow : OpenClaim := { program := "ythofngceiecniaagreat", sum := "ea4ebad51de6ccfd9f5963e0329c8fd854bb5cf61bbc477df13388de17b03b6e", func := "aguador/aguadorlaw04.MixSafe", spec := "mixSafe", unfollowed := true, recurses := true, plainKeys := false, apart := false, narrowed := true }
def MixSafeUptoSaid : Prop := mixSafeUptoRow.holds Tryz.pinned (OpenSpec.upto mixSafeSpec)

/-- 'aguadorlaw04.MixExamples', WHERE WHAT IT READS IS OF BULK AT MOST 1048576: true; the input reads as it did. -/
def mixExamplesUptoRow : OpenClaim := { program := "ythofngceiecniaagreat", sum := "ea4ebad51de6ccfd9f5963e0329c8fd854bb5cf61bbc477df13388de17b03b6e", func := "aguador/aguadorlaw04.MixExamples", spec := "mixExamples", unfollowed := true, recurses := true, plainKeys := false, apart := false, narrowed := true }
def MixExamplesUptoSaid : Prop := mixExamplesUptoRow.holds Tryz.pinned (OpenSpec.upto mixExamplesSpec)

end Rows
end Go.Proofs.YthofngceiecniaaGreat
