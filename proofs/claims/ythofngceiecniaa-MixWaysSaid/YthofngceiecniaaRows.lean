/-
  No cell of these rows narrows 'for every input' (looked for: loops, veiled, ifaces, maps, wideKeys, modest, calm, conditions, laid).
  DERIVED. THE GIVEN ROWS OF THIS SEAT. 4 by the template 'for every input the law returns true; each argument reads behind the call as it read before'; 0 by the template 'total and deterministic' (their statements: YthofngceiecniaaTotals.lean).
  GIVEN WITH THE SEED: the statements are not yours to turn. If you find one false, say at which input.
  Laid BY PROGRAM, IN A SANDBOX (cutbox-rows.mjs): the forced cells as the released guide's own fill.sh prints them over the translation cbf5f21b48c6414c… (all of the seat's roots in one cut). By AI agents, Wed Nov 11 2026. No macro, syntax, notation, axiom, sorry.
-/
import Derived.Test.YthofngceiecniaaChecked
import GoSem.Claim
import GoSem.ClaimJoined
import GoSem.ClaimMapViews
import Derived.JoinedTies
import Derived.KernelRfl
namespace Go.Proofs.Ythofngceiecniaa
/- THE CELL 'sum', in the pinned program and in every row, IS THE sha256 OF THE DUMP (.gsa) THAT YthofngceiecniaaProg.lean LOADS. Nothing in Lean hashes anything: it is a label: what it is worth is what the hold of that sum in a sandbox is worth. -/
noncomputable def Try.pinned : Pinned := { name := "ythofngceiecniaa", sum := "cbf5f21b48c6414cc33d009189cfa7da4d2ac5ccb8875a5e07e6952a63228f31", checked := Try.checked }
namespace Rows
def none {H : Type} : Left H := { results := [], args := [] }

/-- 'aguadorlaw04.MixMoves': WHATEVER THE INPUT: true; the input reads as it did. -/
def mixMovesSpec : ChangeSpec := { name := "mixMoves", fn := fun _ => fun
  | [d1, d2, d3] => { results := [.lit (.bool true)], args := [d1, d2, d3] }
  | _ => none }
def mixMovesRow : OpenClaim := { program := "ythofngceiecniaa", sum := "cbf5f21b48c6414cc33d009189cfa7da4d2ac5ccb8875a5e07e6952a63228f31", func := "aguador/aguadorlaw04.MixMoves", spec := "mixMoves", unfollowed := true, recurses := true, plainKeys := false, apart := false }
def MixMovesSaid : Prop := mixMovesRow.holds Try.pinned (OpenSpec.ofChange mixMovesSpec)

/-- ITS FALSE NEIGHBOUR: 'it returns false'. Refute it at one input. -/
def mixMovesWrong : ChangeSpec := { name := "mixMoves", fn := fun _ => fun
  | [d1, d2, d3] => { results := [.lit (.bool false)], args := [d1, d2, d3] }
  | _ => none }
def MixMovesWrongFalsely : Prop := mixMovesRow.holds Try.pinned (OpenSpec.ofChange mixMovesWrong)

/-- 'aguadorlaw04.MixTells': WHATEVER THE INPUT: true; the input reads as it did. -/
def mixTellsSpec : ChangeSpec := { name := "mixTells", fn := fun _ => fun
  | [d1, d2, d3, d4] => { results := [.lit (.bool true)], args := [d1, d2, d3, d4] }
  | _ => none }
def mixTellsRow : OpenClaim := { program := "ythofngceiecniaa", sum := "cbf5f21b48c6414cc33d009189cfa7da4d2ac5ccb8875a5e07e6952a63228f31", func := "aguador/aguadorlaw04.MixTells", spec := "mixTells", unfollowed := true, recurses := true, plainKeys := false, apart := false }
def MixTellsSaid : Prop := mixTellsRow.holds Try.pinned (OpenSpec.ofChange mixTellsSpec)

/-- ITS FALSE NEIGHBOUR: 'it returns false'. Refute it at one input. -/
def mixTellsWrong : ChangeSpec := { name := "mixTells", fn := fun _ => fun
  | [d1, d2, d3, d4] => { results := [.lit (.bool false)], args := [d1, d2, d3, d4] }
  | _ => none }
def MixTellsWrongFalsely : Prop := mixTellsRow.holds Try.pinned (OpenSpec.ofChange mixTellsWrong)

/-- 'aguadorlaw04.MixWays': WHATEVER THE INPUT: true; the input reads as it did. -/
def mixWaysSpec : ChangeSpec := { name := "mixWays", fn := fun _ => fun
  | [d1, d2, d3, d4, d5] => { results := [.lit (.bool true)], args := [d1, d2, d3, d4, d5] }
  | _ => none }
def mixWaysRow : OpenClaim := { program := "ythofngceiecniaa", sum := "cbf5f21b48c6414cc33d009189cfa7da4d2ac5ccb8875a5e07e6952a63228f31", func := "aguador/aguadorlaw04.MixWays", spec := "mixWays", unfollowed := true, recurses := true, plainKeys := false, apart := false }
def MixWaysSaid : Prop := mixWaysRow.holds Try.pinned (OpenSpec.ofChange mixWaysSpec)

/-- ITS FALSE NEIGHBOUR: 'it returns false'. Refute it at one input. -/
def mixWaysWrong : ChangeSpec := { name := "mixWays", fn := fun _ => fun
  | [d1, d2, d3, d4, d5] => { results := [.lit (.bool false)], args := [d1, d2, d3, d4, d5] }
  | _ => none }
def MixWaysWrongFalsely : Prop := mixWaysRow.holds Try.pinned (OpenSpec.ofChange mixWaysWrong)

/-- 'aguadorlaw04.MixChanges': WHATEVER THE INPUT: true; the input reads as it did. -/
def mixChangesSpec : ChangeSpec := { name := "mixChanges", fn := fun _ => fun
  | [d1, d2, d3, d4] => { results := [.lit (.bool true)], args := [d1, d2, d3, d4] }
  | _ => none }
def mixChangesRow : OpenClaim := { program := "ythofngceiecniaa", sum := "cbf5f21b48c6414cc33d009189cfa7da4d2ac5ccb8875a5e07e6952a63228f31", func := "aguador/aguadorlaw04.MixChanges", spec := "mixChanges", unfollowed := true, recurses := true, plainKeys := false, apart := false }
def MixChangesSaid : Prop := mixChangesRow.holds Try.pinned (OpenSpec.ofChange mixChangesSpec)

/-- ITS FALSE NEIGHBOUR: 'it returns false'. Refute it at one input. -/
def mixChangesWrong : ChangeSpec := { name := "mixChanges", fn := fun _ => fun
  | [d1, d2, d3, d4] => { results := [.lit (.bool false)], args := [d1, d2, d3, d4] }
  | _ => none }
def MixChangesWrongFalsely : Prop := mixChangesRow.holds Try.pinned (OpenSpec.ofChange mixChangesWrong)

/- THE SECOND FORM. 'bulk': how many values and letters a reading holds, each counted each time it is reached (what is shared counts as often as it is met; a slice's spare places count too). A statement '..UptoSaid' is the law's where the arguments, and the package variables that the reading takes, are together of bulk at most 1048576: NARROWER than '..Said'. Prove '..Said' where nothing that the law and all that it calls make is longer than what came in: it says more and counts as full. Else prove '..UptoSaid'. A law counts once. -/
mutual
def uptoBulk {H : Type} : DataW H → Nat
  | .lit (.string bytes) => bytes.length + 1
  | .lit _ => 1
  | .nil => 1
  | .ptr d => uptoBulk d + 1
  | .slice elems spare => uptoBulkAll elems + uptoBulkAll spare + 1
  | .agg parts => uptoBulkAll parts + 1
  | .iface _ d => uptoBulk d + 1
  | .map entries => uptoBulkEntries entries + 1
  | .held _ => 1
def uptoBulkAll {H : Type} : List (DataW H) → Nat
  | [] => 0
  | d :: r => uptoBulk d + uptoBulkAll r
def uptoBulkEntries {H : Type} : List (Lit × DataW H) → Nat
  | [] => 0
  | x :: r => uptoBulkEntry x + uptoBulkEntries r
def uptoBulkEntry {H : Type} : Lit × DataW H → Nat
  | (.string bytes, d) => bytes.length + uptoBulk d + 1
  | (_, d) => uptoBulk d + 1
 end
def uptoSmall : (H : Type) → List (DataW H) → Bool := fun _ ds => decide (uptoBulkAll ds ≤ 1048576)
def OpenSpec.upto (s : _root_.Go.ChangeSpec) : _root_.Go.OpenSpec := { _root_.Go.OpenSpec.ofChange s with cond := some uptoSmall }

/-- 'aguadorlaw04.MixMoves', WHERE WHAT IT READS IS OF BULK AT MOST 1048576: true; the input reads as it did. -/
def mixMovesUptoRow : OpenClaim := { program := "ythofngceiecniaa", sum := "cbf5f21b48c6414cc33d009189cfa7da4d2ac5ccb8875a5e07e6952a63228f31", func := "aguador/aguadorlaw04.MixMoves", spec := "mixMoves", unfollowed := true, recurses := true, plainKeys := false, apart := false, narrowed := true }
def MixMovesUptoSaid : Prop := mixMovesUptoRow.holds Try.pinned (OpenSpec.upto mixMovesSpec)

/-- 'aguadorlaw04.MixTells', WHERE WHAT IT READS IS OF BULK AT MOST 1048576: true; the input reads as it did. -/
def mixTellsUptoRow : OpenClaim := { program := "ythofngceiecniaa", sum := "cbf5f21b48c6414cc33d009189cfa7da4d2ac5ccb8875a5e07e6952a63228f31", func := "aguador/aguadorlaw04.MixTells", spec := "mixTells", unfollowed := true, recurses := true, plainKeys := false, apart := false, narrowed := true }
def MixTellsUptoSaid : Prop := mixTellsUptoRow.holds Try.pinned (OpenSpec.upto mixTellsSpec)

/-- 'aguadorlaw04.MixWays', WHERE WHAT IT READS IS OF BULK AT MOST 1048576: true; the input reads as it did. -/
def mixWaysUptoRow : OpenClaim := { program := "ythofngceiecniaa", sum := "cbf5f21b48c6414cc33d009189cfa7da4d2ac5ccb8875a5e07e6952a63228f31", func := "aguador/aguadorlaw04.MixWays", spec := "mixWays", unfollowed := true, recurses := true, plainKeys := false, apart := false, narrowed := true }
def MixWaysUptoSaid : Prop := mixWaysUptoRow.holds Try.pinned (OpenSpec.upto mixWaysSpec)

/-- 'aguadorlaw04.MixChanges', WHERE WHAT IT READS IS OF BULK AT MOST 1048576: true; the input reads as it did. -/
def mixChangesUptoRow : OpenClaim := { program := "ythofngceiecniaa", sum := "cbf5f21b48c6414cc33d009189cfa7da4d2ac5ccb8875a5e07e6952a63228f31", func := "aguador/aguadorlaw04.MixChanges", spec := "mixChanges", unfollowed := true, recurses := true, plainKeys := false, apart := false, narrowed := true }
def MixChangesUptoSaid : Prop := mixChangesUptoRow.holds Try.pinned (OpenSpec.upto mixChangesSpec)

end Rows
end Go.Proofs.Ythofngceiecniaa
