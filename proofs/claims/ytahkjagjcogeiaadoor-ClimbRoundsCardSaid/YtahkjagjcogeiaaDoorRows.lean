/-
  NARROWER THAN 'FOR EVERY INPUT', by the rows' own cells (each row's printed sentence says how): ClimbSkins: laid · ClimbChanges: laid · ClimbNeeds: laid · ClimbTimes: laid · ClimbWays: laid · ClimbRounds: laid.
  DERIVED. THE GIVEN ROWS OF THIS SEAT. 6 by the template 'for every input the law returns true; each argument reads behind the call as it read before'; 0 by the template 'total and deterministic' (their statements: YtahkjagjcogeiaaDoorTotals.lean).
  GIVEN WITH THE SEED: the statements are not yours to turn. If you find one false, say at which input.
  Laid BY PROGRAM, IN A SANDBOX (cutbox-rows.mjs): the forced cells as the released guide's own fill.sh prints them over the translation cfda141fb33b0665… (all of the seat's roots in one cut). By AI agents, Wed Nov 11 2026. No macro, syntax, notation, axiom, sorry.
-/
import Derived.Test.YtahkjagjcogeiaaDoorChecked
import GoSem.Claim
import GoSem.ClaimJoined
import GoSem.ClaimMapViews
import Derived.JoinedTies
import Derived.KernelRfl
namespace Go.Proofs.YtahkjagjcogeiaaDoor
/- THE CELL 'sum', in the pinned program and in every row, IS THE sha256 OF THE DUMP (.gsa) THAT YtahkjagjcogeiaaDoorProg.lean LOADS. Nothing in Lean hashes anything: it is a label: what it is worth is what the hold of that sum in a sandbox is worth. -/
noncomputable def Tryd.pinned : Pinned := { name := "ytahkjagjcogeiaadoor", sum := "cfda141fb33b0665e8ea34d2172a9536ddad72d8d73677c72c3de0f3511fe7a7", checked := Tryd.checked }
namespace Rows
def none {H : Type} : Left H := { results := [], args := [] }

/- WHAT THE LISTED PACKAGE-LEVEL VARIABLES READ AS WHEN THE CALL BEGINS. Each datum BY PROGRAM (the guide's laid-datum.mjs) off the statement by which the dump's own 'gosem.cut.vars' lays the variable. In a bare row this is a premise. The card (YtahkjagjcogeiaaDoorCards.lean) ties it to the program's text. -/
def laid_aguador_climb_checks {H : Type} : DataW H := .iface "func table" (.agg [.agg [.iface "func" (.lit (.string [97, 103, 117, 97, 100, 111, 114, 47, 99, 108, 105, 109, 98, 46, 99, 104, 101, 99, 107, 115, 36, 49]))], .agg [.iface "func" (.lit (.string [97, 103, 117, 97, 100, 111, 114, 47, 99, 108, 105, 109, 98, 46, 99, 104, 101, 99, 107, 115, 36, 50]))], .agg [.iface "func" (.lit (.string [97, 103, 117, 97, 100, 111, 114, 47, 99, 108, 105, 109, 98, 46, 99, 104, 101, 99, 107, 115, 36, 51]))]])

/-- 'aguadorlaw03.ClimbSkins': WHATEVER THE INPUT: true; the input reads as it did. -/
def climbSkinsSpec : ChangeSpec := { name := "climbSkins", fn := fun _ => fun
  | [d1, d2, d3, d4, d5, d6] => { results := [.lit (.bool true)], args := [d1, d2, d3, d4, d5, d6] }
  | _ => none }
def climbSkinsRow : OpenClaim := { program := "ytahkjagjcogeiaadoor", sum := "cfda141fb33b0665e8ea34d2172a9536ddad72d8d73677c72c3de0f3511fe7a7", func := "aguador/aguadorlaw03.ClimbSkins", spec := "climbSkins", unfollowed := true, recurses := true, named := ["aguador/climb.checks"], plainKeys := false, apart := false, laid := [("aguador/climb.checks", laid_aguador_climb_checks)] }
def ClimbSkinsSaid : Prop := climbSkinsRow.holds Tryd.pinned (OpenSpec.ofChange climbSkinsSpec)

/-- ITS FALSE NEIGHBOUR: 'it returns false'. Refute it at one input. -/
def climbSkinsWrong : ChangeSpec := { name := "climbSkins", fn := fun _ => fun
  | [d1, d2, d3, d4, d5, d6] => { results := [.lit (.bool false)], args := [d1, d2, d3, d4, d5, d6] }
  | _ => none }
def ClimbSkinsWrongFalsely : Prop := climbSkinsRow.holds Tryd.pinned (OpenSpec.ofChange climbSkinsWrong)

/-- 'aguadorlaw03.ClimbChanges': WHATEVER THE INPUT: true; the input reads as it did. -/
def climbChangesSpec : ChangeSpec := { name := "climbChanges", fn := fun _ => fun
  | [d1, d2, d3] => { results := [.lit (.bool true)], args := [d1, d2, d3] }
  | _ => none }
def climbChangesRow : OpenClaim := { program := "ytahkjagjcogeiaadoor", sum := "cfda141fb33b0665e8ea34d2172a9536ddad72d8d73677c72c3de0f3511fe7a7", func := "aguador/aguadorlaw03.ClimbChanges", spec := "climbChanges", inPlace := ["slices.overlaps[aguador/api.Link]"], unfollowed := true, recurses := true, named := ["aguador/climb.checks"], plainKeys := false, apart := false, laid := [("aguador/climb.checks", laid_aguador_climb_checks)] }
def ClimbChangesSaid : Prop := climbChangesRow.holds Tryd.pinned (OpenSpec.ofChange climbChangesSpec)

/-- ITS FALSE NEIGHBOUR: 'it returns false'. Refute it at one input. -/
def climbChangesWrong : ChangeSpec := { name := "climbChanges", fn := fun _ => fun
  | [d1, d2, d3] => { results := [.lit (.bool false)], args := [d1, d2, d3] }
  | _ => none }
def ClimbChangesWrongFalsely : Prop := climbChangesRow.holds Tryd.pinned (OpenSpec.ofChange climbChangesWrong)

/-- 'aguadorlaw03.ClimbNeeds': WHATEVER THE INPUT: true; the input reads as it did. -/
def climbNeedsSpec : ChangeSpec := { name := "climbNeeds", fn := fun _ => fun
  | [d1, d2, d3, d4] => { results := [.lit (.bool true)], args := [d1, d2, d3, d4] }
  | _ => none }
def climbNeedsRow : OpenClaim := { program := "ytahkjagjcogeiaadoor", sum := "cfda141fb33b0665e8ea34d2172a9536ddad72d8d73677c72c3de0f3511fe7a7", func := "aguador/aguadorlaw03.ClimbNeeds", spec := "climbNeeds", unfollowed := true, recurses := true, named := ["aguador/climb.checks"], plainKeys := false, apart := false, laid := [("aguador/climb.checks", laid_aguador_climb_checks)] }
def ClimbNeedsSaid : Prop := climbNeedsRow.holds Tryd.pinned (OpenSpec.ofChange climbNeedsSpec)

/-- ITS FALSE NEIGHBOUR: 'it returns false'. Refute it at one input. -/
def climbNeedsWrong : ChangeSpec := { name := "climbNeeds", fn := fun _ => fun
  | [d1, d2, d3, d4] => { results := [.lit (.bool false)], args := [d1, d2, d3, d4] }
  | _ => none }
def ClimbNeedsWrongFalsely : Prop := climbNeedsRow.holds Tryd.pinned (OpenSpec.ofChange climbNeedsWrong)

/-- 'aguadorlaw03.ClimbTimes': WHATEVER THE INPUT: true; the input reads as it did. -/
def climbTimesSpec : ChangeSpec := { name := "climbTimes", fn := fun _ => fun
  | [d1, d2, d3, d4, d5, d6] => { results := [.lit (.bool true)], args := [d1, d2, d3, d4, d5, d6] }
  | _ => none }
def climbTimesRow : OpenClaim := { program := "ytahkjagjcogeiaadoor", sum := "cfda141fb33b0665e8ea34d2172a9536ddad72d8d73677c72c3de0f3511fe7a7", func := "aguador/aguadorlaw03.ClimbTimes", spec := "climbTimes", unfollowed := true, recurses := true, named := ["aguador/climb.checks"], plainKeys := false, apart := false, laid := [("aguador/climb.checks", laid_aguador_climb_checks)] }
def ClimbTimesSaid : Prop := climbTimesRow.holds Tryd.pinned (OpenSpec.ofChange climbTimesSpec)

/-- ITS FALSE NEIGHBOUR: 'it returns false'. Refute it at one input. -/
def climbTimesWrong : ChangeSpec := { name := "climbTimes", fn := fun _ => fun
  | [d1, d2, d3, d4, d5, d6] => { results := [.lit (.bool false)], args := [d1, d2, d3, d4, d5, d6] }
  | _ => none }
def ClimbTimesWrongFalsely : Prop := climbTimesRow.holds Tryd.pinned (OpenSpec.ofChange climbTimesWrong)

/-- 'aguadorlaw03.ClimbWays': WHATEVER THE INPUT: true; the input reads as it did. -/
def climbWaysSpec : ChangeSpec := { name := "climbWays", fn := fun _ => fun
  | [d1, d2, d3, d4, d5] => { results := [.lit (.bool true)], args := [d1, d2, d3, d4, d5] }
  | _ => none }
def climbWaysRow : OpenClaim := { program := "ytahkjagjcogeiaadoor", sum := "cfda141fb33b0665e8ea34d2172a9536ddad72d8d73677c72c3de0f3511fe7a7", func := "aguador/aguadorlaw03.ClimbWays", spec := "climbWays", unfollowed := true, recurses := true, named := ["aguador/climb.checks"], plainKeys := false, apart := false, laid := [("aguador/climb.checks", laid_aguador_climb_checks)] }
def ClimbWaysSaid : Prop := climbWaysRow.holds Tryd.pinned (OpenSpec.ofChange climbWaysSpec)

/-- ITS FALSE NEIGHBOUR: 'it returns false'. Refute it at one input. -/
def climbWaysWrong : ChangeSpec := { name := "climbWays", fn := fun _ => fun
  | [d1, d2, d3, d4, d5] => { results := [.lit (.bool false)], args := [d1, d2, d3, d4, d5] }
  | _ => none }
def ClimbWaysWrongFalsely : Prop := climbWaysRow.holds Tryd.pinned (OpenSpec.ofChange climbWaysWrong)

/-- 'aguadorlaw03.ClimbRounds': WHATEVER THE INPUT: true; the input reads as it did. -/
def climbRoundsSpec : ChangeSpec := { name := "climbRounds", fn := fun _ => fun
  | [d1, d2, d3, d4] => { results := [.lit (.bool true)], args := [d1, d2, d3, d4] }
  | _ => none }
def climbRoundsRow : OpenClaim := { program := "ytahkjagjcogeiaadoor", sum := "cfda141fb33b0665e8ea34d2172a9536ddad72d8d73677c72c3de0f3511fe7a7", func := "aguador/aguadorlaw03.ClimbRounds", spec := "climbRounds", unfollowed := true, recurses := true, named := ["aguador/climb.checks"], plainKeys := false, apart := false, laid := [("aguador/climb.checks", laid_aguador_climb_checks)] }
def ClimbRoundsSaid : Prop := climbRoundsRow.holds Tryd.pinned (OpenSpec.ofChange climbRoundsSpec)

/-- ITS FALSE NEIGHBOUR: 'it returns false'. Refute it at one input. -/
def climbRoundsWrong : ChangeSpec := { name := "climbRounds", fn := fun _ => fun
  | [d1, d2, d3, d4] => { results := [.lit (.bool false)], args := [d1, d2, d3, d4] }
  | _ => none }
def ClimbRoundsWrongFalsely : Prop := climbRoundsRow.holds Tryd.pinned (OpenSpec.ofChange climbRoundsWrong)

/- THE SECOND FORM. 'bulk': how many values and letters a reading holds, each counted each time it is reached (what is shared counts as often as it is met; a slice's spare places count too). A statement '..UptoSaid' is the law's where the arguments, and the package variables that the reading takes, are together of bulk at most 1048576: NARROWER than '..Said'. Prove '..Said' where nothing that the law and all that it calls make is longer than what came in: it says more and counts as full. Else prove '..UptoSaid'. A law counts once. -/
mutual
def uptoBulk {H : Type} : DataW H → Nat
  | .lit (.string bytes) => bytes.length + 1
  | .lit _ => 1
  | .nil => 1
  | .ptr d => uptoBulk d + 1
  | .slice elems spare => uptoBulkAll elems + uptoBulkAll spare + 1
  | .agg parts => uptoBulkAll parts + 1
  | .iface _ d => uptoBulk d + 1
  | .map entries => uptoBulkEntries entries + 1
  | .held _ => 1
def uptoBulkAll {H : Type} : List (DataW H) → Nat
  | [] => 0
  | d :: r => uptoBulk d + uptoBulkAll r
def uptoBulkEntries {H : Type} : List (Lit × DataW H) → Nat
  | [] => 0
  | x :: r => uptoBulkEntry x + uptoBulkEntries r
def uptoBulkEntry {H : Type} : Lit × DataW H → Nat
  | (.string bytes, d) => bytes.length + uptoBulk d + 1
  | (_, d) => uptoBulk d + 1
 end
def uptoSmall : (H : Type) → List (DataW H) → Bool := fun _ ds => decide (uptoBulkAll ds ≤ 1048576)
def OpenSpec.upto (s : _root_.Go.ChangeSpec) : _root_.Go.OpenSpec := { _root_.Go.OpenSpec.ofChange s with cond := some uptoSmall }

/-- 'aguadorlaw03.ClimbSkins', WHERE WHAT IT READS IS OF BULK AT MOST 1048576: true; the input reads as it did. -/
def climbSkinsUptoRow : OpenClaim := { program := "ytahkjagjcogeiaadoor", sum := "cfda141fb33b0665e8ea34d2172a9536ddad72d8d73677c72c3de0f3511fe7a7", func := "aguador/aguadorlaw03.ClimbSkins", spec := "climbSkins", unfollowed := true, recurses := true, named := ["aguador/climb.checks"], plainKeys := false, apart := false, laid := [("aguador/climb.checks", laid_aguador_climb_checks)], narrowed := true }
def ClimbSkinsUptoSaid : Prop := climbSkinsUptoRow.holds Tryd.pinned (OpenSpec.upto climbSkinsSpec)

/-- 'aguadorlaw03.ClimbChanges', WHERE WHAT IT READS IS OF BULK AT MOST 1048576: true; the input reads as it did. -/
def climbChangesUptoRow : OpenClaim := { program := "ytahkjagjcogeiaadoor", sum := "cfda141fb33b0665e8ea34d2172a9536ddad72d8d73677c72c3de0f3511fe7a7", func := "aguador/aguadorlaw03.ClimbChanges", spec := "climbChanges", inPlace := ["slices.overlaps[aguador/api.Link]"], unfollowed := true, recurses := true, named := ["aguador/climb.checks"], plainKeys := false, apart := false, laid := [("aguador/climb.checks", laid_aguador_climb_checks)], narrowed := true }
def ClimbChangesUptoSaid : Prop := climbChangesUptoRow.holds Tryd.pinned (OpenSpec.upto climbChangesSpec)

/-- 'aguadorlaw03.ClimbNeeds', WHERE WHAT IT READS IS OF BULK AT MOST 1048576: true; the input reads as it did. -/
def climbNeedsUptoRow : OpenClaim := { program := "ytahkjagjcogeiaadoor", sum := "cfda141fb33b0665e8ea34d2172a9536ddad72d8d73677c72c3de0f3511fe7a7", func := "aguador/aguadorlaw03.ClimbNeeds", spec := "climbNeeds", unfollowed := true, recurses := true, named := ["aguador/climb.checks"], plainKeys := false, apart := false, laid := [("aguador/climb.checks", laid_aguador_climb_checks)], narrowed := true }
def ClimbNeedsUptoSaid : Prop := climbNeedsUptoRow.holds Tryd.pinned (OpenSpec.upto climbNeedsSpec)

/-- 'aguadorlaw03.ClimbTimes', WHERE WHAT IT READS IS OF BULK AT MOST 1048576: true; the input reads as it did. -/
def climbTimesUptoRow : OpenClaim := { program := "ytahkjagjcogeiaadoor", sum := "cfda141fb33b0665e8ea34d2172a9536ddad72d8d73677c72c3de0f3511fe7a7", func := "aguador/aguadorlaw03.ClimbTimes", spec := "climbTimes", unfollowed := true, recurses := true, named := ["aguador/climb.checks"], plainKeys := false, apart := false, laid := [("aguador/climb.checks", laid_aguador_climb_checks)], narrowed := true }
def ClimbTimesUptoSaid : Prop := climbTimesUptoRow.holds Tryd.pinned (OpenSpec.upto climbTimesSpec)

/-- 'aguadorlaw03.ClimbWays', WHERE WHAT IT READS IS OF BULK AT MOST 1048576: true; the input reads as it did. -/
def climbWaysUptoRow : OpenClaim := { program := "ytahkjagjcogeiaadoor", sum := "cfda141fb33b0665e8ea34d2172a9536ddad72d8d73677c72c3de0f3511fe7a7", func := "aguador/aguadorlaw03.ClimbWays", spec := "climbWays", unfollowed := true, recurses := true, named := ["aguador/climb.checks"], plainKeys := false, apart := false, laid := [("aguador/climb.checks", laid_aguador_climb_checks)], narrowed := true }
def ClimbWaysUptoSaid : Prop := climbWaysUptoRow.holds Tryd.pinned (OpenSpec.upto climbWaysSpec)

/-- 'aguadorlaw03.ClimbRounds', WHERE WHAT IT READS IS OF BULK AT MOST 1048576: true; the input reads as it did. -/
def climbRoundsUptoRow : OpenClaim := { program := "ytahkjagjcogeiaadoor", sum := "cfda141fb33b0665e8ea34d2172a9536ddad72d8d73677c72c3de0f3511fe7a7", func := "aguador/aguadorlaw03.ClimbRounds", spec := "climbRounds", unfollowed := true, recurses := true, named := ["aguador/climb.checks"], plainKeys := false, apart := false, laid := [("aguador/climb.checks", laid_aguador_climb_checks)], narrowed := true }
def ClimbRoundsUptoSaid : Prop := climbRoundsUptoRow.holds Tryd.pinned (OpenSpec.upto climbRoundsSpec)

end Rows
end Go.Proofs.YtahkjagjcogeiaaDoor
