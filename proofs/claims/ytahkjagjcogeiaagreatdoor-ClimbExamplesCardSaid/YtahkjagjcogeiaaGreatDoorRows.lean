/-
  NARROWER THAN 'FOR EVERY INPUT', by the rows' own cells (each row's printed sentence says how): ClimbBest: laid · ClimbBetween: laid · ClimbNeed: laid · ClimbRound: laid · ClimbWet: laid · ClimbQuick: laid · ClimbSums: laid · ClimbExamples: laid · ClimbMore: laid · ClimbClosed: laid.
  DERIVED. THE GIVEN ROWS OF THIS SEAT. 10 by the template 'for every input the law returns true; each argument reads behind the call as it read before'; 0 by the template 'total and deterministic' (their statements: YtahkjagjcogeiaaGreatDoorTotals.lean).
  GIVEN WITH THE SEED: the statements are not yours to turn. If you find one false, say at which input.
  Laid BY PROGRAM, IN A SANDBOX (cutbox-rows.mjs): the forced cells as the released guide's own fill.sh prints them over the translation c991e3249944e9d9… (all of the seat's roots in one cut). By AI agents, Wed Nov 11 2026. No macro, syntax, notation, axiom, sorry.
-/
import Derived.Test.YtahkjagjcogeiaaGreatDoorChecked
import GoSem.Claim
import GoSem.ClaimJoined
import GoSem.ClaimMapViews
import Derived.JoinedTies
import Derived.KernelRfl
namespace Go.Proofs.YtahkjagjcogeiaaGreatDoor
/- THE CELL 'sum', in the pinned program and in every row, IS THE sha256 OF THE DUMP (.gsa) THAT YtahkjagjcogeiaaGreatDoorProg.lean LOADS. Nothing in Lean hashes anything: it is a label: what it is worth is what the hold of that sum in a sandbox is worth. -/
noncomputable def Tryz.pinned : Pinned := { name := "ytahkjagjcogeiaagreatdoor", sum := "c991e3249944e9d9a065e698d296eccfc3ca7431e076a7c47ce9ad2adaf6661b", checked := Tryz.checked }
namespace Rows
def none {H : Type} : Left H := { results := [], args := [] }

/- WHAT THE LISTED PACKAGE-LEVEL VARIABLES READ AS WHEN THE CALL BEGINS. Each datum BY PROGRAM (the guide's laid-datum.mjs) off the statement by which the dump's own 'gosem.cut.vars' lays the variable. In a bare row this is a premise. The card (YtahkjagjcogeiaaGreatDoorCards.lean) ties it to the program's text. -/
def laid_aguador_climb_checks {H : Type} : DataW H := .iface "func table" (.agg [.agg [.iface "func" (.lit (.string [97, 103, 117, 97, 100, 111, 114, 47, 99, 108, 105, 109, 98, 46, 99, 104, 101, 99, 107, 115, 36, 49]))], .agg [.iface "func" (.lit (.string [97, 103, 117, 97, 100, 111, 114, 47, 99, 108, 105, 109, 98, 46, 99, 104, 101, 99, 107, 115, 36, 50]))], .agg [.iface "func" (.lit (.string [97, 103, 117, 97, 100, 111, 114, 47, 99, 108, 105, 109, 98, 46, 99, 104, 101, 99, 107, 115, 36, 51]))]])

/-- 'aguadorlaw03.ClimbBest': WHATEVER THE INPUT: true; the input reads as it did. -/
def climbBestSpec : ChangeSpec := { name := "climbBest", fn := fun _ => fun
  | [d1, d2, d3, d4, d5] => { results := [.lit (.bool true)], args := [d1, d2, d3, d4, d5] }
  | _ => none }
def climbBestRow : OpenClaim := { program := "ytahkjagjcogeiaagreatdoor", sum := "c991e3249944e9d9a065e698d296eccfc3ca7431e076a7c47ce9ad2adaf6661b", func := "aguador/aguadorlaw03.ClimbBest", spec := "climbBest", unfollowed := true, recurses := true, named := ["aguador/climb.checks"], plainKeys := false, apart := false, laid := [("aguador/climb.checks", laid_aguador_climb_checks)] }
def ClimbBestSaid : Prop := climbBestRow.holds Tryz.pinned (OpenSpec.ofChange climbBestSpec)

/-- ITS FALSE NEIGHBOUR: 'it returns false'. Refute it at one input. -/
def climbBestWrong : ChangeSpec := { name := "climbBest", fn := fun _ => fun
  | [d1, d2, d3, d4, d5] => { results := [.lit (.bool false)], args := [d1, d2, d3, d4, d5] }
  | _ => none }
def ClimbBestWrongFalsely : Prop := climbBestRow.holds Tryz.pinned (OpenSpec.ofChange climbBestWrong)

/-- 'aguadorlaw03.ClimbBetween': WHATEVER THE INPUT: true; the input reads as it did. -/
def climbBetweenSpec : ChangeSpec := { name := "climbBetween", fn := fun _ => fun
  | [d1, d2, d3, d4, d5, d6] => { results := [.lit (.bool true)], args := [d1, d2, d3, d4, d5, d6] }
  | _ => none }
def climbBetweenRow : OpenClaim := { program := "ytahkjagjcogeiaagreatdoor", sum := "c991e3249944e9d9a065e698d296eccfc3ca7431e076a7c47ce9ad2adaf6661b", func := "aguador/aguadorlaw03.ClimbBetween", spec := "climbBetween", unfollowed := true, recurses := true, named := ["aguador/climb.checks"], plainKeys := false, apart := false, laid := [("aguador/climb.checks", laid_aguador_climb_checks)] }
def ClimbBetweenSaid : Prop := climbBetweenRow.holds Tryz.pinned (OpenSpec.ofChange climbBetweenSpec)

/-- ITS FALSE NEIGHBOUR: 'it returns false'. Refute it at one input. -/
def climbBetweenWrong : ChangeSpec := { name := "climbBetween", fn := fun _ => fun
  | [d1, d2, d3, d4, d5, d6] => { results := [.lit (.bool false)], args := [d1, d2, d3, d4, d5, d6] }
  | _ => none }
def ClimbBetweenWrongFalsely : Prop := climbBetweenRow.holds Tryz.pinned (OpenSpec.ofChange climbBetweenWrong)

/-- 'aguadorlaw03.ClimbNeed': WHATEVER THE INPUT: true; the input reads as it did. -/
def climbNeedSpec : ChangeSpec := { name := "climbNeed", fn := fun _ => fun
  | [d1, d2, d3, d4, d5, d6, d7] => { results := [.lit (.bool true)], args := [d1, d2, d3, d4, d5, d6, d7] }
  | _ => none }
def climbNeedRow : OpenClaim := { program := "ytahkjagjcogeiaagreatdoor", sum := "c991e3249944e9d9a065e698d296eccfc3ca7431e076a7c47ce9ad2adaf6661b", func := "aguador/aguadorlaw03.ClimbNeed", spec := "climbNeed", unfollowed := true, recurses := true, named := ["aguador/climb.checks"], plainKeys := false, apart := false, laid := [("aguador/climb.checks", laid_aguador_climb_checks)] }
def ClimbNeedSaid : Prop := climbNeedRow.holds Tryz.pinned (OpenSpec.ofChange climbNeedSpec)

/-- ITS FALSE NEIGHBOUR: 'it returns false'. Refute it at one input. -/
def climbNeedWrong : ChangeSpec := { name := "climbNeed", fn := fun _ => fun
  | [d1, d2, d3, d4, d5, d6, d7] => { results := [.lit (.bool false)], args := [d1, d2, d3, d4, d5, d6, d7] }
  | _ => none }
def ClimbNeedWrongFalsely : Prop := climbNeedRow.holds Tryz.pinned (OpenSpec.ofChange climbNeedWrong)

/-- 'aguadorlaw03.ClimbRound': WHATEVER THE INPUT: true; the input reads as it did. -/
def climbRoundSpec : ChangeSpec := { name := "climbRound", fn := fun _ => fun
  | [d1, d2, d3, d4, d5] => { results := [.lit (.bool true)], args := [d1, d2, d3, d4, d5] }
  | _ => none }
def climbRoundRow : OpenClaim := { program := "ytahkjagjcogeiaagreatdoor", sum := "c991e3249944e9d9a065e698d296eccfc3ca7431e076a7c47ce9ad2adaf6661b", func := "aguador/aguadorlaw03.ClimbRound", spec := "climbRound", unfollowed := true, recurses := true, named := ["aguador/climb.checks"], plainKeys := false, apart := false, laid := [("aguador/climb.checks", laid_aguador_climb_checks)] }
def ClimbRoundSaid : Prop := climbRoundRow.holds Tryz.pinned (OpenSpec.ofChange climbRoundSpec)

/-- ITS FALSE NEIGHBOUR: 'it returns false'. Refute it at one input. -/
def climbRoundWrong : ChangeSpec := { name := "climbRound", fn := fun _ => fun
  | [d1, d2, d3, d4, d5] => { results := [.lit (.bool false)], args := [d1, d2, d3, d4, d5] }
  | _ => none }
def ClimbRoundWrongFalsely : Prop := climbRoundRow.holds Tryz.pinned (OpenSpec.ofChange climbRoundWrong)

/-- 'aguadorlaw03.ClimbWet': WHATEVER THE INPUT: true; the input reads as it did. -/
def climbWetSpec : ChangeSpec := { name := "climbWet", fn := fun _ => fun
  | [d1, d2, d3, d4, d5, d6] => { results := [.lit (.bool true)], args := [d1, d2, d3, d4, d5, d6] }
  | _ => none }
def climbWetRow : OpenClaim := { program := "ytahkjagjcogeiaagreatdoor", sum := "c991e3249944e9d9a065e698d296eccfc3ca7431e076a7c47ce9ad2adaf6661b", func := "aguador/aguadorlaw03.ClimbWet", spec := "climbWet", unfollowed := true, recurses := true, named := ["aguador/climb.checks"], plainKeys := false, apart := false, laid := [("aguador/climb.checks", laid_aguador_climb_checks)] }
def ClimbWetSaid : Prop := climbWetRow.holds Tryz.pinned (OpenSpec.ofChange climbWetSpec)

/-- ITS FALSE NEIGHBOUR: 'it returns false'. Refute it at one input. -/
def climbWetWrong : ChangeSpec := { name := "climbWet", fn := fun _ => fun
  | [d1, d2, d3, d4, d5, d6] => { results := [.lit (.bool false)], args := [d1, d2, d3, d4, d5, d6] }
  | _ => none }
def ClimbWetWrongFalsely : Prop := climbWetRow.holds Tryz.pinned (OpenSpec.ofChange climbWetWrong)

/-- 'aguadorlaw03.ClimbQuick': WHATEVER THE INPUT: true; the input reads as it did. -/
def climbQuickSpec : ChangeSpec := { name := "climbQuick", fn := fun _ => fun
  | [d1, d2, d3, d4, d5, d6] => { results := [.lit (.bool true)], args := [d1, d2, d3, d4, d5, d6] }
  | _ => none }
def climbQuickRow : OpenClaim := { program := "ytahkjagjcogeiaagreatdoor", sum := "c991e3249944e9d9a065e698d296eccfc3ca7431e076a7c47ce9ad2adaf6661b", func := "aguador/aguadorlaw03.ClimbQuick", spec := "climbQuick", unfollowed := true, recurses := true, named := ["aguador/climb.checks"], plainKeys := false, apart := false, laid := [("aguador/climb.checks", laid_aguador_climb_checks)] }
def ClimbQuickSaid : Prop := climbQuickRow.holds Tryz.pinned (OpenSpec.ofChange climbQuickSpec)

/-- ITS FALSE NEIGHBOUR: 'it returns false'. Refute it at one input. -/
def climbQuickWrong : ChangeSpec := { name := "climbQuick", fn := fun _ => fun
  | [d1, d2, d3, d4, d5, d6] => { results := [.lit (.bool false)], args := [d1, d2, d3, d4, d5, d6] }
  | _ => none }
def ClimbQuickWrongFalsely : Prop := climbQuickRow.holds Tryz.pinned (OpenSpec.ofChange climbQuickWrong)

/-- 'aguadorlaw03.ClimbSums': WHATEVER THE INPUT: true; the input reads as it did. -/
def climbSumsSpec : ChangeSpec := { name := "climbSums", fn := fun _ => fun
  | [d1, d2, d3, d4, d5, d6] => { results := [.lit (.bool true)], args := [d1, d2, d3, d4, d5, d6] }
  | _ => none }
def climbSumsRow : OpenClaim := { program := "ytahkjagjcogeiaagreatdoor", sum := "c991e3249944e9d9a065e698d296eccfc3ca7431e076a7c47ce9ad2adaf6661b", func := "aguador/aguadorlaw03.ClimbSums", spec := "climbSums", unfollowed := true, recurses := true, named := ["aguador/climb.checks"], plainKeys := false, apart := false, laid := [("aguador/climb.checks", laid_aguador_climb_checks)] }
def ClimbSumsSaid : Prop := climbSumsRow.holds Tryz.pinned (OpenSpec.ofChange climbSumsSpec)

/-- ITS FALSE NEIGHBOUR: 'it returns false'. Refute it at one input. -/
def climbSumsWrong : ChangeSpec := { name := "climbSums", fn := fun _ => fun
  | [d1, d2, d3, d4, d5, d6] => { results := [.lit (.bool false)], args := [d1, d2, d3, d4, d5, d6] }
  | _ => none }
def ClimbSumsWrongFalsely : Prop := climbSumsRow.holds Tryz.pinned (OpenSpec.ofChange climbSumsWrong)

/-- 'aguadorlaw03.ClimbExamples': WHATEVER THE INPUT: true; the input reads as it did. -/
def climbExamplesSpec : ChangeSpec := { name := "climbExamples", fn := fun _ => fun
  | [] => { results := [.lit (.bool true)], args := [] }
  | _ => none }
def climbExamplesRow : OpenClaim := { program := "ytahkjagjcogeiaagreatdoor", sum := "c991e3249944e9d9a065e698d296eccfc3ca7431e076a7c47ce9ad2adaf6661b", func := "aguador/aguadorlaw03.ClimbExamples", spec := "climbExamples", inPlace := ["slices.overlaps[aguador/api.Link]"], unfollowed := true, recurses := true, named := ["aguador/climb.checks"], plainKeys := false, apart := false, laid := [("aguador/climb.checks", laid_aguador_climb_checks)] }
def ClimbExamplesSaid : Prop := climbExamplesRow.holds Tryz.pinned (OpenSpec.ofChange climbExamplesSpec)

/-- ITS FALSE NEIGHBOUR: 'it returns false'. Refute it at one input. -/
def climbExamplesWrong : ChangeSpec := { name := "climbExamples", fn := fun _ => fun
  | [] => { results := [.lit (.bool false)], args := [] }
  | _ => none }
def ClimbExamplesWrongFalsely : Prop := climbExamplesRow.holds Tryz.pinned (OpenSpec.ofChange climbExamplesWrong)

/-- 'aguadorlaw03.ClimbMore': WHATEVER THE INPUT: true; the input reads as it did. -/
def climbMoreSpec : ChangeSpec := { name := "climbMore", fn := fun _ => fun
  | [d1, d2, d3, d4, d5, d6] => { results := [.lit (.bool true)], args := [d1, d2, d3, d4, d5, d6] }
  | _ => none }
def climbMoreRow : OpenClaim := { program := "ytahkjagjcogeiaagreatdoor", sum := "c991e3249944e9d9a065e698d296eccfc3ca7431e076a7c47ce9ad2adaf6661b", func := "aguador/aguadorlaw03.ClimbMore", spec := "climbMore", inPlace := ["slices.overlaps[aguador/api.Link]"], unfollowed := true, recurses := true, named := ["aguador/climb.checks"], plainKeys := false, apart := false, laid := [("aguador/climb.checks", laid_aguador_climb_checks)] }
def ClimbMoreSaid : Prop := climbMoreRow.holds Tryz.pinned (OpenSpec.ofChange climbMoreSpec)

/-- ITS FALSE NEIGHBOUR: 'it returns false'. Refute it at one input. -/
def climbMoreWrong : ChangeSpec := { name := "climbMore", fn := fun _ => fun
  | [d1, d2, d3, d4, d5, d6] => { results := [.lit (.bool false)], args := [d1, d2, d3, d4, d5, d6] }
  | _ => none }
def ClimbMoreWrongFalsely : Prop := climbMoreRow.holds Tryz.pinned (OpenSpec.ofChange climbMoreWrong)

/-- 'aguadorlaw03.ClimbClosed': WHATEVER THE INPUT: true; the input reads as it did. -/
def climbClosedSpec : ChangeSpec := { name := "climbClosed", fn := fun _ => fun
  | [d1, d2, d3, d4, d5] => { results := [.lit (.bool true)], args := [d1, d2, d3, d4, d5] }
  | _ => none }
def climbClosedRow : OpenClaim := { program := "ytahkjagjcogeiaagreatdoor", sum := "c991e3249944e9d9a065e698d296eccfc3ca7431e076a7c47ce9ad2adaf6661b", func := "aguador/aguadorlaw03.ClimbClosed", spec := "climbClosed", inPlace := ["slices.overlaps[aguador/api.Link]"], unfollowed := true, recurses := true, named := ["aguador/climb.checks"], plainKeys := false, apart := false, laid := [("aguador/climb.checks", laid_aguador_climb_checks)] }
def ClimbClosedSaid : Prop := climbClosedRow.holds Tryz.pinned (OpenSpec.ofChange climbClosedSpec)

/-- ITS FALSE NEIGHBOUR: 'it returns false'. Refute it at one input. -/
def climbClosedWrong : ChangeSpec := { name := "climbClosed", fn := fun _ => fun
  | [d1, d2, d3, d4, d5] => { results := [.lit (.bool false)], args := [d1, d2, d3, d4, d5] }
  | _ => none }
def ClimbClosedWrongFalsely : Prop := climbClosedRow.holds Tryz.pinned (OpenSpec.ofChange climbClosedWrong)

/- THE SECOND FORM. 'bulk': how many values and letters a reading holds, each counted each time it is reached (what is shared counts as often as it is met; a slice's spare places count too). A statement '..UptoSaid' is the law's where the arguments, and the package variables that the reading takes, are together of bulk at most 1048576: NARROWER than '..Said'. Prove '..Said' where nothing that the law and all that it calls make is longer than what came in: it says more and counts as full. Else prove '..UptoSaid'. A law counts once. -/
mutual
def uptoBulk {H : Type} : DataW H → Nat
  | .lit (.string bytes) => bytes.length + 1
  | .lit _ => 1
  | .nil => 1
  | .ptr d => uptoBulk d + 1
  | .slice elems spare => uptoBulkAll elems + uptoBulkAll spare + 1
  | .agg parts => uptoBulkAll parts + 1
  | .iface _ d => uptoBulk d + 1
  | .map entries => uptoBulkEntries entries + 1
  | .held _ => 1
def uptoBulkAll {H : Type} : List (DataW H) → Nat
  | [] => 0
  | d :: r => uptoBulk d + uptoBulkAll r
def uptoBulkEntries {H : Type} : List (Lit × DataW H) → Nat
  | [] => 0
  | x :: r => uptoBulkEntry x + uptoBulkEntries r
def uptoBulkEntry {H : Type} : Lit × DataW H → Nat
  | (.string bytes, d) => bytes.length + uptoBulk d + 1
  | (_, d) => uptoBulk d + 1
 end
def uptoSmall : (H : Type) → List (DataW H) → Bool := fun _ ds => decide (uptoBulkAll ds ≤ 1048576)
def OpenSpec.upto (s : _root_.Go.ChangeSpec) : _root_.Go.OpenSpec := { _root_.Go.OpenSpec.ofChange s with cond := some uptoSmall }

/-- 'aguadorlaw03.ClimbBest', WHERE WHAT IT READS IS OF BULK AT MOST 1048576: true; the input reads as it did. -/
def climbBestUptoRow : OpenClaim := { program := "ytahkjagjcogeiaagreatdoor", sum := "c991e3249944e9d9a065e698d296eccfc3ca7431e076a7c47ce9ad2adaf6661b", func := "aguador/aguadorlaw03.ClimbBest", spec := "climbBest", unfollowed := true, recurses := true, named := ["aguador/climb.checks"], plainKeys := false, apart := false, laid := [("aguador/climb.checks", laid_aguador_climb_checks)], narrowed := true }
def ClimbBestUptoSaid : Prop := climbBestUptoRow.holds Tryz.pinned (OpenSpec.upto climbBestSpec)

/-- 'aguadorlaw03.ClimbBetween', WHERE WHAT IT READS IS OF BULK AT MOST 1048576: true; the input reads as it did. -/
def climbBetweenUptoRow : OpenClaim := { program := "ytahkjagjcogeiaagreatdoor", sum := "c991e3249944e9d9a065e698d296eccfc3ca7431e076a7c47ce9ad2adaf6661b", func := "aguador/aguadorlaw03.ClimbBetween", spec := "climbBetween", unfollowed := true, recurses := true, named := ["aguador/climb.checks"], plainKeys := false, apart := false, laid := [("aguador/climb.checks", laid_aguador_climb_checks)], narrowed := true }
def ClimbBetweenUptoSaid : Prop := climbBetweenUptoRow.holds Tryz.pinned (OpenSpec.upto climbBetweenSpec)

/-- 'aguadorlaw03.ClimbNeed', WHERE WHAT IT READS IS OF BULK AT MOST 1048576: true; the input reads as it did. -/
def climbNeedUptoRow : OpenClaim := { program := "ytahkjagjcogeiaagreatdoor", sum := "c991e3249944e9d9a065e698d296eccfc3ca7431e076a7c47ce9ad2adaf6661b", func := "aguador/aguadorlaw03.ClimbNeed", spec := "climbNeed", unfollowed := true, recurses := true, named := ["aguador/climb.checks"], plainKeys := false, apart := false, laid := [("aguador/climb.checks", laid_aguador_climb_checks)], narrowed := true }
def ClimbNeedUptoSaid : Prop := climbNeedUptoRow.holds Tryz.pinned (OpenSpec.upto climbNeedSpec)

/-- 'aguadorlaw03.ClimbRound', WHERE WHAT IT READS IS OF BULK AT MOST 1048576: true; the input reads as it did. -/
def climbRoundUptoRow : OpenClaim := { program := "ytahkjagjcogeiaagreatdoor", sum := "c991e3249944e9d9a065e698d296eccfc3ca7431e076a7c47ce9ad2adaf6661b", func := "aguador/aguadorlaw03.ClimbRound", spec := "climbRound", unfollowed := true, recurses := true, named := ["aguador/climb.checks"], plainKeys := false, apart := false, laid := [("aguador/climb.checks", laid_aguador_climb_checks)], narrowed := true }
def ClimbRoundUptoSaid : Prop := climbRoundUptoRow.holds Tryz.pinned (OpenSpec.upto climbRoundSpec)

/-- 'aguadorlaw03.ClimbWet', WHERE WHAT IT READS IS OF BULK AT MOST 1048576: true; the input reads as it did. -/
def climbWetUptoRow : OpenClaim := { program := "ytahkjagjcogeiaagreatdoor", sum := "c991e3249944e9d9a065e698d296eccfc3ca7431e076a7c47ce9ad2adaf6661b", func := "aguador/aguadorlaw03.ClimbWet", spec := "climbWet", unfollowed := true, recurses := true, named := ["aguador/climb.checks"], plainKeys := false, apart := false, laid := [("aguador/climb.checks", laid_aguador_climb_checks)], narrowed := true }
def ClimbWetUptoSaid : Prop := climbWetUptoRow.holds Tryz.pinned (OpenSpec.upto climbWetSpec)

/-- 'aguadorlaw03.ClimbQuick', WHERE WHAT IT READS IS OF BULK AT MOST 1048576: true; the input reads as it did. -/
def climbQuickUptoRow : OpenClaim := { program := "ytahkjagjcogeiaagreatdoor", sum := "c991e3249944e9d9a065e698d296eccfc3ca7431e076a7c47ce9ad2adaf6661b", func := "aguador/aguadorlaw03.ClimbQuick", spec := "climbQuick", unfollowed := true, recurses := true, named := ["aguador/climb.checks"], plainKeys := false, apart := false, laid := [("aguador/climb.checks", laid_aguador_climb_checks)], narrowed := true }
def ClimbQuickUptoSaid : Prop := climbQuickUptoRow.holds Tryz.pinned (OpenSpec.upto climbQuickSpec)

/-- 'aguadorlaw03.ClimbSums', WHERE WHAT IT READS IS OF BULK AT MOST 1048576: true; the input reads as it did. -/
def climbSumsUptoRow : OpenClaim := { program := "ytahkjagjcogeiaagreatdoor", sum := "c991e3249944e9d9a065e698d296eccfc3ca7431e076a7c47ce9ad2adaf6661b", func := "aguador/aguadorlaw03.ClimbSums", spec := "climbSums", unfollowed := true, recurses := true, named := ["aguador/climb.checks"], plainKeys := false, apart := false, laid := [("aguador/climb.checks", laid_aguador_climb_checks)], narrowed := true }
def ClimbSumsUptoSaid : Prop := climbSumsUptoRow.holds Tryz.pinned (OpenSpec.upto climbSumsSpec)

/-- 'aguadorlaw03.ClimbExamples', WHERE WHAT IT READS IS OF BULK AT MOST 1048576: true; the input reads as it did. -/
def climbExamplesUptoRow : OpenClaim := { program := "ytahkjagjcogeiaagreatdoor", sum := "c991e3249944e9d9a065e698d296eccfc3ca7431e076a7c47ce9ad2adaf6661b", func := "aguador/aguadorlaw03.ClimbExamples", spec := "climbExamples", inPlace := ["slices.overlaps[aguador/api.Link]"], unfollowed := true, recurses := true, named := ["aguador/climb.checks"], plainKeys := false, apart := false, laid := [("aguador/climb.checks", laid_aguador_climb_checks)], narrowed := true }
def ClimbExamplesUptoSaid : Prop := climbExamplesUptoRow.holds Tryz.pinned (OpenSpec.upto climbExamplesSpec)

/-- 'aguadorlaw03.ClimbMore', WHERE WHAT IT READS IS OF BULK AT MOST 1048576: true; the input reads as it did. -/
def climbMoreUptoRow : OpenClaim := { program := "ytahkjagjcogeiaagreatdoor", sum := "c991e3249944e9d9a065e698d296eccfc3ca7431e076a7c47ce9ad2adaf6661b", func := "aguador/aguadorlaw03.ClimbMore", spec := "climbMore", inPlace := ["slices.overlaps[aguador/api.Link]"], unfollowed := true, recurses := true, named := ["aguador/climb.checks"], plainKeys := false, apart := false, laid := [("aguador/climb.checks", laid_aguador_climb_checks)], narrowed := true }
def ClimbMoreUptoSaid : Prop := climbMoreUptoRow.holds Tryz.pinned (OpenSpec.upto climbMoreSpec)

/-- 'aguadorlaw03.ClimbClosed', WHERE WHAT IT READS IS OF BULK AT MOST 1048576: true; the input reads as it did. -/
def climbClosedUptoRow : OpenClaim := { program := "ytahkjagjcogeiaagreatdoor", sum := "c991e3249944e9d9a065e698d296eccfc3ca7431e076a7c47ce9ad2adaf6661b", func := "aguador/aguadorlaw03.ClimbClosed", spec := "climbClosed", inPlace := ["slices.overlaps[aguador/api.Link]"], unfollowed := true, recurses := true, named := ["aguador/climb.checks"], plainKeys := false, apart := false, laid := [("aguador/climb.checks", laid_aguador_climb_checks)], narrowed := true }
def ClimbClosedUptoSaid : Prop := climbClosedUptoRow.holds Tryz.pinned (OpenSpec.upto climbClosedSpec)

end Rows
end Go.Proofs.YtahkjagjcogeiaaGreatDoor
