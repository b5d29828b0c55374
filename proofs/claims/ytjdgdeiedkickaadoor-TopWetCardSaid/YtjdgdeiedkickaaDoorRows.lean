/-
  NARROWER THAN 'FOR EVERY INPUT', by the rows' own cells (each row's printed sentence says how): TopWet: laid.
  DERIVED. THE GIVEN ROWS OF THIS SEAT. 1 by the template 'for every input the law returns true; each argument reads behind the call as it read before'; 0 by the template 'total and deterministic' (their statements: YtjdgdeiedkickaaDoorTotals.lean).
  GIVEN WITH THE SEED: the statements are not yours to turn. If you find one false, say at which input.
  Laid BY PROGRAM, IN A SANDBOX (cutbox-rows.mjs): the forced cells as the released guide's own fill.sh prints them over the translation 14be0a3baa32bc13… (all of the seat's roots in one cut). By AI agents, Wed Nov 11 2026. No macro, syntax, notation, axiom, sorry.
-/
import Derived.Test.YtjdgdeiedkickaaDoorChecked
import GoSem.Claim
import GoSem.ClaimJoined
import GoSem.ClaimMapViews
import Derived.JoinedTies
import Derived.KernelRfl
namespace Go.Proofs.YtjdgdeiedkickaaDoor
/- THE CELL 'sum', in the pinned program and in every row, IS THE sha256 OF THE DUMP (.gsa) THAT YtjdgdeiedkickaaDoorProg.lean LOADS. Nothing in Lean hashes anything: it is a label: what it is worth is what the hold of that sum in a sandbox is worth. -/
noncomputable def Tryd.pinned : Pinned := { name := "ytjdgdeiedkickaadoor", sum := "14be0a3baa32bc13aa3c91ba8115bd47167908a62174ca752933fb9eb6b15dac", checked := Tryd.checked }
namespace Rows
def none {H : Type} : Left H := { results := [], args := [] }

/- WHAT THE LISTED PACKAGE-LEVEL VARIABLES READ AS WHEN THE CALL BEGINS. Each datum BY PROGRAM (the guide's laid-datum.mjs) off the statement by which the dump's own 'gosem.cut.vars' lays the variable. In a bare row this is a premise. The card (YtjdgdeiedkickaaDoorCards.lean) ties it to the program's text. -/
def laid_aguador_climb_checks {H : Type} : DataW H := .iface "func table" (.agg [.agg [.iface "func" (.lit (.string [97, 103, 117, 97, 100, 111, 114, 47, 99, 108, 105, 109, 98, 46, 99, 104, 101, 99, 107, 115, 36, 49]))], .agg [.iface "func" (.lit (.string [97, 103, 117, 97, 100, 111, 114, 47, 99, 108, 105, 109, 98, 46, 99, 104, 101, 99, 107, 115, 36, 50]))], .agg [.iface "func" (.lit (.string [97, 103, 117, 97, 100, 111, 114, 47, 99, 108, 105, 109, 98, 46, 99, 104, 101, 99, 107, 115, 36, 51]))]])

/-- 'aguadortop.TopWet': WHATEVER THE INPUT: true; the input reads as it did. -/
def topWetSpec : ChangeSpec := { name := "topWet", fn := fun _ => fun
  | [d1, d2, d3, d4, d5, d6] => { results := [.lit (.bool true)], args := [d1, d2, d3, d4, d5, d6] }
  | _ => none }
def topWetRow : OpenClaim := { program := "ytjdgdeiedkickaadoor", sum := "14be0a3baa32bc13aa3c91ba8115bd47167908a62174ca752933fb9eb6b15dac", func := "aguador/aguadortop.TopWet", spec := "topWet", unfollowed := true, recurses := true, named := ["aguador/climb.checks"], plainKeys := false, apart := false, laid := [("aguador/climb.checks", laid_aguador_climb_checks)] }
def TopWetSaid : Prop := topWetRow.holds Tryd.pinned (OpenSpec.ofChange topWetSpec)

/-- ITS FALSE NEIGHBOUR: 'it returns false'. Refute it at one input. -/
def topWetWrong : ChangeSpec := { name := "topWet", fn := fun _ => fun
  | [d1, d2, d3, d4, d5, d6] => { results := [.lit (.bool false)], args := [d1, d2, d3, d4, d5, d6] }
  | _ => none }
def TopWetWrongFalsely : Prop := topWetRow.holds Tryd.pinned (OpenSpec.ofChange topWetWrong)

/- THE SECOND FORM. 'bulk': how many values and letters a reading holds, each counted each time it is reached (what is shared counts as often as it is met; a slice's spare places count too). A statement '..UptoSaid' is the law's where the arguments, and the package variables that the reading takes, are together of bulk at most 1048576: NARROWER than '..Said'. Prove '..Said' where nothing that the law and all that it calls make is longer than what came in: it says more and counts as full. Else prove '..UptoSaid'. A law counts once. -/
mutual
def uptoBulk {H : Type} : DataW H → Nat
  | .lit (.string bytes) => bytes.length + 1
  | .lit _ => 1
  | .nil => 1
  | .ptr d => uptoBulk d + 1
  | .slice elems spare => uptoBulkAll elems + uptoBulkAll spare + 1
  | .agg parts => uptoBulkAll parts + 1
  | .iface _ d => uptoBulk d + 1
  | .map entries => uptoBulkEntries entries + 1
  | .held _ => 1
def uptoBulkAll {H : Type} : List (DataW H) → Nat
  | [] => 0
  | d :: r => uptoBulk d + uptoBulkAll r
def uptoBulkEntries {H : Type} : List (Lit × DataW H) → Nat
  | [] => 0
  | x :: r => uptoBulkEntry x + uptoBulkEntries r
def uptoBulkEntry {H : Type} : Lit × DataW H → Nat
  | (.string bytes, d) => bytes.length + uptoBulk d + 1
  | (_, d) => uptoBulk d + 1
 end
def uptoSmall : (H : Type) → List (DataW H) → Bool := fun _ ds => decide (uptoBulkAll ds ≤ 1048576)
def OpenSpec.upto (s : _root_.Go.ChangeSpec) : _root_.Go.OpenSpec := { _root_.Go.OpenSpec.ofChange s with cond := some uptoSmall }

/-- 'aguadortop.TopWet', WHERE WHAT IT READS IS OF BULK AT MOST 1048576: true; the input reads as it did. -/
def topWetUptoRow : OpenClaim := { program := "ytjdgdeiedkickaadoor", sum := "14be0a3baa32bc13aa3c91ba8115bd47167908a62174ca752933fb9eb6b15dac", func := "aguador/aguadortop.TopWet", spec := "topWet", unfollowed := true, recurses := true, named := ["aguador/climb.checks"], plainKeys := false, apart := false, laid := [("aguador/climb.checks", laid_aguador_climb_checks)], narrowed := true }
def TopWetUptoSaid : Prop := topWetUptoRow.holds Tryd.pinned (OpenSpec.upto topWetSpec)

end Rows
end Go.Proofs.YtjdgdeiedkickaaDoor
