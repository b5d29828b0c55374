/-
  DERIVED. GIVEN WITH THE SEED: THE CARDS: each row of YtahkjagjcogeiaaDoorRows.lean that lists a variable, with what it lists TIED to the program's text (the seventh form; the later family's looks); each row that meets fmt, with fmt's text TOLD by the authors' own Lean function (tested against real Go, not proved from fmt's source: count such statements apart). THE CARD IS WHAT COUNTS. Prove the row's statement (the work); the ties are given (YtahkjagjcogeiaaDoorTie.lean); close each card by the builder's one call (the guide's Derived/Test/ToyasCard.lean, 'card_holds'). Laid BY PROGRAM, IN A SANDBOX (cutbox-door.mjs). By AI agents, Wed Nov 11 2026. No macro, syntax, notation, axiom, sorry.
-/
import Derived.Test.YtahkjagjcogeiaaDoorRows
import GoSem.ClaimSeven
namespace Go.Proofs.YtahkjagjcogeiaaDoor
namespace Rows

/-- THE TIED CARD OF 'aguadorlaw03.ClimbSkins'. -/
def climbSkinsCard : Claim7 := { stood := { row := climbSkinsRow, standIns := [], harness := (true, "35db601371cf4e3db72291b0fffac302dc4738302ccce79cad216ebd535e90b1"), looks := false }, kinds := [], alts := [], laidByText := true, laidKinds := [.funcs], laidTests := true, laidLooks := .later }
def ClimbSkinsCardSaid : Prop := Claim7.holds Tryd.pinned (.plain (OpenSpec.ofChange climbSkinsSpec)) climbSkinsCard

/-- THE TIED CARD OF 'aguadorlaw03.ClimbChanges'. -/
def climbChangesCard : Claim7 := { stood := { row := climbChangesRow, standIns := [], harness := (true, "35db601371cf4e3db72291b0fffac302dc4738302ccce79cad216ebd535e90b1"), looks := false }, kinds := [], alts := [], laidByText := true, laidKinds := [.funcs], laidTests := true, laidLooks := .later }
def ClimbChangesCardSaid : Prop := Claim7.holds Tryd.pinned (.plain (OpenSpec.ofChange climbChangesSpec)) climbChangesCard

/-- THE TIED CARD OF 'aguadorlaw03.ClimbNeeds'. -/
def climbNeedsCard : Claim7 := { stood := { row := climbNeedsRow, standIns := [], harness := (true, "35db601371cf4e3db72291b0fffac302dc4738302ccce79cad216ebd535e90b1"), looks := false }, kinds := [], alts := [], laidByText := true, laidKinds := [.funcs], laidTests := true, laidLooks := .later }
def ClimbNeedsCardSaid : Prop := Claim7.holds Tryd.pinned (.plain (OpenSpec.ofChange climbNeedsSpec)) climbNeedsCard

/-- THE TIED CARD OF 'aguadorlaw03.ClimbTimes'. -/
def climbTimesCard : Claim7 := { stood := { row := climbTimesRow, standIns := [], harness := (true, "35db601371cf4e3db72291b0fffac302dc4738302ccce79cad216ebd535e90b1"), looks := false }, kinds := [], alts := [], laidByText := true, laidKinds := [.funcs], laidTests := true, laidLooks := .later }
def ClimbTimesCardSaid : Prop := Claim7.holds Tryd.pinned (.plain (OpenSpec.ofChange climbTimesSpec)) climbTimesCard

/-- THE TIED CARD OF 'aguadorlaw03.ClimbWays'. -/
def climbWaysCard : Claim7 := { stood := { row := climbWaysRow, standIns := [], harness := (true, "35db601371cf4e3db72291b0fffac302dc4738302ccce79cad216ebd535e90b1"), looks := false }, kinds := [], alts := [], laidByText := true, laidKinds := [.funcs], laidTests := true, laidLooks := .later }
def ClimbWaysCardSaid : Prop := Claim7.holds Tryd.pinned (.plain (OpenSpec.ofChange climbWaysSpec)) climbWaysCard

/-- THE TIED CARD OF 'aguadorlaw03.ClimbRounds'. -/
def climbRoundsCard : Claim7 := { stood := { row := climbRoundsRow, standIns := [], harness := (true, "35db601371cf4e3db72291b0fffac302dc4738302ccce79cad216ebd535e90b1"), looks := false }, kinds := [], alts := [], laidByText := true, laidKinds := [.funcs], laidTests := true, laidLooks := .later }
def ClimbRoundsCardSaid : Prop := Claim7.holds Tryd.pinned (.plain (OpenSpec.ofChange climbRoundsSpec)) climbRoundsCard

/-- THE SECOND FORM's CARD OF 'aguadorlaw03.ClimbSkins'. -/
def climbSkinsUptoCard : Claim7 := { stood := { row := climbSkinsUptoRow, standIns := [], harness := (true, "35db601371cf4e3db72291b0fffac302dc4738302ccce79cad216ebd535e90b1"), looks := false }, kinds := [], alts := [], laidByText := true, laidKinds := [.funcs], laidTests := true, laidLooks := .later }
def ClimbSkinsUptoCardSaid : Prop := Claim7.holds Tryd.pinned (.plain (OpenSpec.upto climbSkinsSpec)) climbSkinsUptoCard

/-- THE SECOND FORM's CARD OF 'aguadorlaw03.ClimbChanges'. -/
def climbChangesUptoCard : Claim7 := { stood := { row := climbChangesUptoRow, standIns := [], harness := (true, "35db601371cf4e3db72291b0fffac302dc4738302ccce79cad216ebd535e90b1"), looks := false }, kinds := [], alts := [], laidByText := true, laidKinds := [.funcs], laidTests := true, laidLooks := .later }
def ClimbChangesUptoCardSaid : Prop := Claim7.holds Tryd.pinned (.plain (OpenSpec.upto climbChangesSpec)) climbChangesUptoCard

/-- THE SECOND FORM's CARD OF 'aguadorlaw03.ClimbNeeds'. -/
def climbNeedsUptoCard : Claim7 := { stood := { row := climbNeedsUptoRow, standIns := [], harness := (true, "35db601371cf4e3db72291b0fffac302dc4738302ccce79cad216ebd535e90b1"), looks := false }, kinds := [], alts := [], laidByText := true, laidKinds := [.funcs], laidTests := true, laidLooks := .later }
def ClimbNeedsUptoCardSaid : Prop := Claim7.holds Tryd.pinned (.plain (OpenSpec.upto climbNeedsSpec)) climbNeedsUptoCard

/-- THE SECOND FORM's CARD OF 'aguadorlaw03.ClimbTimes'. -/
def climbTimesUptoCard : Claim7 := { stood := { row := climbTimesUptoRow, standIns := [], harness := (true, "35db601371cf4e3db72291b0fffac302dc4738302ccce79cad216ebd535e90b1"), looks := false }, kinds := [], alts := [], laidByText := true, laidKinds := [.funcs], laidTests := true, laidLooks := .later }
def ClimbTimesUptoCardSaid : Prop := Claim7.holds Tryd.pinned (.plain (OpenSpec.upto climbTimesSpec)) climbTimesUptoCard

/-- THE SECOND FORM's CARD OF 'aguadorlaw03.ClimbWays'. -/
def climbWaysUptoCard : Claim7 := { stood := { row := climbWaysUptoRow, standIns := [], harness := (true, "35db601371cf4e3db72291b0fffac302dc4738302ccce79cad216ebd535e90b1"), looks := false }, kinds := [], alts := [], laidByText := true, laidKinds := [.funcs], laidTests := true, laidLooks := .later }
def ClimbWaysUptoCardSaid : Prop := Claim7.holds Tryd.pinned (.plain (OpenSpec.upto climbWaysSpec)) climbWaysUptoCard

/-- THE SECOND FORM's CARD OF 'aguadorlaw03.ClimbRounds'. -/
def climbRoundsUptoCard : Claim7 := { stood := { row := climbRoundsUptoRow, standIns := [], harness := (true, "35db601371cf4e3db72291b0fffac302dc4738302ccce79cad216ebd535e90b1"), looks := false }, kinds := [], alts := [], laidByText := true, laidKinds := [.funcs], laidTests := true, laidLooks := .later }
def ClimbRoundsUptoCardSaid : Prop := Claim7.holds Tryd.pinned (.plain (OpenSpec.upto climbRoundsSpec)) climbRoundsUptoCard
end Rows
end Go.Proofs.YtahkjagjcogeiaaDoor
