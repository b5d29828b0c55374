/-
  DERIVED. GIVEN WITH THE SEED: THE CARDS: each row of YtahkjagjcogeiaaGreatDoorRows.lean that lists a variable, with what it lists TIED to the program's text (the seventh form; the later family's looks); each row that meets fmt, with fmt's text TOLD by the authors' own Lean function (tested against real Go, not proved from fmt's source: count such statements apart). THE CARD IS WHAT COUNTS. Prove the row's statement (the work); the ties are given (YtahkjagjcogeiaaGreatDoorTie.lean); close each card by the builder's one call (the guide's Derived/Test/ToyasCard.lean, 'card_holds'). Laid BY PROGRAM, IN A SANDBOX (cutbox-door.mjs). By AI agents, Wed Nov 11 2026. No macro, syntax, notation, axiom, sorry.
-/
import Derived.Test.YtahkjagjcogeiaaGreatDoorRows
import GoSem.ClaimSeven
namespace Go.Proofs.YtahkjagjcogeiaaGreatDoor
namespace Rows

/-- THE TIED CARD OF 'aguadorlaw03.ClimbBest'. -/
def climbBestCard : Claim7 := { stood := { row := climbBestRow, standIns := [], harness := (true, "67de833af213194507c31c05b7184ea255bc0890cd487a2a5aea99d39e4477e7"), looks := false }, kinds := [], alts := [], laidByText := true, laidKinds := [.funcs], laidTests := true, laidLooks := .later }
def ClimbBestCardSaid : Prop := Claim7.holds Tryz.pinned (.plain (OpenSpec.ofChange climbBestSpec)) climbBestCard

/-- THE TIED CARD OF 'aguadorlaw03.ClimbBetween'. -/
def climbBetweenCard : Claim7 := { stood := { row := climbBetweenRow, standIns := [], harness := (true, "67de833af213194507c31c05b7184ea255bc0890cd487a2a5aea99d39e4477e7"), looks := false }, kinds := [], alts := [], laidByText := true, laidKinds := [.funcs], laidTests := true, laidLooks := .later }
def ClimbBetweenCardSaid : Prop := Claim7.holds Tryz.pinned (.plain (OpenSpec.ofChange climbBetweenSpec)) climbBetweenCard

/-- THE TIED CARD OF 'aguadorlaw03.ClimbNeed'. -/
def climbNeedCard : Claim7 := { stood := { row := climbNeedRow, standIns := [], harness := (true, "67de833af213194507c31c05b7184ea255bc0890cd487a2a5aea99d39e4477e7"), looks := false }, kinds := [], alts := [], laidByText := true, laidKinds := [.funcs], laidTests := true, laidLooks := .later }
def ClimbNeedCardSaid : Prop := Claim7.holds Tryz.pinned (.plain (OpenSpec.ofChange climbNeedSpec)) climbNeedCard

/-- THE TIED CARD OF 'aguadorlaw03.ClimbRound'. -/
def climbRoundCard : Claim7 := { stood := { row := climbRoundRow, standIns := [], harness := (true, "67de833af213194507c31c05b7184ea255bc0890cd487a2a5aea99d39e4477e7"), looks := false }, kinds := [], alts := [], laidByText := true, laidKinds := [.funcs], laidTests := true, laidLooks := .later }
def ClimbRoundCardSaid : Prop := Claim7.holds Tryz.pinned (.plain (OpenSpec.ofChange climbRoundSpec)) climbRoundCard

/-- THE TIED CARD OF 'aguadorlaw03.ClimbWet'. -/
def climbWetCard : Claim7 := { stood := { row := climbWetRow, standIns := [], harness := (true, "67de833af213194507c31c05b7184ea255bc0890cd487a2a5aea99d39e4477e7"), looks := false }, kinds := [], alts := [], laidByText := true, laidKinds := [.funcs], laidTests := true, laidLooks := .later }
def ClimbWetCardSaid : Prop := Claim7.holds Tryz.pinned (.plain (OpenSpec.ofChange climbWetSpec)) climbWetCard

/-- THE TIED CARD OF 'aguadorlaw03.ClimbQuick'. -/
def climbQuickCard : Claim7 := { stood := { row := climbQuickRow, standIns := [], harness := (true, "67de833af213194507c31c05b7184ea255bc0890cd487a2a5aea99d39e4477e7"), looks := false }, kinds := [], alts := [], laidByText := true, laidKinds := [.funcs], laidTests := true, laidLooks := .later }
def ClimbQuickCardSaid : Prop := Claim7.holds Tryz.pinned (.plain (OpenSpec.ofChange climbQuickSpec)) climbQuickCard

/-- THE TIED CARD OF 'aguadorlaw03.ClimbSums'. -/
def climbSumsCard : Claim7 := { stood := { row := climbSumsRow, standIns := [], harness := (true, "67de833af213194507c31c05b7184ea255bc0890cd487a2a5aea99d39e4477e7"), looks := false }, kinds := [], alts := [], laidByText := true, laidKinds := [.funcs], laidTests := true, laidLooks := .later }
def ClimbSumsCardSaid : Prop := Claim7.holds Tryz.pinned (.plain (OpenSpec.ofChange climbSumsSpec)) climbSumsCard

/-- THE TIED CARD OF 'aguadorlaw03.ClimbExamples'. -/
def climbExamplesCard : Claim7 := { stood := { row := climbExamplesRow, standIns := [], harness := (true, "67de833af213194507c31c05b7184ea255bc0890cd487a2a5aea99d39e4477e7"), looks := false }, kinds := [], alts := [], laidByText := true, laidKinds := [.funcs], laidTests := true, laidLooks := .later }
def ClimbExamplesCardSaid : Prop := Claim7.holds Tryz.pinned (.plain (OpenSpec.ofChange climbExamplesSpec)) climbExamplesCard

/-- THE TIED CARD OF 'aguadorlaw03.ClimbMore'. -/
def climbMoreCard : Claim7 := { stood := { row := climbMoreRow, standIns := [], harness := (true, "67de833af213194507c31c05b7184ea255bc0890cd487a2a5aea99d39e4477e7"), looks := false }, kinds := [], alts := [], laidByText := true, laidKinds := [.funcs], laidTests := true, laidLooks := .later }
def ClimbMoreCardSaid : Prop := Claim7.holds Tryz.pinned (.plain (OpenSpec.ofChange climbMoreSpec)) climbMoreCard

/-- THE TIED CARD OF 'aguadorlaw03.ClimbClosed'. -/
def climbClosedCard : Claim7 := { stood := { row := climbClosedRow, standIns := [], harness := (true, "67de833af213194507c31c05b7184ea255bc0890cd487a2a5aea99d39e4477e7"), looks := false }, kinds := [], alts := [], laidByText := true, laidKinds := [.funcs], laidTests := true, laidLooks := .later }
def ClimbClosedCardSaid : Prop := Claim7.holds Tryz.pinned (.plain (OpenSpec.ofChange climbClosedSpec)) climbClosedCard

/-- THE SECOND FORM's CARD OF 'aguadorlaw03.ClimbBest'. -/
def climbBestUptoCard : Claim7 := { stood := { row := climbBestUptoRow, standIns := [], harness := (true, "67de833af213194507c31c05b7184ea255bc0890cd487a2a5aea99d39e4477e7"), looks := false }, kinds := [], alts := [], laidByText := true, laidKinds := [.funcs], laidTests := true, laidLooks := .later }
def ClimbBestUptoCardSaid : Prop := Claim7.holds Tryz.pinned (.plain (OpenSpec.upto climbBestSpec)) climbBestUptoCard

/-- THE SECOND FORM's CARD OF 'aguadorlaw03.ClimbBetween'. -/
def climbBetweenUptoCard : Claim7 := { stood := { row := climbBetweenUptoRow, standIns := [], harness := (true, "67de833af213194507c31c05b7184ea255bc0890cd487a2a5aea99d39e4477e7"), looks := false }, kinds := [], alts := [], laidByText := true, laidKinds := [.funcs], laidTests := true, laidLooks := .later }
def ClimbBetweenUptoCardSaid : Prop := Claim7.holds Tryz.pinned (.plain (OpenSpec.upto climbBetweenSpec)) climbBetweenUptoCard

/-- THE SECOND FORM's CARD OF 'aguadorlaw03.ClimbNeed'. -/
def climbNeedUptoCard : Claim7 := { stood := { row := climbNeedUptoRow, standIns := [], harness := (true, "67de833af213194507c31c05b7184ea255bc0890cd487a2a5aea99d39e4477e7"), looks := false }, kinds := [], alts := [], laidByText := true, laidKinds := [.funcs], laidTests := true, laidLooks := .later }
def ClimbNeedUptoCardSaid : Prop := Claim7.holds Tryz.pinned (.plain (OpenSpec.upto climbNeedSpec)) climbNeedUptoCard

/-- THE SECOND FORM's CARD OF 'aguadorlaw03.ClimbRound'. -/
def climbRoundUptoCard : Claim7 := { stood := { row := climbRoundUptoRow, standIns := [], harness := (true, "67de833af213194507c31c05b7184ea255bc0890cd487a2a5aea99d39e4477e7"), looks := false }, kinds := [], alts := [], laidByText := true, laidKinds := [.funcs], laidTests := true, laidLooks := .later }
def ClimbRoundUptoCardSaid : Prop := Claim7.holds Tryz.pinned (.plain (OpenSpec.upto climbRoundSpec)) climbRoundUptoCard

/-- THE SECOND FORM's CARD OF 'aguadorlaw03.ClimbWet'. -/
def climbWetUptoCard : Claim7 := { stood := { row := climbWetUptoRow, standIns := [], harness := (true, "67de833af213194507c31c05b7184ea255bc0890cd487a2a5aea99d39e4477e7"), looks := false }, kinds := [], alts := [], laidByText := true, laidKinds := [.funcs], laidTests := true, laidLooks := .later }
def ClimbWetUptoCardSaid : Prop := Claim7.holds Tryz.pinned (.plain (OpenSpec.upto climbWetSpec)) climbWetUptoCard

/-- THE SECOND FORM's CARD OF 'aguadorlaw03.ClimbQuick'. -/
def climbQuickUptoCard : Claim7 := { stood := { row := climbQuickUptoRow, standIns := [], harness := (true, "67de833af213194507c31c05b7184ea255bc0890cd487a2a5aea99d39e4477e7"), looks := false }, kinds := [], alts := [], laidByText := true, laidKinds := [.funcs], laidTests := true, laidLooks := .later }
def ClimbQuickUptoCardSaid : Prop := Claim7.holds Tryz.pinned (.plain (OpenSpec.upto climbQuickSpec)) climbQuickUptoCard

/-- THE SECOND FORM's CARD OF 'aguadorlaw03.ClimbSums'. -/
def climbSumsUptoCard : Claim7 := { stood := { row := climbSumsUptoRow, standIns := [], harness := (true, "67de833af213194507c31c05b7184ea255bc0890cd487a2a5aea99d39e4477e7"), looks := false }, kinds := [], alts := [], laidByText := true, laidKinds := [.funcs], laidTests := true, laidLooks := .later }
def ClimbSumsUptoCardSaid : Prop := Claim7.holds Tryz.pinned (.plain (OpenSpec.upto climbSumsSpec)) climbSumsUptoCard

/-- THE SECOND FORM's CARD OF 'aguadorlaw03.ClimbExamples'. -/
def climbExamplesUptoCard : Claim7 := { stood := { row := climbExamplesUptoRow, standIns := [], harness := (true, "67de833af213194507c31c05b7184ea255bc0890cd487a2a5aea99d39e4477e7"), looks := false }, kinds := [], alts := [], laidByText := true, laidKinds := [.funcs], laidTests := true, laidLooks := .later }
def ClimbExamplesUptoCardSaid : Prop := Claim7.holds Tryz.pinned (.plain (OpenSpec.upto climbExamplesSpec)) climbExamplesUptoCard

/-- THE SECOND FORM's CARD OF 'aguadorlaw03.ClimbMore'. -/
def climbMoreUptoCard : Claim7 := { stood := { row := climbMoreUptoRow, standIns := [], harness := (true, "67de833af213194507c31c05b7184ea255bc0890cd487a2a5aea99d39e4477e7"), looks := false }, kinds := [], alts := [], laidByText := true, laidKinds := [.funcs], laidTests := true, laidLooks := .later }
def ClimbMoreUptoCardSaid : Prop := Claim7.holds Tryz.pinned (.plain (OpenSpec.upto climbMoreSpec)) climbMoreUptoCard

/-- THE SECOND FORM's CARD OF 'aguadorlaw03.ClimbClosed'. -/
def climbClosedUptoCard : Claim7 := { stood := { row := climbClosedUptoRow, standIns := [], harness := (true, "67de833af213194507c31c05b7184ea255bc0890cd487a2a5aea99d39e4477e7"), looks := false }, kinds := [], alts := [], laidByText := true, laidKinds := [.funcs], laidTests := true, laidLooks := .later }
def ClimbClosedUptoCardSaid : Prop := Claim7.holds Tryz.pinned (.plain (OpenSpec.upto climbClosedSpec)) climbClosedUptoCard
end Rows
end Go.Proofs.YtahkjagjcogeiaaGreatDoor
