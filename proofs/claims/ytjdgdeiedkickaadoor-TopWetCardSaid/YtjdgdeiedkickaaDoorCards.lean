/-
  DERIVED. GIVEN WITH THE SEED: THE CARDS: each row of YtjdgdeiedkickaaDoorRows.lean that lists a variable, with what it lists TIED to the program's text (the seventh form; the later family's looks); each row that meets fmt, with fmt's text TOLD by the authors' own Lean function (tested against real Go, not proved from fmt's source: count such statements apart). THE CARD IS WHAT COUNTS. Prove the row's statement (the work); the ties are given (YtjdgdeiedkickaaDoorTie.lean); close each card by the builder's one call (the guide's Derived/Test/ToyasCard.lean, 'card_holds'). Laid BY PROGRAM, IN A SANDBOX (cutbox-door.mjs). By AI agents, Wed Nov 11 2026. No macro, syntax, notation, axiom, sorry.
-/
import Derived.Test.YtjdgdeiedkickaaDoorRows
import GoSem.ClaimSeven
namespace Go.Proofs.YtjdgdeiedkickaaDoor
namespace Rows

/-- THE TIED CARD OF 'aguadortop.TopWet'. -/
def topWetCard : Claim7 := { stood := { row := topWetRow, standIns := [], harness := (true, "eaf7db457487fb1e267765823c70781e76770ccfb846c64bbb3989069861e2cc"), looks := false }, kinds := [], alts := [], laidByText := true, laidKinds := [.funcs], laidTests := true, laidLooks := .later }
def TopWetCardSaid : Prop := Claim7.holds Tryd.pinned (.plain (OpenSpec.ofChange topWetSpec)) topWetCard

/-- THE SECOND FORM's CARD OF 'aguadortop.TopWet'. -/
def topWetUptoCard : Claim7 := { stood := { row := topWetUptoRow, standIns := [], harness := (true, "eaf7db457487fb1e267765823c70781e76770ccfb846c64bbb3989069861e2cc"), looks := false }, kinds := [], alts := [], laidByText := true, laidKinds := [.funcs], laidTests := true, laidLooks := .later }
def TopWetUptoCardSaid : Prop := Claim7.holds Tryd.pinned (.plain (OpenSpec.upto topWetSpec)) topWetUptoCard
end Rows
end Go.Proofs.YtjdgdeiedkickaaDoor
