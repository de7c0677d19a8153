/-
  DERIVED. GIVEN WITH THE SEED: THE CARDS: each row of YtfmbekdfigbfiaaDoorRows.lean that lists a variable, with what it lists TIED to the program's text (the seventh form; the later family's looks); each row that meets fmt, with fmt's text TOLD by the authors' own Lean function (tested against real Go, not proved from fmt's source: count such statements apart). THE CARD IS WHAT COUNTS. Prove the row's statement (the work); the ties are given (YtfmbekdfigbfiaaDoorTie.lean); close each card by the builder's one call (the guide's Derived/Test/ToyasCard.lean, 'card_holds'). Laid BY PROGRAM, IN A SANDBOX (cutbox-door.mjs). By AI agents, Wed Nov 11 2026. No macro, syntax, notation, axiom, sorry.
-/
import Derived.Test.YtfmbekdfigbfiaaDoorRows
import GoSem.ClaimSeven
namespace Go.Proofs.YtfmbekdfigbfiaaDoor
namespace Rows

/-- THE TIED CARD OF 'tarnlaw1.DigestsMatch'. -/
def digestsMatchCard : Claim7 := { stood := { row := digestsMatchRow, standIns := [], harness := (true, "51de728f66639d84ee90a767fe646b3b77a047590e5480f049285917999681b5"), looks := false }, kinds := [], alts := [], laidByText := true, laidKinds := [.data, .data, .data], laidTests := true, laidLooks := .later }
def DigestsMatchCardSaid : Prop := Claim7.holds Tryd.pinned (.plain (OpenSpec.ofChange digestsMatchSpec)) digestsMatchCard

/-- THE SECOND FORM's CARD OF 'tarnlaw1.DigestsMatch'. -/
def digestsMatchUptoCard : Claim7 := { stood := { row := digestsMatchUptoRow, standIns := [], harness := (true, "51de728f66639d84ee90a767fe646b3b77a047590e5480f049285917999681b5"), looks := false }, kinds := [], alts := [], laidByText := true, laidKinds := [.data, .data, .data], laidTests := true, laidLooks := .later }
def DigestsMatchUptoCardSaid : Prop := Claim7.holds Tryd.pinned (.plain (OpenSpec.upto digestsMatchSpec)) digestsMatchUptoCard
end Rows
end Go.Proofs.YtfmbekdfigbfiaaDoor
