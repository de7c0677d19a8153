/-
  DERIVED. GIVEN WITH THE SEED: THE CARDS: each row of YtfpiklbmmpmkiaaGreatDoorRows.lean that lists a variable, with what it lists TIED to the program's text (the seventh form; the later family's looks); each row that meets fmt, with fmt's text TOLD by the authors' own Lean function (tested against real Go, not proved from fmt's source: count such statements apart). THE CARD IS WHAT COUNTS. Prove the row's statement (the work); the ties are given (YtfpiklbmmpmkiaaGreatDoorTie.lean); close each card by the builder's one call (the guide's Derived/Test/ToyasCard.lean, 'card_holds'). Laid BY PROGRAM, IN A SANDBOX (cutbox-door.mjs). By AI agents, Wed Nov 11 2026. No macro, syntax, notation, axiom, sorry.
-/
import Derived.Test.YtfpiklbmmpmkiaaGreatDoorRows
import GoSem.ClaimSeven
namespace Go.Proofs.YtfpiklbmmpmkiaaGreatDoor
namespace Rows

/-- THE TIED CARD OF 'tarnlaw1.FieldsCheck'. -/
def fieldsCheckCard : Claim7 := { stood := { row := fieldsCheckRow, standIns := [], harness := (true, "4a1a97077ab24d5b57d941131b19ac2d686d78b73010231e5a098c788716ef87"), looks := false }, kinds := [], alts := [], laidByText := true, laidKinds := [.data, .data, .data, .data, .pinned, .pinned], laidTests := true, laidLooks := .later }
def FieldsCheckCardSaid : Prop := Claim7.holds Tryz.pinned (.plain (OpenSpec.ofChange fieldsCheckSpec)) fieldsCheckCard

/-- THE SECOND FORM's CARD OF 'tarnlaw1.FieldsCheck'. -/
def fieldsCheckUptoCard : Claim7 := { stood := { row := fieldsCheckUptoRow, standIns := [], harness := (true, "4a1a97077ab24d5b57d941131b19ac2d686d78b73010231e5a098c788716ef87"), looks := false }, kinds := [], alts := [], laidByText := true, laidKinds := [.data, .data, .data, .data, .pinned, .pinned], laidTests := true, laidLooks := .later }
def FieldsCheckUptoCardSaid : Prop := Claim7.holds Tryz.pinned (.plain (OpenSpec.upto fieldsCheckSpec)) fieldsCheckUptoCard
end Rows
end Go.Proofs.YtfpiklbmmpmkiaaGreatDoor
