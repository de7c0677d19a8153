import Derived.Test.YtlpbofhmpfilnaaBrushFn
import Derived.BigQuiet
namespace Go.Proofs.Ytlpbofhmpfilnaa
open Go.ChangeShapes Go.WideShapes Go.ChangeAt Go.RowKit
open Ieee.Format (fin finE htE allFin allHt all_true all_false mulF subF addF Ht Bd divF rootF floorF easeF mixF)
set_option linter.unusedVariables false
open Ieee.Format (const_1)

/-- what of a brush and a place is right, for the weight -/
structure BrushOk (X Y R x y : Int) : Prop where
  p : -4194304 ≤ X ∧ X ≤ 4194304 ∧ -4194304 ≤ Y ∧ Y ≤ 4194304
  q : -8388608 ≤ x ∧ x ≤ 8388608 ∧ -8388608 ≤ y ∧ y ≤ 8388608
  r1 : 1 ≤ R
  r2 : R ≤ 256

end Go.Proofs.Ytlpbofhmpfilnaa
