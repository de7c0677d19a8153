import Derived.Test.YtlpbofhmpfilnaaSlopeFn
namespace Go.Proofs.Ytlpbofhmpfilnaa
open Go.ChangeShapes Go.WideShapes Go.ChangeAt Go.RowKit
open Ieee.Format (fin finE htE allFin allHt all_true all_false mulF subF addF Ht Bd divF rootF floorF easeF mixF)
set_option linter.unusedVariables false
open Ieee.Format (negF gradF hypF slopeF lenF curve1 curveF nxF nyF nzF grad_bd hyp_bd slope_bd normal_bd curve_bd const_2nd const_quarter const_1 shade1 shade2 shade_bd)

end Go.Proofs.Ytlpbofhmpfilnaa
