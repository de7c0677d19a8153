import Derived.Test.YtlpbofhmpfilnaaShadeYes
import Derived.BigQuiet
import Derived.Deep.QuietTactic
namespace Go.Proofs.Ytlpbofhmpfilnaa
open Go.ChangeShapes Go.WideShapes Go.ChangeAt Go.RowKit
open Ieee.Format (fin finE htE allFin allHt all_true all_false mulF subF addF Ht Bd divF rootF floorF easeF mixF)
set_option linter.unusedVariables false
open Ieee.Format (negF gradF nxF nyF nzF grad_bd normal_bd shade1 shade2 shade_bd)

end Go.Proofs.Ytlpbofhmpfilnaa
