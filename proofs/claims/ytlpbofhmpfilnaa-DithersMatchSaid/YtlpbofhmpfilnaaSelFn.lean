import Derived.Test.YtlpbofhmpfilnaaCount
import Derived.Test.YtlpbofhmpfilnaaInner
import Derived.Deep.RegionHeld3
namespace Go.Proofs.Ytlpbofhmpfilnaa
open Go.ChangeShapes Go.WideShapes Go.ChangeAt Go.RowKit
open Ieee.Format (fin finE htE allFin allHt all_true all_false mulF subF addF Ht Bd divF rootF floorF easeF mixF)
set_option linter.unusedVariables false
open Ieee.Format (const_0 const_1)

end Go.Proofs.Ytlpbofhmpfilnaa
