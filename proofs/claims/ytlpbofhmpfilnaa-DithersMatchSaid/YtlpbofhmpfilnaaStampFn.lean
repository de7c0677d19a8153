import Derived.Test.YtlpbofhmpfilnaaRefWeight
import Derived.Test.YtlpbofhmpfilnaaAddedOp
import Derived.Test.YtlpbofhmpfilnaaRefTer
import Derived.Deep.RegionHeld3
namespace Go.Proofs.Ytlpbofhmpfilnaa
open Go.ChangeShapes Go.WideShapes Go.ChangeAt Go.RowKit
open Ieee.Format (fin finE htE allFin allHt all_true all_false mulF subF addF Ht Bd divF rootF floorF easeF mixF)
set_option linter.unusedVariables false

abbrev brCells (k X Y R : Int) (H : Nat) : Array Value := #[.int .i64 k, .int .i64 X, .int .i64 Y, .int .i64 R, .float .f32 H]
end Go.Proofs.Ytlpbofhmpfilnaa
