import Derived.Test.YtlpbofhmpfilnaaWeightFn
import Derived.Test.YtlpbofhmpfilnaaRefShade
import Derived.Deep.RegionHeld3
namespace Go.Proofs.Ytlpbofhmpfilnaa
open Go.ChangeShapes Go.WideShapes Go.ChangeAt Go.RowKit
open Ieee.Format (fin finE htE allFin allHt all_true all_false mulF subF addF Ht Bd divF rootF floorF easeF mixF)
set_option linter.unusedVariables false
open Ieee.Format (const_1)

theorem refsquare_any (x y X Y A B : Int) (w : World) (p : -4194304 ≤ X ∧ X ≤ 4194304 ∧ -4194304 ≤ Y ∧ Y ≤ 4194304) (q : -8388608 ≤ x ∧ x ≤ 8388608 ∧ -8388608 ≤ y ∧ y ≤ 8388608)
    (hA : (x - X) * (x - X) = A) (a0 : 0 ≤ A) (a1 : A ≤ 281474976710656) (hB : (y - Y) * (y - Y) = B) (b0 : 0 ≤ B) (b1 : B ≤ 281474976710656) :
    Calls Try.prog 85 #[.agg #[.int .i64 x, .int .i64 y], .agg #[.int .i64 X, .int .i64 Y]] w fun e w' => e = .returned (.int .i64 (A + B)) ∧ Below w.heap.size w w' := by
  go_enter Try.func85, Try.ntmps85
  go_wp2
  go_ret
  exact ⟨rfl, (by repeat (first | with_reducible exact Below.refl _ _ | with_reducible apply Below.drew | with_reducible refine below_drewN ?_ _ | (with_reducible refine Below.setCell ?_ ?_ _; rotate_left; focus (first | omega | (simp <;> omega))) | (with_reducible refine Below.alloc ?_ ?_ _; rotate_left; focus (first | omega | (simp <;> omega)))))⟩

end Go.Proofs.Ytlpbofhmpfilnaa
