import Derived.Test.YtfmbekdfigbfiaaKDithF
import Derived.Test.YtfmbekdfigbfiaaJD
import Derived.Test.YtfmbekdfigbfiaaStream
import Derived.BigQuiet
import Derived.Deep.RegionHeld3
namespace Go.Proofs.Ytfmbekdfigbfiaa
open Go.ChangeShapes Go.WideShapes Go.ChangeAt Go.RowKit
open Ieee.Format (fin finE htE allFin allHt all_true all_false mulF subF addF Ht Bd divF rootF floorF easeF mixF)
set_option linter.unusedVariables false
open Ieee.Format (const_0 const_1)

/-- the unit that a place draws -/
def hsF (seed x y n : Int) : Nat := Ieee.Format.unitF (hashTo seed x y n 3)
theorem unit_word (seed x y n : Int) (w : World) : Calls Try.prog 178 #[.int .u32 (hashTo seed x y n 3)] w fun e w' => e = .returned (.float .f32 (hsF seed x y n)) ∧ w = w' :=
  unit_any _ w (hash_bounds seed x y n).1 (hash_bounds seed x y n).2
theorem refunit_word (seed x y n : Int) (w : World) : Calls Try.prog 124 #[.int .u32 (hashTo seed x y n 3)] w fun e w' => e = .returned (.float .f32 (hsF seed x y n)) ∧ w = w' :=
  refunit_any _ w (hash_bounds seed x y n).1 (hash_bounds seed x y n).2

theorem Below.drewN_self (w : World) (n : Nat) : Below w.heap.size w (w.drewN n) := (by repeat (first | with_reducible exact Below.refl _ _ | with_reducible apply Below.drew | with_reducible refine below_drewN ?_ _ | (with_reducible refine Below.setCell ?_ ?_ _; rotate_left; focus (first | omega | (simp <;> omega))) | (with_reducible refine Below.alloc ?_ ?_ _; rotate_left; focus (first | omega | (simp <;> omega)))))

end Go.Proofs.Ytfmbekdfigbfiaa
