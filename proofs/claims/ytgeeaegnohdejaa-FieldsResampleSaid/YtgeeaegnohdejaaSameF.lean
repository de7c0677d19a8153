import Derived.Test.YtgeeaegnohdejaaAtF
import Derived.Test.YtgeeaegnohdejaaRegEq
namespace Go.Proofs.Ytgeeaegnohdejaa
open Go.ChangeShapes Go.WideShapes Go.ChangeAt Go.RowKit
open Ieee.Format (fin finE htE allFin allHt all_true all_false finE_ok finE_bad htE_ok htE_far htE_bad mulF subF addF)
set_option linter.unusedVariables false

/-- two fields of one region and the same values are the same -/
theorem refsame_yes (X Y W H : Int) (b o c b' o' c' : Nat) (l : List Nat) (w : World) (hl : SRow w (some ⟨b, o, none⟩) l) (hm : SRow w (some ⟨b', o', none⟩) l) :
    Calls Try.prog 68 #[fldV X Y W H (some ⟨b, o, none⟩) l.length c, fldV X Y W H (some ⟨b', o', none⟩) l.length c'] w fun e w' => e = .returned (.bool true) ∧ Below w.heap.size w w' := by
  have HL := Lib.hid hl
  have HM := Lib.hid hm
  clear hl hm
  have hA : Below w.heap.size w ((w.alloc (.cells #[.int .i64 X, .int .i64 Y, .int .i64 W, .int .i64 H, .slice (some ⟨b, o, none⟩) l.length c] /-T-/66)).alloc (.cells #[.int .i64 X, .int .i64 Y, .int .i64 W, .int .i64 H, .slice (some ⟨b', o', none⟩) l.length c'] /-T-/66)) := (by repeat (first | with_reducible exact Below.refl _ _ | with_reducible apply Below.drew | with_reducible refine below_drewN ?_ _ | (with_reducible refine Below.setCell ?_ ?_ _; rotate_left; focus (first | omega | (simp <;> omega))) | (with_reducible refine Below.alloc ?_ ?_ _; rotate_left; focus (first | omega | (simp <;> omega)))))
  have HA := Lib.hid hA
  clear hA
  have kn := fun w => eqlReg X Y W H X Y W H w
  have kg := fun x y w => eqGuardReg .eql x y X Y W H X Y W H w
  go_enter Try.func68, Try.ntmps68
  go_wp2_with fail
  refine (eqfunc_any b o c b' o' c' l l _ (HL.out.below HA.out) (HM.out.below HA.out)).mono ?_
  rintro e w1 ⟨rfl, rfl⟩
  rw [show decide (l = l) = true from decide_eq_true rfl]
  go_wp2_with fail
  go_ret
  exact ⟨rfl, HA.out⟩

theorem same_err (c : Int) (hc : c ≠ 0) (v : Value) (X Y W H : Int) (a : Option Addr) (n k : Nat) (w : World) :
    Calls Try.prog 49 #[fldV 0 0 0 0 none 0 0, .int .i64 c, fldV X Y W H a n k, .int .i64 c] w fun e w' => e = .returned (.bool true) ∧ Below w.heap.size w w' := by
  have hb : (c != 0) = true := by rw [bne_iff_ne]; exact hc
  clear hc
  have kn := fun w => eqlReg 0 0 0 0 0 0 0 0 w
  have kg := fun x y w => eqGuardReg .eql x y 0 0 0 0 0 0 0 0 w
  go_enter Try.func49, Try.ntmps49
  go_wp2
  go_ret
  exact ⟨rfl, (by repeat (first | with_reducible exact Below.refl _ _ | with_reducible apply Below.drew | with_reducible refine below_drewN ?_ _ | (with_reducible refine Below.setCell ?_ ?_ _; rotate_left; focus (first | omega | (simp <;> omega))) | (with_reducible refine Below.alloc ?_ ?_ _; rotate_left; focus (first | omega | (simp <;> omega)))))⟩

theorem same_ok (X Y W H : Int) (b o c b' o' c' : Nat) (l : List Nat) (w : World) (hl : SRow w (some ⟨b, o, none⟩) l) (hm : SRow w (some ⟨b', o', none⟩) l) :
    Calls Try.prog 49 #[fldV X Y W H (some ⟨b, o, none⟩) l.length c, .int .i64 0, fldV X Y W H (some ⟨b', o', none⟩) l.length c', .int .i64 0] w fun e w' => e = .returned (.bool true) ∧ Below w.heap.size w w' := by
  have HL := Lib.hid hl
  have HM := Lib.hid hm
  clear hl hm
  have hA : Below w.heap.size w ((w.alloc (.cells #[.int .i64 X, .int .i64 Y, .int .i64 W, .int .i64 H, .slice (some ⟨b, o, none⟩) l.length c] /-T-/66)).alloc (.cells #[.int .i64 X, .int .i64 Y, .int .i64 W, .int .i64 H, .slice (some ⟨b', o', none⟩) l.length c'] /-T-/66)) := (by repeat (first | with_reducible exact Below.refl _ _ | with_reducible apply Below.drew | with_reducible refine below_drewN ?_ _ | (with_reducible refine Below.setCell ?_ ?_ _; rotate_left; focus (first | omega | (simp <;> omega))) | (with_reducible refine Below.alloc ?_ ?_ _; rotate_left; focus (first | omega | (simp <;> omega)))))
  have HA := Lib.hid hA
  clear hA
  go_enter Try.func49, Try.ntmps49
  go_wp2_with fail
  refine (refsame_yes X Y W H b o c b' o' c' l _ (HL.out.below HA.out) (HM.out.below HA.out)).mono ?_
  rintro e w1 ⟨rfl, hb⟩
  go_wp2_with fail
  go_ret
  exact ⟨rfl, HA.out.trans (hb.mono HA.out.size)⟩
end Go.Proofs.Ytgeeaegnohdejaa
