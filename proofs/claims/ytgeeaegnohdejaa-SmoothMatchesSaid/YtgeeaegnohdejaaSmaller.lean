import Derived.Test.YtgeeaegnohdejaaMake
namespace Go.Proofs.Ytgeeaegnohdejaa
open Go.ChangeShapes Go.WideShapes Go.ChangeAt Go.RowKit
set_option linter.unusedVariables false

theorem smaller_ok (X Y W H n : Int) (w : World) (hn : 0 ≤ n) (hn2 : n ≤ 64) (hx : -8388608 ≤ X) (hx2 : X ≤ 8388608) (hy : -8388608 ≤ Y) (hy2 : Y ≤ 8388608) (hw : W ≤ 512) (hh : H ≤ 512) (h1 : 1 ≤ W - 2 * n) (h2 : 1 ≤ H - 2 * n) :
    Calls Try.prog 153 #[reg X Y W H, .int .i64 n] w fun e w' => e = .returned (.tuple #[reg (X + n) (Y + n) (W - 2 * n) (H - 2 * n), .int .i64 0]) ∧ Below w.heap.size w w' := by
  go_enter Try.func153, Try.ntmps153
  go_wp2
  exact bodyPost_ret (v := .tuple #[reg (X + n) (Y + n) (W - 2 * n) (H - 2 * n), .int .i64 0]) (by simp [results, Try.results153, go_sem, *]) rfl ⟨rfl, (by repeat (first | with_reducible exact Below.refl _ _ | with_reducible apply Below.drew | with_reducible refine below_drewN ?_ _ | (with_reducible refine Below.setCell ?_ ?_ _; rotate_left; focus (first | omega | (simp <;> omega))) | (with_reducible refine Below.alloc ?_ ?_ _; rotate_left; focus (first | omega | (simp <;> omega)))))⟩
theorem smaller_no (X Y W H n : Int) (w : World) (hn : 0 ≤ n) (hn2 : n ≤ 64) (hx : -8388608 ≤ X) (hx2 : X ≤ 8388608) (hy : -8388608 ≤ Y) (hy2 : Y ≤ 8388608) (hw0 : 1 ≤ W) (hh0 : 1 ≤ H) (hw : W ≤ 512) (hh : H ≤ 512) (h1 : W - 2 * n < 1 ∨ H - 2 * n < 1) :
    Calls Try.prog 153 #[reg X Y W H, .int .i64 n] w fun e w' => e = .returned (.tuple #[reg 0 0 0 0, .int .i64 10]) ∧ Below w.heap.size w w' := by
  by_cases h3 : W - 2 * n < 1
  · go_enter Try.func153, Try.ntmps153
    go_wp2
    exact bodyPost_ret (v := .tuple #[reg 0 0 0 0, .int .i64 10]) (by simp [results, Try.results153, go_sem, *]) rfl ⟨rfl, (by repeat (first | with_reducible exact Below.refl _ _ | with_reducible apply Below.drew | with_reducible refine below_drewN ?_ _ | (with_reducible refine Below.setCell ?_ ?_ _; rotate_left; focus (first | omega | (simp <;> omega))) | (with_reducible refine Below.alloc ?_ ?_ _; rotate_left; focus (first | omega | (simp <;> omega)))))⟩
  · have h4 : H - 2 * n < 1 := by omega
    go_enter Try.func153, Try.ntmps153
    go_wp2
    exact bodyPost_ret (v := .tuple #[reg 0 0 0 0, .int .i64 10]) (by simp [results, Try.results153, go_sem, *]) rfl ⟨rfl, (by repeat (first | with_reducible exact Below.refl _ _ | with_reducible apply Below.drew | with_reducible refine below_drewN ?_ _ | (with_reducible refine Below.setCell ?_ ?_ _; rotate_left; focus (first | omega | (simp <;> omega))) | (with_reducible refine Below.alloc ?_ ?_ _; rotate_left; focus (first | omega | (simp <;> omega)))))⟩
end Go.Proofs.Ytgeeaegnohdejaa
