import Derived.Test.YtnfebeebjelgbaaBrushFn
import Derived.BigQuiet
namespace Go.Proofs.Ytnfebeebjelgbaa
open Go.ChangeShapes Go.WideShapes Go.ChangeAt Go.RowKit
open Ieee.Format (fin finE htE allFin allHt all_true all_false mulF subF addF Ht Bd divF rootF floorF easeF mixF)
set_option linter.unusedVariables false
open Ieee.Format (const_1)

/-- what of a brush and a place is right, for the weight -/
structure BrushOk (X Y R x y : Int) : Prop where
  p : -4194304 ≤ X ∧ X ≤ 4194304 ∧ -4194304 ≤ Y ∧ Y ≤ 4194304
  q : -8388608 ≤ x ∧ x ≤ 8388608 ∧ -8388608 ≤ y ∧ y ≤ 8388608
  r1 : 1 ≤ R
  r2 : R ≤ 256

set_option maxRecDepth 100000 in
set_option maxHeartbeats 1000000 in
theorem weight_any (k X Y R x y : Int) (H : Nat) (w : World) (h : BrushOk X Y R x y) :
    Calls Try.prog 151 #[brushV k X Y R H, .int .i64 x, .int .i64 y] w fun e w' => e = .returned (.float .f32 (weightF k (sqD x y X Y) R)) ∧ Below w.heap.size w w' := by
  obtain ⟨⟨a0, a1⟩, ⟨b0, b1⟩⟩ := sqD_bd h.p h.q
  obtain ⟨r1, r2⟩ := sq_rad h.r1 h.r2
  have p := h.p
  have q := h.q
  have q1 := h.r1
  have q2 := h.r2
  unfold sqD
  generalize hA : (x - X) * (x - X) = A at *
  generalize hB : (y - Y) * (y - Y) = B at *
  have d0 : 0 ≤ A + B := by omega
  by_cases c1 : R * R ≤ A + B
  · have e : weightF k (A + B) R = 0 := by unfold weightF; rw [if_pos c1]
    rw [e]
    clear h e
    generalize hR : R * R = r at *
    go_enter Try.func151, Try.ntmps151
    go_wp2_with fail
    generalize hW0 : w.alloc (.cells #[.int .i64 k, .int .i64 X, .int .i64 Y, .int .i64 R, .float .f32 H] 79) = W0 at *
    have HK0 : Hid (Blk W0 w.heap.size #[.int .i64 k, .int .i64 X, .int .i64 Y, .int .i64 R, .float .f32 H] 79) := by subst hW0; exact Blk.new _ _ _
    have HB0 : Hid (Below w.heap.size w W0) := Lib.hid (by subst hW0; exact (by repeat (first | with_reducible exact Below.refl _ _ | with_reducible apply Below.drew | with_reducible refine below_drewN ?_ _ | (with_reducible refine Below.setCell ?_ ?_ _; rotate_left; focus (first | omega | (simp <;> omega))) | (with_reducible refine Below.alloc ?_ ?_ _; rotate_left; focus (first | omega | (simp <;> omega))))))
    clear hW0
    have t0 : W0.cell? ⟨w.heap.size, 0, none⟩ = some (.int .i64 k) := HK0.out.cell 0
    have t1 : W0.cell? ⟨w.heap.size, 1, none⟩ = some (.int .i64 X) := HK0.out.cell 1
    have t2 : W0.cell? ⟨w.heap.size, 2, none⟩ = some (.int .i64 Y) := HK0.out.cell 2
    have t3 : W0.cell? ⟨w.heap.size, 3, none⟩ = some (.int .i64 R) := HK0.out.cell 3
    have l0 : w.heap.size < W0.heap.size := HK0.out.lt
    go_quiet (fail)
    clear t0 t1 t2 t3 l0
    generalize hW1 : W0.drewN nq = W1 at *
    have HK1 : Hid (Blk W1 w.heap.size #[.int .i64 k, .int .i64 X, .int .i64 Y, .int .i64 R, .float .f32 H] 79) := by subst hW1; exact HK0.out
    have HB1 : Hid (Below w.heap.size w W1) := Lib.hid (by subst hW1; have h := HB0.out; exact (by have hszz := h.size; repeat (first | with_reducible exact h | with_reducible apply Below.drew | with_reducible refine below_drewN ?_ _ | (with_reducible refine Below.setCell ?_ ?_ _; rotate_left; focus (first | omega | (simp <;> omega))) | (with_reducible refine Below.alloc ?_ ?_ _; rotate_left; focus (first | omega | (simp <;> omega))))))
    clear hW1 HK0 HB0
    have t0 : W1.cell? ⟨w.heap.size, 0, none⟩ = some (.int .i64 k) := HK1.out.cell 0
    have t3 : W1.cell? ⟨w.heap.size, 3, none⟩ = some (.int .i64 R) := HK1.out.cell 3
    have l0 : w.heap.size < W1.heap.size := HK1.out.lt
    go_wp2
    go_ret
    exact ⟨rfl, (by have h := HB1.out; exact (by have hszz := h.size; repeat (first | with_reducible exact h | with_reducible apply Below.drew | with_reducible refine below_drewN ?_ _ | (with_reducible refine Below.setCell ?_ ?_ _; rotate_left; focus (first | omega | (simp <;> omega))) | (with_reducible refine Below.alloc ?_ ?_ _; rotate_left; focus (first | omega | (simp <;> omega))))))⟩
  · by_cases c2 : k = 1
    · have e : weightF k (A + B) R = 1065353216 := by unfold weightF; rw [if_neg c1, if_pos c2]
      rw [e]
      subst c2
      clear h e
      generalize hR : R * R = r at *
      go_enter Try.func151, Try.ntmps151
      go_wp2_with fail
      generalize hW0 : w.alloc (.cells #[.int .i64 1, .int .i64 X, .int .i64 Y, .int .i64 R, .float .f32 H] 79) = W0 at *
      have HK0 : Hid (Blk W0 w.heap.size #[.int .i64 1, .int .i64 X, .int .i64 Y, .int .i64 R, .float .f32 H] 79) := by subst hW0; exact Blk.new _ _ _
      have HB0 : Hid (Below w.heap.size w W0) := Lib.hid (by subst hW0; exact (by repeat (first | with_reducible exact Below.refl _ _ | with_reducible apply Below.drew | with_reducible refine below_drewN ?_ _ | (with_reducible refine Below.setCell ?_ ?_ _; rotate_left; focus (first | omega | (simp <;> omega))) | (with_reducible refine Below.alloc ?_ ?_ _; rotate_left; focus (first | omega | (simp <;> omega))))))
      clear hW0
      have t0 : W0.cell? ⟨w.heap.size, 0, none⟩ = some (.int .i64 1) := HK0.out.cell 0
      have t1 : W0.cell? ⟨w.heap.size, 1, none⟩ = some (.int .i64 X) := HK0.out.cell 1
      have t2 : W0.cell? ⟨w.heap.size, 2, none⟩ = some (.int .i64 Y) := HK0.out.cell 2
      have t3 : W0.cell? ⟨w.heap.size, 3, none⟩ = some (.int .i64 R) := HK0.out.cell 3
      have l0 : w.heap.size < W0.heap.size := HK0.out.lt
      go_quiet (fail)
      clear t0 t1 t2 t3 l0
      generalize hW1 : W0.drewN nq = W1 at *
      have HK1 : Hid (Blk W1 w.heap.size #[.int .i64 1, .int .i64 X, .int .i64 Y, .int .i64 R, .float .f32 H] 79) := by subst hW1; exact HK0.out
      have HB1 : Hid (Below w.heap.size w W1) := Lib.hid (by subst hW1; have h := HB0.out; exact (by have hszz := h.size; repeat (first | with_reducible exact h | with_reducible apply Below.drew | with_reducible refine below_drewN ?_ _ | (with_reducible refine Below.setCell ?_ ?_ _; rotate_left; focus (first | omega | (simp <;> omega))) | (with_reducible refine Below.alloc ?_ ?_ _; rotate_left; focus (first | omega | (simp <;> omega))))))
      clear hW1 HK0 HB0
      have t0 : W1.cell? ⟨w.heap.size, 0, none⟩ = some (.int .i64 1) := HK1.out.cell 0
      have t3 : W1.cell? ⟨w.heap.size, 3, none⟩ = some (.int .i64 R) := HK1.out.cell 3
      have l0 : w.heap.size < W1.heap.size := HK1.out.lt
      go_wp2
      go_ret
      exact ⟨rfl, (by have h := HB1.out; exact (by have hszz := h.size; repeat (first | with_reducible exact h | with_reducible apply Below.drew | with_reducible refine below_drewN ?_ _ | (with_reducible refine Below.setCell ?_ ?_ _; rotate_left; focus (first | omega | (simp <;> omega))) | (with_reducible refine Below.alloc ?_ ?_ _; rotate_left; focus (first | omega | (simp <;> omega))))))⟩
    · by_cases c3 : k = 2
      · have e : weightF k (A + B) R = wCone (A + B) R := by unfold weightF; rw [if_neg c1, if_neg c2, if_pos c3]
        rw [e]
        subst c3
        obtain ⟨f1, f2, f3, f4, f5, f6, f7⟩ := cone_ok d0 (show A + B < R * R by omega) h.r1 h.r2
        have KR := Lib.hid (fun w => root_any (cv (A + B)) f1 f2 w)
        have k1 := fun w' => run_float_arith (P := Try.prog) w' .quo 37 .f32 (rootF (cv (A + B))) (cv R) (divF (rootF (cv (A + B))) (cv R)) (Ieee.Format.bits_div f3 f4 (by grind))
        have k2 := fun w' => run_float_arith (P := Try.prog) w' .sub 37 .f32 1065353216 (divF (rootF (cv (A + B))) (cv R)) (wCone (A + B) R) (Ieee.Format.bits_sub const_1.1 f6.1)
        generalize wCone (A + B) R = z3 at *
        generalize divF (rootF (cv (A + B))) (cv R) = z2 at *
        generalize rootF (cv (A + B)) = z1 at *
        generalize hz0 : cv (A + B) = z0 at *
        generalize hzr : cv R = zr at *
        change floatOfInt .f32 (A + B) = z0 at hz0
        change floatOfInt .f32 R = zr at hzr
        clear h e f1 f2 f3 f4 f5 f6 f7
        generalize hR : R * R = r at *
        go_enter Try.func151, Try.ntmps151
        go_wp2_with fail
        generalize hW0 : w.alloc (.cells #[.int .i64 2, .int .i64 X, .int .i64 Y, .int .i64 R, .float .f32 H] 79) = W0 at *
        have HK0 : Hid (Blk W0 w.heap.size #[.int .i64 2, .int .i64 X, .int .i64 Y, .int .i64 R, .float .f32 H] 79) := by subst hW0; exact Blk.new _ _ _
        have HB0 : Hid (Below w.heap.size w W0) := Lib.hid (by subst hW0; exact (by repeat (first | with_reducible exact Below.refl _ _ | with_reducible apply Below.drew | with_reducible refine below_drewN ?_ _ | (with_reducible refine Below.setCell ?_ ?_ _; rotate_left; focus (first | omega | (simp <;> omega))) | (with_reducible refine Below.alloc ?_ ?_ _; rotate_left; focus (first | omega | (simp <;> omega))))))
        clear hW0
        have t0 : W0.cell? ⟨w.heap.size, 0, none⟩ = some (.int .i64 2) := HK0.out.cell 0
        have t1 : W0.cell? ⟨w.heap.size, 1, none⟩ = some (.int .i64 X) := HK0.out.cell 1
        have t2 : W0.cell? ⟨w.heap.size, 2, none⟩ = some (.int .i64 Y) := HK0.out.cell 2
        have t3 : W0.cell? ⟨w.heap.size, 3, none⟩ = some (.int .i64 R) := HK0.out.cell 3
        have l0 : w.heap.size < W0.heap.size := HK0.out.lt
        go_quiet (fail)
        clear t0 t1 t2 t3 l0
        generalize hW1 : W0.drewN nq = W1 at *
        have HK1 : Hid (Blk W1 w.heap.size #[.int .i64 2, .int .i64 X, .int .i64 Y, .int .i64 R, .float .f32 H] 79) := by subst hW1; exact HK0.out
        have HB1 : Hid (Below w.heap.size w W1) := Lib.hid (by subst hW1; have h := HB0.out; exact (by have hszz := h.size; repeat (first | with_reducible exact h | with_reducible apply Below.drew | with_reducible refine below_drewN ?_ _ | (with_reducible refine Below.setCell ?_ ?_ _; rotate_left; focus (first | omega | (simp <;> omega))) | (with_reducible refine Below.alloc ?_ ?_ _; rotate_left; focus (first | omega | (simp <;> omega))))))
        clear hW1 HK0 HB0
        have t0 : W1.cell? ⟨w.heap.size, 0, none⟩ = some (.int .i64 2) := HK1.out.cell 0
        have t3 : W1.cell? ⟨w.heap.size, 3, none⟩ = some (.int .i64 R) := HK1.out.cell 3
        have l0 : w.heap.size < W1.heap.size := HK1.out.lt
        go_wp2_with fail
        go_quiet ((go_at_call 158; exact Calls.quiet_of_same ((KR.out _).mono fun _ _ h => ⟨h.1, h.2.symm⟩)))
        go_wp2
        go_ret
        exact ⟨rfl, (by have h := HB1.out; exact (by have hszz := h.size; repeat (first | with_reducible exact h | with_reducible apply Below.drew | with_reducible refine below_drewN ?_ _ | (with_reducible refine Below.setCell ?_ ?_ _; rotate_left; focus (first | omega | (simp <;> omega))) | (with_reducible refine Below.alloc ?_ ?_ _; rotate_left; focus (first | omega | (simp <;> omega))))))⟩
      · have e : weightF k (A + B) R = wBell (A + B) (R * R) := by unfold weightF; rw [if_neg c1, if_neg c2, if_neg c3]
        rw [e]
        obtain ⟨f1, f2, f3, f4, f5, f6⟩ := bell_ok d0 (show A + B < R * R by omega) r2
        have k1 := fun w' => run_float_arith (P := Try.prog) w' .quo 37 .f32 (cv (A + B)) (cv (R * R)) (divF (cv (A + B)) (cv (R * R))) (Ieee.Format.bits_div f1 f2 (by grind))
        have k2 := fun w' => run_float_arith (P := Try.prog) w' .sub 37 .f32 1065353216 (divF (cv (A + B)) (cv (R * R))) (wBell1 (A + B) (R * R)) (Ieee.Format.bits_sub const_1.1 f4.1)
        have k3 := fun w' => run_float_arith (P := Try.prog) w' .mul 37 .f32 (wBell1 (A + B) (R * R)) (wBell1 (A + B) (R * R)) (wBell (A + B) (R * R)) (Ieee.Format.bits_mul f5.1 f5.1)
        generalize wBell (A + B) (R * R) = z3 at *
        generalize wBell1 (A + B) (R * R) = z2 at *
        generalize divF (cv (A + B)) (cv (R * R)) = z1 at *
        generalize hz0 : cv (A + B) = z0 at *
        generalize hzr : cv (R * R) = zr at *
        change floatOfInt .f32 (A + B) = z0 at hz0
        change floatOfInt .f32 (R * R) = zr at hzr
        clear h e f1 f2 f3 f4 f5 f6
        generalize hR : R * R = r at *
        go_enter Try.func151, Try.ntmps151
        go_wp2_with fail
        generalize hW0 : w.alloc (.cells #[.int .i64 k, .int .i64 X, .int .i64 Y, .int .i64 R, .float .f32 H] 79) = W0 at *
        have HK0 : Hid (Blk W0 w.heap.size #[.int .i64 k, .int .i64 X, .int .i64 Y, .int .i64 R, .float .f32 H] 79) := by subst hW0; exact Blk.new _ _ _
        have HB0 : Hid (Below w.heap.size w W0) := Lib.hid (by subst hW0; exact (by repeat (first | with_reducible exact Below.refl _ _ | with_reducible apply Below.drew | with_reducible refine below_drewN ?_ _ | (with_reducible refine Below.setCell ?_ ?_ _; rotate_left; focus (first | omega | (simp <;> omega))) | (with_reducible refine Below.alloc ?_ ?_ _; rotate_left; focus (first | omega | (simp <;> omega))))))
        clear hW0
        have t0 : W0.cell? ⟨w.heap.size, 0, none⟩ = some (.int .i64 k) := HK0.out.cell 0
        have t1 : W0.cell? ⟨w.heap.size, 1, none⟩ = some (.int .i64 X) := HK0.out.cell 1
        have t2 : W0.cell? ⟨w.heap.size, 2, none⟩ = some (.int .i64 Y) := HK0.out.cell 2
        have t3 : W0.cell? ⟨w.heap.size, 3, none⟩ = some (.int .i64 R) := HK0.out.cell 3
        have l0 : w.heap.size < W0.heap.size := HK0.out.lt
        go_quiet (fail)
        clear t0 t1 t2 t3 l0
        generalize hW1 : W0.drewN nq = W1 at *
        have HK1 : Hid (Blk W1 w.heap.size #[.int .i64 k, .int .i64 X, .int .i64 Y, .int .i64 R, .float .f32 H] 79) := by subst hW1; exact HK0.out
        have HB1 : Hid (Below w.heap.size w W1) := Lib.hid (by subst hW1; have h := HB0.out; exact (by have hszz := h.size; repeat (first | with_reducible exact h | with_reducible apply Below.drew | with_reducible refine below_drewN ?_ _ | (with_reducible refine Below.setCell ?_ ?_ _; rotate_left; focus (first | omega | (simp <;> omega))) | (with_reducible refine Below.alloc ?_ ?_ _; rotate_left; focus (first | omega | (simp <;> omega))))))
        clear hW1 HK0 HB0
        have t0 : W1.cell? ⟨w.heap.size, 0, none⟩ = some (.int .i64 k) := HK1.out.cell 0
        have t3 : W1.cell? ⟨w.heap.size, 3, none⟩ = some (.int .i64 R) := HK1.out.cell 3
        have l0 : w.heap.size < W1.heap.size := HK1.out.lt
        go_wp2
        go_ret
        exact ⟨rfl, (by have h := HB1.out; exact (by have hszz := h.size; repeat (first | with_reducible exact h | with_reducible apply Below.drew | with_reducible refine below_drewN ?_ _ | (with_reducible refine Below.setCell ?_ ?_ _; rotate_left; focus (first | omega | (simp <;> omega))) | (with_reducible refine Below.alloc ?_ ?_ _; rotate_left; focus (first | omega | (simp <;> omega))))))⟩
end Go.Proofs.Ytnfebeebjelgbaa
