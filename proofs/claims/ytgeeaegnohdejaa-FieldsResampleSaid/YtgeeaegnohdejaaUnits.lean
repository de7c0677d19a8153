import Derived.Test.YtgeeaegnohdejaaHash
import Derived.Laws.Externs
namespace Go.Proofs.Ytgeeaegnohdejaa
open Go.ChangeShapes Go.WideShapes Go.ChangeAt Go.RowKit
open Ieee.Format (fin unitF signedF mulF subF addF)

theorem ref_mul_ok (x y : Nat) (w : World) (hx : fin Ieee.single x) (hy : fin Ieee.single y) (hr : fin Ieee.single (mulF x y)) :
    Calls Try.prog 77 #[.float .f32 x, .float .f32 y] w fun e w' => e = .returned (.float .f32 (mulF x y)) ∧ w = w' := by
  obtain ⟨X, Y, Z, a, b, c, d⟩ := Ieee.Format.road_mul hx hy hr
  generalize mulF x y = r at *
  have ka := fun w => run_convert_float_float (P := Try.prog) w 24 105 .f32 .f64 x X (by kernel_rfl) Try.underlying105 a
  have kb := fun w => run_convert_float_float (P := Try.prog) w 24 105 .f32 .f64 y Y (by kernel_rfl) Try.underlying105 b
  have kc := fun w => run_float_arith (P := Try.prog) w .mul 105 .f64 X Y Z c
  have kd := fun w => run_convert_float_float (P := Try.prog) w 105 24 .f64 .f32 Z r (by kernel_rfl) Try.underlying24 d
  clear a b c d
  go_enter Try.func77, Try.ntmps77
  go_wp2
  go_ret
  exact ⟨rfl, rfl⟩

theorem ref_sub_ok (x y : Nat) (w : World) (hx : fin Ieee.single x) (hy : fin Ieee.single y) (hr : fin Ieee.single (subF x y)) :
    Calls Try.prog 79 #[.float .f32 x, .float .f32 y] w fun e w' => e = .returned (.float .f32 (subF x y)) ∧ w = w' := by
  obtain ⟨X, Y, Z, a, b, c, d⟩ := Ieee.Format.road_sub hx hy hr
  generalize subF x y = r at *
  have ka := fun w => run_convert_float_float (P := Try.prog) w 24 105 .f32 .f64 x X (by kernel_rfl) Try.underlying105 a
  have kb := fun w => run_convert_float_float (P := Try.prog) w 24 105 .f32 .f64 y Y (by kernel_rfl) Try.underlying105 b
  have kc := fun w => run_float_arith (P := Try.prog) w .sub 105 .f64 X Y Z c
  have kd := fun w => run_convert_float_float (P := Try.prog) w 105 24 .f64 .f32 Z r (by kernel_rfl) Try.underlying24 d
  clear a b c d
  go_enter Try.func79, Try.ntmps79
  go_wp2
  go_ret
  exact ⟨rfl, rfl⟩

theorem ref_add_ok (x y : Nat) (w : World) (hx : fin Ieee.single x) (hy : fin Ieee.single y) (hr : fin Ieee.single (addF x y)) :
    Calls Try.prog 106 #[.float .f32 x, .float .f32 y] w fun e w' => e = .returned (.float .f32 (addF x y)) ∧ w = w' := by
  obtain ⟨X, Y, Z, a, b, c, d⟩ := Ieee.Format.road_add hx hy hr
  generalize addF x y = r at *
  have ka := fun w => run_convert_float_float (P := Try.prog) w 24 105 .f32 .f64 x X (by kernel_rfl) Try.underlying105 a
  have kb := fun w => run_convert_float_float (P := Try.prog) w 24 105 .f32 .f64 y Y (by kernel_rfl) Try.underlying105 b
  have kc := fun w => run_float_arith (P := Try.prog) w .add 105 .f64 X Y Z c
  have kd := fun w => run_convert_float_float (P := Try.prog) w 105 24 .f64 .f32 Z r (by kernel_rfl) Try.underlying24 d
  clear a b c d
  go_enter Try.func106, Try.ntmps106
  go_wp2
  go_ret
  exact ⟨rfl, rfl⟩

theorem ref_conv_ok (n : Int) (w : World) : Calls Try.prog 78 #[.int .i64 n] w fun e w' => e = .returned (.float .f32 (floatOfInt .f32 n)) ∧ w = w' := by
  go_enter Try.func78, Try.ntmps78
  go_wp2
  go_ret
  exact ⟨rfl, rfl⟩

theorem unit_any (h : Int) (w : World) (h0 : 0 ≤ h) (h1 : h < 4294967296) : Calls Try.prog 16 #[.int .u32 h] w fun e w' => e = .returned (.float .f32 (unitF h)) ∧ w = w' := by
  obtain ⟨c1, _⟩ := Ieee.Format.unit_ok h h0 h1
  have km := fun w => run_float_arith (P := Try.prog) w .mul 24 .f32 (floatOfInt .f32 (h / 256)) 864026624 (unitF h) (Ieee.Format.bits_mul c1 Ieee.Format.const_m24.1)
  clear c1
  generalize unitF h = u at *
  go_enter Try.func16, Try.ntmps16
  go_wp2
  go_ret
  exact ⟨rfl, rfl⟩

theorem signed_any (h : Int) (w : World) (h0 : 0 ≤ h) (h1 : h < 4294967296) : Calls Try.prog 17 #[.int .u32 h] w fun e w' => e = .returned (.float .f32 (signedF h)) ∧ w = w' := by
  obtain ⟨c1, c2, _⟩ := Ieee.Format.unit_ok h h0 h1
  obtain ⟨d1, d2, _⟩ := Ieee.Format.signed_ok h h0 h1
  have km := fun w => run_float_arith (P := Try.prog) w .mul 24 .f32 (unitF h) 1073741824 _ (Ieee.Format.bits_mul c2 Ieee.Format.const_2.1)
  have ks := fun w => run_float_arith (P := Try.prog) w .sub 24 .f32 (mulF (unitF h) 1073741824) 1065353216 (signedF h) (Ieee.Format.bits_sub d1 Ieee.Format.const_1.1)
  clear c1 c2 d1 d2
  have hu := fun w => unit_any h w h0 h1
  go_enter Try.func17, Try.ntmps17
  go_wp2_with (go_at_call 16; refine (hu _).mono ?_; rintro e w' ⟨rfl, rfl⟩)
  go_ret
  exact ⟨rfl, rfl⟩

theorem refunit_any (h : Int) (w : World) (h0 : 0 ≤ h) (h1 : h < 4294967296) : Calls Try.prog 21 #[.int .u32 h] w fun e w' => e = .returned (.float .f32 (unitF h)) ∧ w = w' := by
  obtain ⟨c1, c2, _⟩ := Ieee.Format.unit_ok h h0 h1
  have hm := fun w => ref_mul_ok (floatOfInt .f32 (h / 256)) 864026624 w c1 Ieee.Format.const_m24.1 c2
  clear c1 c2
  go_enter Try.func21, Try.ntmps21
  go_wp2_with (first | (go_at_call 78; refine (ref_conv_ok _ _).mono ?_; rintro e w' ⟨rfl, rfl⟩) | (go_at_call 77; refine (hm _).mono ?_; rintro e w' ⟨rfl, rfl⟩))
  go_ret
  exact ⟨rfl, rfl⟩

theorem refsigned_any (h : Int) (w : World) (h0 : 0 ≤ h) (h1 : h < 4294967296) : Calls Try.prog 22 #[.int .u32 h] w fun e w' => e = .returned (.float .f32 (signedF h)) ∧ w = w' := by
  obtain ⟨c1, c2, _⟩ := Ieee.Format.unit_ok h h0 h1
  obtain ⟨d1, d2, _⟩ := Ieee.Format.signed_ok h h0 h1
  have hm := fun w => ref_mul_ok (unitF h) 1073741824 w c2 Ieee.Format.const_2.1 d1
  have hs := fun w => ref_sub_ok (mulF (unitF h) 1073741824) 1065353216 w d1 Ieee.Format.const_1.1 d2
  clear c1 c2 d1 d2
  have hu := fun w => refunit_any h w h0 h1
  go_enter Try.func22, Try.ntmps22
  go_wp2_with (first | (go_at_call 21; refine (hu _).mono ?_; rintro e w' ⟨rfl, rfl⟩) | (go_at_call 77; refine (hm _).mono ?_; rintro e w' ⟨rfl, rfl⟩) | (go_at_call 79; refine (hs _).mono ?_; rintro e w' ⟨rfl, rfl⟩))
  go_ret
  exact ⟨rfl, rfl⟩

theorem run_f32bits (b : Nat) (w : World) : (callFunc 76 #[.float .f32 b]).run Try.prog w = .ok (.value (.int .u32 b)) w := by
  rw [run_callFunc_extern Try.func76 (by kernel_rfl) (by kernel_rfl) (by kernel_rfl) (show _ = some Extern.MathFloatBits.float32bits by kernel_rfl)]
  rfl

theorem beq_cast (a b : Nat) : ((a : Int) == (b : Int)) = decide (a = b) := by
  rw [Bool.eq_iff_iff, beq_iff_eq, decide_eq_true_iff]; omega

theorem bits_any (a b : Nat) (w : World) : Calls Try.prog 20 #[.float .f32 a, .float .f32 b] w fun e w' => e = .returned (.bool (decide (a = b))) ∧ w = w' := by
  have ka := fun w => run_f32bits a w
  have kb := fun w => run_f32bits b w
  go_enter Try.func20, Try.ntmps20
  go_wp2
  go_ret
  exact ⟨congrArg (fun b => Ending.returned (.bool b)) (beq_cast a b), rfl⟩

theorem landed_any (w : World) : Calls Try.prog 15 #[] w fun e w' => e = .returned (.bool true) ∧ Grown w w' := by
  go_enter Try.func15, Try.ntmps15
  go_wp2
  go_ret
  exact ⟨rfl, by repeat (first | exact Grown.refl _ | apply Grown.drew | apply Grown.alloc)⟩
end Go.Proofs.Ytgeeaegnohdejaa
