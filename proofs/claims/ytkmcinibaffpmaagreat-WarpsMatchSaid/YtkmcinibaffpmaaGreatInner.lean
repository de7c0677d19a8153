import Derived.Test.YtkmcinibaffpmaaGreatThermOp
import Derived.Test.YtkmcinibaffpmaaGreatFloatN
import Derived.BigQuiet
import Derived.Deep.QuietTactic
namespace Go.Proofs.YtkmcinibaffpmaaGreat
open Go.ChangeShapes Go.WideShapes Go.ChangeAt Go.RowKit
open Ieee.Format (fin finE htE allFin allHt all_true all_false mulF subF addF Ht Bd divF rootF floorF easeF mixF)
set_option linter.unusedVariables false
open Ieee.Format (negF gradF hypF slopeF lenF curve1 curveF nxF nyF nzF)

theorem run_neg (P : Program) (x : Nat) (w : World) : (Op.unary .neg (.float .f32 x)).run P w = .ok (.float .f32 (negF x)) w := by
  simp [Op.unary, Op.negFloat, negF, FloatKind.format, Ieee.single]

theorem run_sqrt (X Z : Nat) (h : Ieee.double.sqrt X = some Z) (w : World) : (callFunc 117 #[.float .f64 X]).run Tryz.prog w = .ok (.value (.float .f64 Z)) w := by
  rw [run_callFunc_extern Tryz.func117 (by kernel_rfl) (by kernel_rfl) (by kernel_rfl) (show _ = some Extern.MathSqrt.sqrt by kernel_rfl)]
  have e : Extern.MathSqrt.sqrt #[.float .f64 X] = pure (.float .f64 Z) := by
    change (match Ieee.double.sqrt X with | some r => (pure (.float .f64 r) : Sem Value) | none => _) = _
    rw [h]
  rw [e]; rfl

theorem mathsqrt_any (X Z : Nat) (h : Ieee.double.sqrt X = some Z) (w : World) : Calls Tryz.prog 109 #[.float .f64 X] w fun e w' => e = .returned (.float .f64 Z) ∧ w = w' := by
  have K := run_sqrt X Z h
  clear h
  go_enter Tryz.func109, Tryz.ntmps109
  go_wp2
  go_ret
  exact ⟨rfl, rfl⟩

theorem root_any (x : Nat) (hx : fin Ieee.single x) (h0 : 0 ≤ Ieee.single.V x) (w : World) : Calls Tryz.prog 102 #[.float .f32 x] w fun e w' => e = .returned (.float .f32 (rootF x)) ∧ w = w' := by
  obtain ⟨X, Z, a, b, c, _⟩ := Ieee.Format.root_spec hx h0
  have ka := fun w => run_convert_float_float (P := Tryz.prog) w 23 74 .f32 .f64 x X (by kernel_rfl) Tryz.underlying74 a
  have kc := fun w => run_convert_float_float (P := Tryz.prog) w 74 23 .f64 .f32 Z (rootF x) (by kernel_rfl) Tryz.underlying23 c
  have KS := Lib.hid (fun w => mathsqrt_any X Z b w)
  generalize rootF x = r at *
  clear a b c hx h0
  go_enter Tryz.func102, Tryz.ntmps102
  go_wp2_with fail
  refine (KS.out _).mono ?_
  rintro e w' ⟨rfl, rfl⟩
  go_wp2_with fail
  go_ret
  exact ⟨rfl, rfl⟩
theorem refroot_any (x : Nat) (hx : fin Ieee.single x) (h0 : 0 ≤ Ieee.single.V x) (w : World) : Calls Tryz.prog 89 #[.float .f32 x] w fun e w' => e = .returned (.float .f32 (rootF x)) ∧ w = w' := by
  obtain ⟨X, Z, a, b, c, _⟩ := Ieee.Format.root_spec hx h0
  have ka := fun w => run_convert_float_float (P := Tryz.prog) w 23 74 .f32 .f64 x X (by kernel_rfl) Tryz.underlying74 a
  have kc := fun w => run_convert_float_float (P := Tryz.prog) w 74 23 .f64 .f32 Z (rootF x) (by kernel_rfl) Tryz.underlying23 c
  have KS := Lib.hid (fun w => mathsqrt_any X Z b w)
  generalize rootF x = r at *
  clear a b c hx h0
  go_enter Tryz.func89, Tryz.ntmps89
  go_wp2_with fail
  refine (KS.out _).mono ?_
  rintro e w' ⟨rfl, rfl⟩
  go_wp2_with fail
  go_ret
  exact ⟨rfl, rfl⟩

theorem ref_div_ok (x y : Nat) (w : World) (hx : fin Ieee.single x) (hy : fin Ieee.single y) (h0 : Ieee.single.V y ≠ 0) (hr : fin Ieee.single (divF x y)) :
    Calls Tryz.prog 88 #[.float .f32 x, .float .f32 y] w fun e w' => e = .returned (.float .f32 (divF x y)) ∧ w = w' := by
  obtain ⟨X, Y, Z, a, b, c, d⟩ := Ieee.Format.road_div hx hy h0 hr
  generalize divF x y = r at *
  have ka := fun w => run_convert_float_float (P := Tryz.prog) w 23 74 .f32 .f64 x X (by kernel_rfl) Tryz.underlying74 a
  have kb := fun w => run_convert_float_float (P := Tryz.prog) w 23 74 .f32 .f64 y Y (by kernel_rfl) Tryz.underlying74 b
  have kc := fun w => run_float_arith (P := Tryz.prog) w .quo 74 .f64 X Y Z c
  have kd := fun w => run_convert_float_float (P := Tryz.prog) w 74 23 .f64 .f32 Z r (by kernel_rfl) Tryz.underlying23 d
  clear a b c d
  go_enter Tryz.func88, Tryz.ntmps88
  go_wp2
  go_ret
  exact ⟨rfl, rfl⟩
theorem one_ne {y : Nat} (h : 1 ≤ Ieee.single.V y) : Ieee.single.V y ≠ 0 := by intro e; rw [e] at h; exact absurd h (by decide)

/-! ### the region without a rim -/
theorem inner_world (w : World) (X Y W H : Int) (v : Value) : ∀ W0, W0 = (w.alloc (.cells #[.int .i64 X, .int .i64 Y, .int .i64 W, .int .i64 H, v] 32)).alloc (.cells #[.int .i64 0, .int .i64 0, .int .i64 0, .int .i64 0] 29) →
    Fld W0 w.heap.size X Y W H v ∧ Reg W0 (w.heap.size + 1) 0 0 0 0 ∧ Below w.heap.size w W0 := by
  rintro _ rfl
  refine ⟨(Fld.new w X Y W H v).alloc _, ?_, (by repeat (first | with_reducible exact Below.refl _ _ | with_reducible apply Below.drew | with_reducible refine below_drewN ?_ _ | (with_reducible refine Below.setCell ?_ ?_ _; rotate_left; focus (first | omega | (simp <;> omega))) | (with_reducible refine Below.alloc ?_ ?_ _; rotate_left; focus (first | omega | (simp <;> omega)))))⟩
  have := Reg.new (w.alloc (.cells #[.int .i64 X, .int .i64 Y, .int .i64 W, .int .i64 H, v] 32)) 0 0 0 0
  simpa using this

/-- what an operation gives, its memory from the block 'B' on -/
def OpB (c : Int) (X Y W H : Int) (m : List Nat) (B : Nat) (w : World) (e : Ending) (w' : World) : Prop :=
  (∃ x y p q a n k, e = .returned (.tuple #[fldV x y p q a n k, .int .i64 c]) ∧ OutV c X Y W H m w' B x y p q a n k) ∧ Below w.heap.size w w'
def resC (m : List Nat) : Int := if allHt m = true then 0 else 3
end Go.Proofs.YtkmcinibaffpmaaGreat
