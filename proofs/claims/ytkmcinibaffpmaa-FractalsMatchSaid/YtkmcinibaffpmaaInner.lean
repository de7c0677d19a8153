import Derived.Test.YtkmcinibaffpmaaThermOp
import Derived.Test.YtkmcinibaffpmaaFloatN
import Derived.BigQuiet
import Derived.Deep.QuietTactic
namespace Go.Proofs.Ytkmcinibaffpmaa
open Go.ChangeShapes Go.WideShapes Go.ChangeAt Go.RowKit
open Ieee.Format (fin finE htE allFin allHt all_true all_false mulF subF addF Ht Bd divF rootF floorF easeF mixF)
set_option linter.unusedVariables false
open Ieee.Format (negF gradF hypF slopeF lenF curve1 curveF nxF nyF nzF)

theorem run_neg (P : Program) (x : Nat) (w : World) : (Op.unary .neg (.float .f32 x)).run P w = .ok (.float .f32 (negF x)) w := by
  simp [Op.unary, Op.negFloat, negF, FloatKind.format, Ieee.single]

theorem run_sqrt (X Z : Nat) (h : Ieee.double.sqrt X = some Z) (w : World) : (callFunc 305 #[.float .f64 X]).run Try.prog w = .ok (.value (.float .f64 Z)) w := by
  rw [run_callFunc_extern Try.func305 (by kernel_rfl) (by kernel_rfl) (by kernel_rfl) (show _ = some Extern.MathSqrt.sqrt by kernel_rfl)]
  have e : Extern.MathSqrt.sqrt #[.float .f64 X] = pure (.float .f64 Z) := by
    change (match Ieee.double.sqrt X with | some r => (pure (.float .f64 r) : Sem Value) | none => _) = _
    rw [h]
  rw [e]; rfl

theorem mathsqrt_any (X Z : Nat) (h : Ieee.double.sqrt X = some Z) (w : World) : Calls Try.prog 290 #[.float .f64 X] w fun e w' => e = .returned (.float .f64 Z) ∧ w = w' := by
  have K := run_sqrt X Z h
  clear h
  go_enter Try.func290, Try.ntmps290
  go_wp2
  go_ret
  exact ⟨rfl, rfl⟩

theorem root_any (x : Nat) (hx : fin Ieee.single x) (h0 : 0 ≤ Ieee.single.V x) (w : World) : Calls Try.prog 257 #[.float .f32 x] w fun e w' => e = .returned (.float .f32 (rootF x)) ∧ w = w' := by
  obtain ⟨X, Z, a, b, c, _⟩ := Ieee.Format.root_spec hx h0
  have ka := fun w => run_convert_float_float (P := Try.prog) w 29 44 .f32 .f64 x X (by kernel_rfl) Try.underlying44 a
  have kc := fun w => run_convert_float_float (P := Try.prog) w 44 29 .f64 .f32 Z (rootF x) (by kernel_rfl) Try.underlying29 c
  have KS := Lib.hid (fun w => mathsqrt_any X Z b w)
  generalize rootF x = r at *
  clear a b c hx h0
  go_enter Try.func257, Try.ntmps257
  go_wp2_with fail
  refine (KS.out _).mono ?_
  rintro e w' ⟨rfl, rfl⟩
  go_wp2_with fail
  go_ret
  exact ⟨rfl, rfl⟩
theorem refroot_any (x : Nat) (hx : fin Ieee.single x) (h0 : 0 ≤ Ieee.single.V x) (w : World) : Calls Try.prog 262 #[.float .f32 x] w fun e w' => e = .returned (.float .f32 (rootF x)) ∧ w = w' := by
  obtain ⟨X, Z, a, b, c, _⟩ := Ieee.Format.root_spec hx h0
  have ka := fun w => run_convert_float_float (P := Try.prog) w 29 44 .f32 .f64 x X (by kernel_rfl) Try.underlying44 a
  have kc := fun w => run_convert_float_float (P := Try.prog) w 44 29 .f64 .f32 Z (rootF x) (by kernel_rfl) Try.underlying29 c
  have KS := Lib.hid (fun w => mathsqrt_any X Z b w)
  generalize rootF x = r at *
  clear a b c hx h0
  go_enter Try.func262, Try.ntmps262
  go_wp2_with fail
  refine (KS.out _).mono ?_
  rintro e w' ⟨rfl, rfl⟩
  go_wp2_with fail
  go_ret
  exact ⟨rfl, rfl⟩

theorem ref_div_ok (x y : Nat) (w : World) (hx : fin Ieee.single x) (hy : fin Ieee.single y) (h0 : Ieee.single.V y ≠ 0) (hr : fin Ieee.single (divF x y)) :
    Calls Try.prog 98 #[.float .f32 x, .float .f32 y] w fun e w' => e = .returned (.float .f32 (divF x y)) ∧ w = w' := by
  obtain ⟨X, Y, Z, a, b, c, d⟩ := Ieee.Format.road_div hx hy h0 hr
  generalize divF x y = r at *
  have ka := fun w => run_convert_float_float (P := Try.prog) w 29 44 .f32 .f64 x X (by kernel_rfl) Try.underlying44 a
  have kb := fun w => run_convert_float_float (P := Try.prog) w 29 44 .f32 .f64 y Y (by kernel_rfl) Try.underlying44 b
  have kc := fun w => run_float_arith (P := Try.prog) w .quo 44 .f64 X Y Z c
  have kd := fun w => run_convert_float_float (P := Try.prog) w 44 29 .f64 .f32 Z r (by kernel_rfl) Try.underlying29 d
  clear a b c d
  go_enter Try.func98, Try.ntmps98
  go_wp2
  go_ret
  exact ⟨rfl, rfl⟩
theorem one_ne {y : Nat} (h : 1 ≤ Ieee.single.V y) : Ieee.single.V y ≠ 0 := by intro e; rw [e] at h; exact absurd h (by decide)

/-! ### the region without a rim -/
theorem inner_world (w : World) (X Y W H : Int) (v : Value) : ∀ W0, W0 = (w.alloc (.cells #[.int .i64 X, .int .i64 Y, .int .i64 W, .int .i64 H, v] 26)).alloc (.cells #[.int .i64 0, .int .i64 0, .int .i64 0, .int .i64 0] 23) →
    Fld W0 w.heap.size X Y W H v ∧ Reg W0 (w.heap.size + 1) 0 0 0 0 ∧ Below w.heap.size w W0 := by
  rintro _ rfl
  refine ⟨(Fld.new w X Y W H v).alloc _, ?_, (by repeat (first | with_reducible exact Below.refl _ _ | with_reducible apply Below.drew | with_reducible refine below_drewN ?_ _ | (with_reducible refine Below.setCell ?_ ?_ _; rotate_left; focus (first | omega | (simp <;> omega))) | (with_reducible refine Below.alloc ?_ ?_ _; rotate_left; focus (first | omega | (simp <;> omega)))))⟩
  have := Reg.new (w.alloc (.cells #[.int .i64 X, .int .i64 Y, .int .i64 W, .int .i64 H, v] 26)) 0 0 0 0
  simpa using this

/-- the reference's inner, its region told -/
theorem refinner_reg (X Y : Int) (Wn Hn : Nat) (a : Option Addr) (n c N : Nat) (w : World) (hw : 1 + 2 * N ≤ Wn) (hw2 : Wn ≤ 512) (hh : 1 + 2 * N ≤ Hn) (hh2 : Hn ≤ 512) (hN : N ≤ 64) (hx0 : -4194304 ≤ X) (hx1 : X ≤ 4194304) (hy0 : -4194304 ≤ Y) (hy1 : Y ≤ 4194304) :
    Calls Try.prog 135 #[fldV X Y Wn Hn a n c, .int .i64 N] w fun e w' => e = .returned (.tuple #[reg (X + N) (Y + N) ((Wn - 2 * N : Nat) : Int) ((Hn - 2 * N : Nat) : Int), .int .i64 0]) ∧ Below w.heap.size w w' := by
  have K := Lib.hid (fun w' => grown_any X Y Wn Hn (-(N : Int)) w' (by omega) (by omega) (by omega) (by omega) (by omega) (by omega) (by omega) (by omega) (by omega) (by omega))
  have hB : Below w.heap.size w ((w.alloc (.cells #[.int .i64 X, .int .i64 Y, .int .i64 Wn, .int .i64 Hn, .slice a n c] 26)).alloc (.cells #[.int .i64 0, .int .i64 0, .int .i64 0, .int .i64 0] 23)) := (by repeat (first | with_reducible exact Below.refl _ _ | with_reducible apply Below.drew | with_reducible refine below_drewN ?_ _ | (with_reducible refine Below.setCell ?_ ?_ _; rotate_left; focus (first | omega | (simp <;> omega))) | (with_reducible refine Below.alloc ?_ ?_ _; rotate_left; focus (first | omega | (simp <;> omega)))))
  have HB := Lib.hid hB
  have HE : Hid (X - -(N : Int) = X + N ∧ Y - -(N : Int) = Y + N ∧ (Wn : Int) + 2 * -(N : Int) = ((Wn - 2 * N : Nat) : Int) ∧ (Hn : Int) + 2 * -(N : Int) = ((Hn - 2 * N : Nat) : Int)) := ⟨by omega, by omega, by omega, by omega⟩
  clear hB
  go_enter Try.func135, Try.ntmps135
  go_wp2_with fail
  refine (K.out _).mono ?_
  rintro e w1 ⟨rfl, b1⟩
  have hR : Reg w1 (w.heap.size + 1) 0 0 0 0 := by
    have := (Reg.new (w.alloc (.cells #[.int .i64 X, .int .i64 Y, .int .i64 Wn, .int .i64 Hn, .slice a n c] 26)) 0 0 0 0)
    have := this.below b1 (by simp)
    simpa using this
  have B1 := Lib.hid (HB.out.trans (b1.mono HB.out.size))
  clear b1
  have lz := hR.lt
  obtain ⟨d0, d1, d2, d3⟩ := hR.cells
  have q0 : w1.frozen? ⟨w.heap.size + 1, 0, none⟩ = false := frozen_of_row w1 _ 0 _ _ hR
  have q1 : w1.frozen? ⟨w.heap.size + 1, 1, none⟩ = false := frozen_of_row w1 _ 1 _ _ hR
  have q2 : w1.frozen? ⟨w.heap.size + 1, 2, none⟩ = false := frozen_of_row w1 _ 2 _ _ hR
  have q3 : w1.frozen? ⟨w.heap.size + 1, 3, none⟩ = false := frozen_of_row w1 _ 3 _ _ hR
  clear hR
  have t1 : ¬ ((Wn : Int) + 2 * -(N : Int) < 1) := by omega
  have t2 : ¬ ((Hn : Int) + 2 * -(N : Int) < 1) := by omega
  go_wp2
  have B2 := B1.out
  obtain ⟨z1, z2, z3, z4⟩ := HE.out
  exact bodyPost_ret (v := .tuple #[reg (X - -(N : Int)) (Y - -(N : Int)) (Wn + 2 * -(N : Int)) (Hn + 2 * -(N : Int)), .int .i64 0]) (by simp [results, Try.results135, go_sem, *]) rfl ⟨by rw [z1, z2, z3, z4], (by have hszz := B2.size; repeat (first | with_reducible exact B2 | with_reducible apply Below.drew | with_reducible refine below_drewN ?_ _ | (with_reducible refine Below.setCell ?_ ?_ _; rotate_left; focus (first | omega | (simp <;> omega))) | (with_reducible refine Below.alloc ?_ ?_ _; rotate_left; focus (first | omega | (simp <;> omega)))))⟩

/-! ### a list made and looked at -/
/-- what an operation gives, its memory from the block 'B' on -/
def OpB (c : Int) (X Y W H : Int) (m : List Nat) (B : Nat) (w : World) (e : Ending) (w' : World) : Prop :=
  (∃ x y p q a n k, e = .returned (.tuple #[fldV x y p q a n k, .int .i64 c]) ∧ OutV c X Y W H m w' B x y p q a n k) ∧ Below w.heap.size w w'
def resC (m : List Nat) : Int := if allHt m = true then 0 else 3
theorem result_any (X Y W H : Int) (g cap B : Nat) (m : List Nat) (w : World) (ho : OwnF w B g cap m) (hm : m.length ≤ 1099511627776) :
    Calls Try.prog 133 #[fldV X Y W H (some ⟨g, 0, none⟩) m.length cap] w fun e w' => OpB (resC m) X Y W H m B w e w' := by
  unfold resC
  cases h : allHt m with
  | true =>
    rw [if_pos rfl]
    have hh := Ieee.Format.allHt_iff.1 h
    refine (result_ok X Y W H g 0 cap m w (ho.row hm) (fun j hj => ?_)).mono ?_
    · rw [List.getD_eq_getElem?_getD, List.getElem?_eq_getElem hj]; exact hh _ (List.getElem_mem hj)
    · rintro e w' ⟨rfl, b⟩
      exact ⟨⟨_, _, _, _, _, _, _, rfl, .inr ⟨rfl, rfl, rfl, rfl, rfl, g, rfl, rfl, ho.below b ho.lt.2⟩⟩, b⟩
  | false =>
    rw [if_neg (by decide)]
    refine (result_no X Y W H g 0 cap m w (ho.row hm) h).mono ?_
    rintro e w' ⟨rfl, b⟩
    exact ⟨⟨_, _, _, _, _, _, _, rfl, .inl ⟨by decide, rfl, rfl, rfl, rfl, rfl, rfl, rfl⟩⟩, b⟩
end Go.Proofs.Ytkmcinibaffpmaa
